/- Walks. -/
import Derived.RegionTactic
import Derived.Deep.DeepCutAuto
import Derived.Maps.Own
import Derived.Test.YtpgiohmcggllgaaGreatDoorQ5
set_option linter.unusedVariables false
set_option linter.unusedSimpArgs false
set_option maxHeartbeats 8000000
set_option maxRecDepth 100000
open Array renaming all_eq_true'->QX,getD_eq_getD_getElem?->On,getElem?_eq_getElem->Oo,getElem?_eq_none->RQ,getElem?_setIfInBounds_ne->PV
open Bool renaming and_eq_true->Oa,eq_false_iff->Q6,or_eq_true->Pe
open Go.Maps renaming Keyed->TX,atKey_put_other->N2,atKey_put_same->OQ
open Go.Oper renaming wp->P6
open Go.Proofs.Tryz renaming func49->TF,func50->TG,func79->QI,ntmps49->SW,ntmps50->S0,ntmps79->Qs,prog->KD,underlying104->Sf,underlying151->P_,underlying3->Qn,underlying9->Sn
open Go.Region renaming Mode->Qb,binds->OJ,free->SC,noSelect->Ro,ready->Oq,wanted->Po
open Go.WideAt renaming IsKeyLit->Pb
open Go.World renaming cell?->GD,frozen?_of_block->OS,ownsRow_nil->OL
open List renaming all_eq_true->P0,append_assoc->OF,append_nil->Ov,cons_append->Oe,eq_nil_of_length_eq_zero->Ox,getElem?_map->OY,getElem_cons_succ->RU,getElem_cons_zero->RT,length->Pj,length_append->NZ,length_cons->N5,length_nil->OD,length_pos_iff->Pv,map_append->RB,map_cons->Ol,mem_cons->Om,mem_filter->QB,mem_of_getElem?->Oc,take_length->Oh
open Nat renaming add_mul->Qy,lt_or_ge->Qr,lt_succ_self->Sp,sub_self->Rf,zero_add->PD,zero_le->Og
open Option renaming bind_eq_some_iff->No,bind_some->Mm,getD_some->OW,map_eq_some_iff->N3,map_some->Pn
open Prod.mk renaming inj->Un,injEq->Re
open UInt8 renaming le_iff_toNat_le->Pi
namespace Go.Proofs.YtpgiohmcggllgaaGreatDoor
open Go.RowKit
inductive Tr where
 | am (a:Bs)
 | ls (ps:List Tr)
mutual
def zu:Tr->Bs
 | .am a=>a
 | .ls ps=>40::je ps
def je:List Tr->Bs
 | []=>[41]
 | p::ps=>zu p++qQ ps
def qQ:List Tr->Bs
 | []=>[41]
 | p::ps=>32::(zu p++qQ ps)
end
mutual
def jH:Tr->Prop
 | .am a=>a≠[]/\∀ c∈a,sep c=false
 | .ls ps=>ps≠[]/\qj ps
def qj:List Tr->Prop
 | []=>True
 | p::ps=>jH p/\qj ps
end
mutual
def jD:Tr->Nat
 | .am _=>0
 | .ls ps=>1+qu ps
def qu:List Tr->Nat
 | []=>0
 | p::ps=>max (jD p) (qu ps)
end
mutual
def qE:Tr->Nat
 | .am _=>1
 | .ls ps=>kM ps
def kM:List Tr->Nat
 | []=>0
 | p::ps=>qE p+kM ps
end
def y6 (rd:Bs->Option (Tr×Bs)):Nat->Bs->Option (List Tr×Bs)
 | 0,_=>none
 | n+1,l=>(rd l).bind fun x=>match x.2 with
   | []=>none
   | c::r=>if c=41 then some ([x.1],r) else if c=32 then (y6 rd n r).map fun y=>(x.1::y.1,y.2) else none
def vW:Nat->Bs->Option (Tr×Bs)
 | 0,_=>none
 | d+1,l=>match l with
   | []=>none
   | c::r=>if c=40 then (y6 (vW d) (r.length+1) r).map fun y=>(.ls y.1,y.2) else if zF l=[] then none else some (.am (zF l),zD l)
theorem gw (d:Nat) (r:Bs):vW (d+1) (40::r)=(y6 (vW d) (r.length+1) r).map fun y=>(.ls y.1,y.2):=by rw [vW];simp
theorem gh (d:Nat) (c:UInt8) (r:Bs) (h:c≠40):vW (d+1) (c::r)=if zF (c::r)=[] then none else some (.am (zF (c::r)),zD (c::r)):=by rw [vW];simp [h]
theorem wordOf_pos {l:Bs} (h:zF l≠[]):(zD l).length<l.length:=by
 have:=congrArg Pj (vl l);rw [NZ] at this
 have:0<(zF l).length:=by cases hw:zF l with
  | nil=>exact absurd hw h
  | cons c r=>simp
 omega
def Shrinks (rd:Bs->Option (Tr×Bs)):Prop:=∀ l t r,rd l=some (t,r)->r.length<l.length
theorem bI {rd:Bs->Option (Tr×Bs)} (h:Shrinks rd):∀ (n:Nat) (l:Bs) (ps:List Tr) (r:Bs),y6 rd n l=some (ps,r)->r.length<l.length
 | 0,l,ps,r,k=>by simp [y6] at k
 | n+1,l,ps,r,k=>by
   rw [y6,No] at k;obtain ⟨⟨t,r1⟩,k1,k2⟩:=k;have h1:=h _ _ _ k1;cases r1 with
   | nil=>simp at k2
   | cons c r1 =>
     simp only [N5] at h1;simp only at k2;split at k2
     ·simp at k2;obtain ⟨_,rfl⟩:=k2;omega
     ·split at k2
      ·rw [N3] at k2;obtain ⟨⟨qs,r2⟩,k3,k4⟩:=k2;simp at k4;obtain ⟨_,rfl⟩:=k4;have:=bI h n _ _ _ k3;omega
      ·simp at k2
theorem uo:∀ d,Shrinks (vW d)
 | 0=>fun l t r h=>by simp [vW] at h
 | d+1=>fun l t r h=>by
   cases l with
   | nil=>simp [vW] at h
   | cons c l =>
     by_cases hc:c=40
     ·subst hc;rw [gw,N3] at h;obtain ⟨⟨ps,r1⟩,h1,h2⟩:=h;simp at h2;obtain ⟨_,rfl⟩:=h2;have:=bI (uo d) _ _ _ _ h1;simp;omega
     ·rw [gh d c l hc] at h;split at h
      ·simp at h
      ·rename_i hw;simp at h;obtain ⟨_,rfl⟩:=h;exact wordOf_pos hw
theorem fI {rd:Bs->Option (Tr×Bs)} (h:Shrinks rd):∀ (n m:Nat) (l:Bs),l.length<n->l.length<m->y6 rd n l=y6 rd m l
 | 0,_,_,k,_=>by omega
 | _+1,0,_,_,k=>by omega
 | n+1,m+1,l,k,k'=>by
   rw [y6,y6];cases hq:rd l with
   | none=>rfl
   | some x =>
     obtain ⟨t,r1⟩:=x;have h1:=h _ _ _ hq;simp only [Mm];cases r1 with
     | nil=>rfl
     | cons c r1 =>
       simp only [N5] at h1;simp only;rw [fI h n m r1 (by omega) (by omega)]
theorem tail_start (ps:List Tr) (r:Bs):jC (qQ ps++r):=by
 cases ps with
 | nil=>rw [qQ];exact .inr ⟨41,r,rfl,by decide⟩
 | cons p ps=>rw [qQ];exact .inr ⟨32,_,rfl,by decide⟩
mutual
theorem gx:∀ (t:Tr) (d:Nat) (r:Bs),jH t->jD t<d->jC r->vW d (zu t++r)=some (t,r)
 | .am a,d,r,ho,hd,hr=>by
   rw [jH] at ho;obtain ⟨d,rfl⟩:∃ k,d=k+1:=⟨d-1,by omega⟩;obtain ⟨h1,h2⟩:=gI ho.2 hr;rw [zu];cases a with
   | nil=>exact absurd rfl ho.1
   | cons c a =>
     have hc:c≠40:=by rintro rfl;have:=ho.2 40 (by simp);simp [sep] at this
     rw [Oe] at *;rw [gh d c _ hc,h1,h2,if_neg (by simp)]
 | .ls ps,d,r,ho,hd,hr=>by
   rw [jH] at ho;rw [jD] at hd;obtain ⟨d,rfl⟩:∃ k,d=k+1:=⟨d-1,by omega⟩;rw [zu,Oe,gw];have:=fL ps d r _ ho.2 ho.1 (by omega) (Sp _);rw [this];rfl
theorem fL:∀ (ps:List Tr) (d:Nat) (r:Bs) (n:Nat),qj ps->ps≠[]->qu ps<d->(je ps++r).length<n->y6 (vW d) n (je ps++r)=some (ps,r)
 | [],d,r,n,_,hne,_,_=>absurd rfl hne
 | p::ps,d,r,n,ho,_,hd,hn=>by
   rw [qj] at ho;rw [qu] at hd;obtain ⟨n,rfl⟩:∃ k,n=k+1:=⟨n-1,by omega⟩;have h1:=gx p d (qQ ps++r) ho.1 (by omega) (tail_start ps r);rw [je,OF] at *;rw [y6,h1,Mm];have hl:=uo d _ _ _ h1;cases ps with
   | nil=>rw [qQ];simp
   | cons q qs =>
     rw [qQ] at *;simp only [Oe];rw [if_neg (by decide),if_pos trivial];have e:je (q::qs)=zu q++qQ qs:=by rw [je]
     have:=fL (q::qs) d r n ho.2 (by simp) (by omega) (by
      rw [e];simp only [Oe,N5,NZ] at hn hl ⊢
      omega)
     rw [e] at this;rw [this];rfl
end
theorem eD {d:Nat} (ih:∀ (l:Bs) (t:Tr) (r:Bs),vW d l=some (t,r)->l=zu t++r/\jH t/\jD t<d/\(∀ a,t=.am a->jC r)) :
 ∀ (n:Nat) (l:Bs) (ps:List Tr) (r:Bs),y6 (vW d) n l=some (ps,r)->l=je ps++r/\qj ps/\ps≠[]/\qu ps<d
 | 0,l,ps,r,k=>by simp [y6] at k
 | n+1,l,ps,r,k=>by
   rw [y6,No] at k;obtain ⟨⟨t,r1⟩,k1,k2⟩:=k;obtain ⟨e1,o1,d1,_⟩:=ih _ _ _ k1;cases r1 with
   | nil=>simp at k2
   | cons c r1 =>
     simp only at k2;split at k2
     ·rename_i hc;simp at k2;obtain ⟨rfl,rfl⟩:=k2;subst hc;refine ⟨?_,?_,by simp,?_⟩
      ·rw [je,qQ,e1];simp
      ·rw [qj,qj];exact ⟨o1,trivial⟩
      ·rw [qu,qu];omega
     ·split at k2
      ·rename_i hc;rw [N3] at k2;obtain ⟨⟨qs,r2⟩,k3,k4⟩:=k2;simp at k4;obtain ⟨rfl,rfl⟩:=k4;obtain ⟨e2,o2,n2,d2⟩:=eD ih n _ _ _ k3;subst hc;refine ⟨?_,?_,by simp,?_⟩
       ·cases qs with
        | nil=>exact absurd rfl n2
        | cons q qs=>rw [je] at e2;rw [je,qQ,e1,e2];simp
       ·rw [qj];exact ⟨o1,o2⟩
       ·rw [qu];omega
      ·simp at k2
theorem xI:∀ (d:Nat) (l:Bs) (t:Tr) (r:Bs),vW d l=some (t,r)->l=zu t++r/\jH t/\jD t<d/\(∀ a,t=.am a->jC r)
 | 0,l,t,r,h=>by simp [vW] at h
 | d+1,l,t,r,h=>by
   cases l with
   | nil=>simp [vW] at h
   | cons c l =>
     by_cases hc:c=40
     ·subst hc;rw [gw,N3] at h;obtain ⟨⟨ps,r1⟩,h1,h2⟩:=h;simp at h2;obtain ⟨rfl,rfl⟩:=h2;obtain ⟨e1,o1,n1,d1⟩:=eD (xI d) _ _ _ _ h1;refine ⟨by rw [zu,e1];rfl,by rw [jH];exact ⟨n1,o1⟩,by rw [jD];omega,fun a e=>by simp at e⟩
     ·rw [gh d c l hc] at h;split at h
      ·simp at h
      ·rename_i hw;simp at h;obtain ⟨rfl,rfl⟩:=h;refine ⟨by rw [zu];exact vl _,?_,by rw [jD];omega,fun a _=>pu _⟩;rw [jH];refine ⟨hw,fun x hx=>?_⟩;have key:∀ (m:Bs),∀ y∈m.takeWhile (fun c=>!sep c),sep y=false:=by
        intro m
        induction m with
        | nil=>intro y hy;simp at hy
        | cons z m ih =>
          intro y hy;rw [List.takeWhile_cons] at hy;split at hy
          ·rename_i hz;rcases Om.1 hy with rfl | hy
           ·simpa using hz
           ·exact ih y hy
          ·simp at hy
       exact key _ x hx
def qv (s:Bs):Bool:=match s with
 | []=>false
 | c::r=>decide (r.length<=2) && (120<=c && c<=122) && r.all dig
def j_:Bs:=[108,97,109]
def vi:Bs:=[97,112,112]
def ifW:Bs:=[105,102]
def jO (a:Bs):Bool:=a == [116] || a == [102] || a == [117]
def qh:List Tr->Bs
 | .am a::_=>a
 | _=>[]
def qP:Tr->Bs
 | .am a=>a
 | .ls _=>[]
def qy:Tr->Bool
 | .am a=>jO a || qv a
 | .ls [h,a,b]=>qh [h] == vi && qy a && qy b
 | .ls [h,a,b,c]=>(qh [h] == j_ && (qv (qP a) && (zI (zu b)).2 && qy c)) || (qh [h] == ifW && (qy a && qy b && qy c))
 | .ls _=>false
def qx (l:Bs):Option Tr:=if 1000<l.length then none else match vW 101 l with
 | some (t,[])=>if qy t && decide (qE t<=60) then some t else none
 | _=>none
inductive Tm where
 | nm (x:Bs)
 | wd (w:Bs)
 | lam (x:Bs) (k:Ty) (t:Tm)
 | app (m n:Tm)
 | ite (l m n:Tm)
def zT:Tm->Nat
 | .nm _=>1
 | .wd _=>1
 | .lam _ k t=>2+zJ k+zT t
 | .app m n=>1+zT m+zT n
 | .ite l m n=>1+zT l+zT m+zT n
def trT:Ty->Tr
 | .mk ts=>trTs ts
where trTs:List Ty->Tr
 | []=>.am [98]
 | t::ts=>.ls [.am [62],trT t,trTs ts]
def kx:Tm->Tr
 | .nm x=>.am x
 | .wd w=>.am w
 | .lam x k t=>.ls [.am j_,.am x,trT k,kx t]
 | .app m n=>.ls [.am vi,kx m,kx n]
 | .ite l m n=>.ls [.am ifW,kx l,kx m,kx n]
def xY:Tm->Prop
 | .nm x=>qv x=true
 | .wd w=>jO w=true
 | .lam x _ t=>qv x=true/\xY t
 | .app m n=>xY m/\xY n
 | .ite l m n=>xY l/\xY m/\xY n
def kP:Tm->Bool
 | .nm _=>true
 | .wd _=>true
 | .lam _ k t=>decide (zJ k<=15) && kP t
 | .app m n=>kP m && kP n
 | .ite l m n=>kP l && kP m && kP n
def jj:Tm->Nat
 | .nm _=>0
 | .wd _=>0
 | .lam _ _ t=>1+jj t
 | .app m n=>1+max (jj m) (jj n)
 | .ite l m n=>1+max (jj l) (max (jj m) (jj n))
def jU:Nat->Bs->Option (Tm×Bs)
 | d,l=>match cut [40] l with
   | none=>if qv (zF l) then some (.nm (zF l),zD l) else if jO (zF l) then some (.wd (zF l),zD l) else none
   | some l1=>match d with
     | 0=>none
     | d+1 =>
       if zF l1=j_ then (cut [32] (zD l1)).bind fun l3=>if qv (zF l3) then (cut [32] (zD l3)).bind fun l4=>(rdK 60 l4).bind fun k=>(cut [32] k.2).bind fun l6=>(jU d l6).bind fun t=>(cut [41] t.2).map fun l8=>(.lam (zF l3) k.1 t.1,l8) else none
       else if zF l1=vi then (cut [32] (zD l1)).bind fun l3=>(jU d l3).bind fun m=>(cut [32] m.2).bind fun l4=>(jU d l4).bind fun n=>(cut [41] n.2).map fun l5=>(.app m.1 n.1,l5)
       else if zF l1=ifW then (cut [32] (zD l1)).bind fun l3=>(jU d l3).bind fun x=>(cut [32] x.2).bind fun l4=>(jU d l4).bind fun m=>(cut [32] m.2).bind fun l5=>(jU d l5).bind fun n=>(cut [41] n.2).map fun l6=>(.ite x.1 m.1 n.1,l6)
       else none
def qr (l:Bs):Option Tm:=match jU 60 l with
 | some (t,[])=>if zT t<=60 then some t else none
 | _=>none
theorem y9 {x:Bs} (h:qv x=true):x≠[]/\∀ c∈x,sep c=false:=by
 cases x with
 | nil=>simp [qv] at h
 | cons c r =>
   simp only [qv,Oa,decide_eq_true_eq,P0] at h;obtain ⟨⟨_,h1,h2⟩,h3⟩:=h;refine ⟨by simp,fun y hy=>?_⟩;rcases Om.1 hy with rfl | hy
   ·rw [Q6];intro hs;simp only [sep,Pe,beq_iff_eq] at hs;rcases hs with (rfl | rfl) | rfl <;> revert h1 <;> decide
   ·exact dig_sep (h3 y hy)
theorem wL {x:Bs} (h:jO x=true):x≠[]/\∀ c∈x,sep c=false:=by
 simp only [jO,Pe,beq_iff_eq] at h;rcases h with (rfl | rfl) | rfl <;> exact ⟨by simp,by intro c hc;simp at hc;subst hc;decide⟩
theorem dd {x:Bs} (h:jO x=true):qv x=false:=by
 simp only [jO,Pe,beq_iff_eq] at h;rcases h with (rfl | rfl) | rfl <;> decide
mutual
theorem vu:∀ k:Ty,zu (trT k)=zN k
 | .mk ts=>by rw [trT,textTr_Ts ts]
theorem textTr_Ts:∀ ts:List Ty,zu (trT.trTs ts)=zN (.mk ts)
 | []=>by rw [trT.trTs,zu,yR]
 | t::ts=>by rw [trT.trTs,zu,je,qQ,qQ,qQ,zu,vu t,textTr_Ts ts,yS];simp
end
mutual
theorem cK:∀ k:Ty,jH (trT k)
 | .mk ts=>by rw [trT];exact okTr_Ts ts
theorem okTr_Ts:∀ ts:List Ty,jH (trT.trTs ts)
 | []=>by rw [trT.trTs,jH];exact ⟨by simp,by intro c hc;simp at hc;subst hc;decide⟩
 | t::ts=>by
   rw [trT.trTs,jH,qj,qj,qj,qj];exact ⟨by simp,by rw [jH];exact ⟨by simp,by intro c hc;simp at hc;subst hc;decide⟩,cK t,okTr_Ts ts,trivial⟩
end
mutual
theorem wE:∀ k:Ty,qE (trT k)=zJ k
 | .mk ts=>by rw [trT,sizeTr_Ts ts]
theorem sizeTr_Ts:∀ ts:List Ty,qE (trT.trTs ts)=zJ (.mk ts)
 | []=>by rw [trT.trTs,qE,zJ,zc]
 | t::ts=>by rw [trT.trTs,qE,kM,kM,kM,kM,qE,wE t,sizeTr_Ts ts,vQ];omega
end
mutual
theorem deepTr_T:∀ k:Ty,jD (trT k)<zJ k
 | .mk ts=>by rw [trT];exact deepTr_Ts ts
theorem deepTr_Ts:∀ ts:List Ty,jD (trT.trTs ts)<zJ (.mk ts)
 | []=>by rw [trT.trTs,jD,zJ];omega
 | t::ts=>by
   have h1:=deepTr_T t;have h2:=deepTr_Ts ts;rw [trT.trTs,jD,qu,qu,qu,qu,jD,vQ];omega
end
theorem uY:∀ t:Tm,xY t->jH (kx t)
 | .nm x,h=>by rw [kx,jH];exact y9 h
 | .wd w,h=>by rw [kx,jH];exact wL h
 | .lam x k t,h=>by
   rw [kx,jH,qj,qj,qj,qj,qj];exact ⟨by simp,by rw [jH];exact ⟨by decide,by decide⟩,by rw [jH];exact y9 h.1,cK k,uY t h.2,trivial⟩
 | .app m n,h=>by
   rw [kx,jH,qj,qj,qj,qj];exact ⟨by simp,by rw [jH];exact ⟨by decide,by decide⟩,uY m h.1,uY n h.2,trivial⟩
 | .ite l m n,h=>by
   rw [kx,jH,qj,qj,qj,qj,qj];exact ⟨by simp,by rw [jH];exact ⟨by decide,by decide⟩,uY l h.1,uY m h.2.1,uY n h.2.2,trivial⟩
theorem up:∀ t:Tm,qE (kx t)=zT t
 | .nm x=>by rw [kx,qE,zT]
 | .wd w=>by rw [kx,qE,zT]
 | .lam x k t=>by rw [kx,qE,kM,kM,kM,kM,kM,qE,qE,wE,up t,zT];omega
 | .app m n=>by rw [kx,qE,kM,kM,kM,kM,qE,up m,up n,zT];omega
 | .ite l m n=>by rw [kx,qE,kM,kM,kM,kM,kM,qE,up l,up m,up n,zT];omega
theorem yz:∀ t:Tm,jD (kx t)<zT t
 | .nm x=>by rw [kx,jD,zT];omega
 | .wd w=>by rw [kx,jD,zT];omega
 | .lam x k t=>by
   have h1:=deepTr_T k;have h2:=yz t;rw [kx,jD,qu,qu,qu,qu,qu,jD,jD,zT];omega
 | .app m n=>by
   have h1:=yz m;have h2:=yz n;rw [kx,jD,qu,qu,qu,qu,jD,zT];omega
 | .ite l m n=>by
   have h0:=yz l;have h1:=yz m;have h2:=yz n;rw [kx,jD,qu,qu,qu,qu,qu,jD,zT];omega
theorem uK:∀ t:Tm,jj t<zT t
 | .nm x=>by rw [jj,zT];omega
 | .wd w=>by rw [jj,zT];omega
 | .lam x k t=>by have:=uK t;rw [jj,zT];omega
 | .app m n=>by have:=uK m;have:=uK n;rw [jj,zT];omega
 | .ite l m n=>by have:=uK l;have:=uK m;have:=uK n;rw [jj,zT];omega
def kJ (t:Tm):Bs:=zu (kx t)
theorem yF (x:Bs) (k:Ty) (t:Tm):kJ (.lam x k t)=40::(j_++32::(x++32::(zN k++32::(kJ t++[41])))):=by
 unfold kJ;rw [kx,zu,je,qQ,qQ,qQ,qQ,zu,zu,vu]
theorem yN (m n:Tm):kJ (.app m n)=40::(vi++32::(kJ m++32::(kJ n++[41]))):=by
 unfold kJ;rw [kx,zu,je,qQ,qQ,qQ,zu]
theorem yM (l m n:Tm):kJ (.ite l m n)=40::(ifW++32::(kJ l++32::(kJ m++32::(kJ n++[41])))):=by
 unfold kJ;rw [kx,zu,je,qQ,qQ,qQ,qQ,zu]
theorem cut_no {c:UInt8} {l:Bs} (h:∀ r,l≠c::r):cut [c] l=none:=by
 unfold cut;cases l with
 | nil=>rfl
 | cons d r =>
   have:d≠c:=by rintro rfl;exact h r rfl
   simp [List.isPrefixOf,this.symm]
theorem yT (c:UInt8) (r:Bs) (h:sep c=true):jC (c::r):=.inr ⟨c,r,rfl,h⟩
theorem rdTm_word {d:Nat} {w r:Bs} (hw:w≠[]/\∀ c∈w,sep c=false) (hr:jC r):jU d (w++r)=if qv w then some (.nm w,r) else if jO w then some (.wd w,r) else none:=by
 obtain ⟨h1,h2⟩:=gI hw.2 hr;have hc:cut [40] (w++r)=none:=cut_no fun r' e=>by
  cases w with
  | nil=>exact hw.1 rfl
  | cons c w =>
    simp at e;have:=hw.2 c (by simp);rw [e.1] at this;simp [sep] at this
 rw [jU.eq_def];simp only [hc,h1,h2]
theorem ji {d:Nat} {l:Bs}:jU (d+1) (40::l)=(
        if zF l=j_ then (cut [32] (zD l)).bind fun l3=>if qv (zF l3) then (cut [32] (zD l3)).bind fun l4=>(rdK 60 l4).bind fun k=>(cut [32] k.2).bind fun l6=>(jU d l6).bind fun t=>(cut [41] t.2).map fun l8=>(.lam (zF l3) k.1 t.1,l8) else none
        else if zF l=vi then (cut [32] (zD l)).bind fun l3=>(jU d l3).bind fun m=>(cut [32] m.2).bind fun l4=>(jU d l4).bind fun n=>(cut [41] n.2).map fun l5=>(.app m.1 n.1,l5)
        else if zF l=ifW then (cut [32] (zD l)).bind fun l3=>(jU d l3).bind fun x=>(cut [32] x.2).bind fun l4=>(jU d l4).bind fun m=>(cut [32] m.2).bind fun l5=>(jU d l5).bind fun n=>(cut [41] n.2).map fun l6=>(.ite x.1 m.1 n.1,l6)
        else none):=by
 rw [jU.eq_def];simp only [yU]
theorem rdTm_zero {l:Bs}:jU 0 (40::l)=none:=by
 rw [jU.eq_def];simp only [yU]
theorem word_w {w:Bs} (hw:∀ c∈w,sep c=false) {c:UInt8} {r:Bs} (h:sep c=true):zF (w++c::r)=w/\zD (w++c::r)=c::r:=gI hw (yT c r h)
theorem yL:∀ (t:Tm) (d:Nat) (r:Bs),xY t->jj t<=d->zT t<=100->jC r->jU d (kJ t++r)=some (t,r)
 | .nm x,d,r,ho,_,_,hr=>by
   have e:kJ (.nm x)=x:=by unfold kJ;rw [kx,zu]
   rw [e,rdTm_word (y9 ho) hr,if_pos (show qv x=true from ho)]
 | .wd w,d,r,ho,_,_,hr=>by
   have e:kJ (.wd w)=w:=by unfold kJ;rw [kx,zu]
   rw [e,rdTm_word (wL ho) hr,dd ho,if_neg (by simp),if_pos (show jO w=true from ho)]
 | .lam x k t,d,r,ho,hd,hs,hr=>by
   rw [jj] at hd;rw [zT] at hs;obtain ⟨d,rfl⟩:∃ j,d=j+1:=⟨d-1,by omega⟩;have n1:=y9 ho.1;have e:kJ (.lam x k t)++r=40::(j_++32::(x++32::(zN k++32::(kJ t++41::r)))):=by rw [yF];simp
   obtain ⟨a1,a2⟩:=word_w (w:=j_) (by decide) (c:=32) (r:=x++32::(zN k++32::(kJ t++41::r))) (by decide);obtain ⟨b1,b2⟩:=word_w n1.2 (c:=32) (r:=zN k++32::(kJ t++41::r)) (by decide);rw [e,ji,a1,a2,if_pos rfl,yU];simp only [Mm];rw [b1,b2,if_pos ho.1,yU];simp only [Mm];rw [p9 60 k _ (by omega)];simp only [Mm,yU];rw [yL t d (41::r) ho.2 (by omega) (by omega) (yT _ _ (by decide))];simp only [Mm,yU,Pn]
 | .app m n,d,r,ho,hd,hs,hr=>by
   rw [jj] at hd;rw [zT] at hs;obtain ⟨d,rfl⟩:∃ j,d=j+1:=⟨d-1,by omega⟩;have e:kJ (.app m n)++r=40::(vi++32::(kJ m++32::(kJ n++41::r))):=by rw [yN];simp
   obtain ⟨a1,a2⟩:=word_w (w:=vi) (by decide) (c:=32) (r:=kJ m++32::(kJ n++41::r)) (by decide);rw [e,ji,a1,a2,if_neg (by decide),if_pos rfl,yU];simp only [Mm];rw [yL m d _ ho.1 (by omega) (by omega) (yT _ _ (by decide))];simp only [Mm,yU];rw [yL n d _ ho.2 (by omega) (by omega) (yT _ _ (by decide))];simp only [Mm,yU,Pn]
 | .ite l m n,d,r,ho,hd,hs,hr=>by
   rw [jj] at hd;rw [zT] at hs;obtain ⟨d,rfl⟩:∃ j,d=j+1:=⟨d-1,by omega⟩;have e:kJ (.ite l m n)++r=40::(ifW++32::(kJ l++32::(kJ m++32::(kJ n++41::r)))):=by rw [yM];simp
   obtain ⟨a1,a2⟩:=word_w (w:=ifW) (by decide) (c:=32) (r:=kJ l++32::(kJ m++32::(kJ n++41::r))) (by decide);rw [e,ji,a1,a2,if_neg (by decide),if_neg (by decide),if_pos rfl,yU];simp only [Mm];rw [yL l d _ ho.1 (by omega) (by omega) (yT _ _ (by decide))];simp only [Mm,yU];rw [yL m d _ ho.2.1 (by omega) (by omega) (yT _ _ (by decide))];simp only [Mm,yU];rw [yL n d _ ho.2.2 (by omega) (by omega) (yT _ _ (by decide))];simp only [Mm,yU,Pn]
theorem b_:∀ (d:Nat) (l:Bs) (t:Tm) (r:Bs),jU d l=some (t,r)->l=kJ t++r/\xY t/\jj t<=d:=by
 intro d
 induction d with
 | zero =>
   intro l t r h;rw [jU.eq_def] at h;cases hc:cut [40] l with
   | none =>
     simp only [hc] at h;split at h
     ·rename_i hn;simp at h;obtain ⟨rfl,rfl⟩:=h;exact ⟨by unfold kJ;rw [kx,zu];exact vl l,hn,by rw [jj];omega⟩
     ·split at h
      ·rename_i hn;simp at h;obtain ⟨rfl,rfl⟩:=h;exact ⟨by unfold kJ;rw [kx,zu];exact vl l,hn,by rw [jj];omega⟩
      ·simp at h
   | some l1=>simp [hc] at h
 | succ d ih =>
   intro l t r h;cases hc:cut [40] l with
   | none =>
     rw [jU.eq_def] at h;simp only [hc] at h;split at h
     ·rename_i hn;simp at h;obtain ⟨rfl,rfl⟩:=h;exact ⟨by unfold kJ;rw [kx,zu];exact vl l,hn,by rw [jj];omega⟩
     ·split at h
      ·rename_i hn;simp at h;obtain ⟨rfl,rfl⟩:=h;exact ⟨by unfold kJ;rw [kx,zu];exact vl l,hn,by rw [jj];omega⟩
      ·simp at h
   | some l1 =>
     have e0:=vz hc;rw [e0] at h ⊢;rw [List.singleton_append] at h ⊢;rw [ji] at h;have ew:=vl l1;split at h
     ·rename_i hw;rw [hw] at ew;simp only [No] at h;obtain ⟨l3,c1,h⟩:=h;split at h
      ·rename_i hn;simp only [No,N3] at h;obtain ⟨l4,c2,⟨k,l5⟩,hk,l6,c3,⟨t',l7⟩,ht,l8,c4,e⟩:=h;simp only [Re] at e;obtain ⟨rfl,rfl⟩:=e;obtain ⟨e1,o1,d1⟩:=ih _ _ _ ht;have e2:=rdK_canon _ _ _ _ hk;refine ⟨?_,⟨hn,o1⟩,by rw [jj];omega⟩;rw [yF];simp only at c3 c4
       conv=>lhs;rw [ew,vz c1,vl l3,vz c2,e2,vz c3,e1,vz c4]
       simp
      ·simp at h
     ·split at h
      ·rename_i hw;rw [hw] at ew;simp only [No,N3] at h;obtain ⟨l3,c1,⟨m,l4⟩,hm,l5,c2,⟨n,l6⟩,hn,l7,c3,e⟩:=h;simp only [Re] at e;obtain ⟨rfl,rfl⟩:=e;obtain ⟨e1,o1,d1⟩:=ih _ _ _ hm;obtain ⟨e2,o2,d2⟩:=ih _ _ _ hn;refine ⟨?_,⟨o1,o2⟩,by rw [jj];omega⟩;rw [yN];simp only at c2 c3
       conv=>lhs;rw [ew,vz c1,e1,vz c2,e2,vz c3]
       simp
      ·split at h
       ·rename_i hw;rw [hw] at ew;simp only [No,N3] at h;obtain ⟨l3,c1,⟨x,l4⟩,hx,l5,c2,⟨m,l6⟩,hm,l7,c3,⟨n,l8⟩,hn,l9,c4,e⟩:=h;simp only [Re] at e;obtain ⟨rfl,rfl⟩:=e;obtain ⟨e0,o0,d0⟩:=ih _ _ _ hx;obtain ⟨e1,o1,d1⟩:=ih _ _ _ hm;obtain ⟨e2,o2,d2⟩:=ih _ _ _ hn;refine ⟨?_,⟨o0,o1,o2⟩,by rw [jj];omega⟩;rw [yM];simp only at c2 c3 c4
        conv=>lhs;rw [ew,vz c1,e0,vz c2,e1,vz c3,e2,vz c4]
        simp
       ·simp at h
theorem fG {a b:Tr} (ha:jH a) (hb:jH b) (h:zu a=zu b):a=b:=by
 have h1:=gx a (max (jD a) (jD b)+1) [] ha (by omega) (.inl rfl);have h2:=gx b (max (jD a) (jD b)+1) [] hb (by omega) (.inl rfl);rw [h,h2] at h1;exact (Un (Option.some.inj h1)).1.symm
theorem f7 (h a b:Tr):qy (.ls [h,a,b])=(qh [h] == vi && qy a && qy b):=by rw [qy]
theorem de (h a b c:Tr):qy (.ls [h,a,b,c])=((qh [h] == j_ && (qv (qP a) && (zI (zu b)).2 && qy c)) || (qh [h] == ifW && (qy a && qy b && qy c))):=by rw [qy]
theorem head_at {h:Tr} {w:Bs} (hw:w≠[]) (e:qh [h]=w):h=.am w:=by
 cases h with
 | am a=>rw [qh] at e;rw [e]
 | ls ps=>exact absurd e.symm hw
theorem w_:∀ (n:Nat) (t:Tr),SizeOf.sizeOf t<n->jH t->qy t=true->∃ m:Tm,t=kx m/\xY m/\kP m=true
 | 0,_,h,_,_=>by omega
 | n+1,.am a,_,ho,hi=>by
   rw [qy,Pe] at hi;rcases hi with h | h
   ·exact ⟨.wd a,by rw [kx],h,by rw [kP]⟩
   ·exact ⟨.nm a,by rw [kx],h,by rw [kP]⟩
 | n+1,.ls [],_,_,hi=>by simp [qy] at hi
 | n+1,.ls [_],_,_,hi=>by simp [qy] at hi
 | n+1,.ls [_,_],_,_,hi=>by simp [qy] at hi
 | n+1,.ls [h,a,b],hs,ho,hi=>by
   rw [f7] at hi;simp only [Oa,beq_iff_eq] at hi;obtain ⟨⟨e,h1⟩,h2⟩:=hi;rw [jH,qj,qj,qj,qj] at ho;obtain ⟨_,_,o1,o2,_⟩:=ho;obtain rfl:=head_at (by decide) e;simp only [Tr.ls.sizeOf_spec,List.cons.sizeOf_spec] at hs;obtain ⟨m,rfl,q1,q2⟩:=w_ n a (by omega) o1 h1;obtain ⟨k,rfl,r1,r2⟩:=w_ n b (by omega) o2 h2;exact ⟨.app m k,by rw [kx],⟨q1,r1⟩,by rw [kP,q2,r2];rfl⟩
 | n+1,.ls [h,a,b,c],hs,ho,hi=>by
   rw [de] at hi;simp only [Pe,Oa,beq_iff_eq] at hi;rw [jH,qj,qj,qj,qj,qj] at ho;obtain ⟨_,_,o1,o2,o3,_⟩:=ho;simp only [Tr.ls.sizeOf_spec,List.cons.sizeOf_spec] at hs;rcases hi with ⟨e,⟨h1,h2⟩,h3⟩ | ⟨e,⟨h1,h2⟩,h3⟩
   ·obtain rfl:=head_at (by decide) e;obtain ⟨m,rfl,q1,q2⟩:=w_ n c (by omega) o3 h3;obtain ⟨e1,l1⟩:=pw h2;have eb:b=trT (zI (zu b)).1:=fG o2 (cK _) (by rw [vu];exact e1);have ea:a=.am (qP a):=by
     cases a with
     | am x=>rw [qP]
     | ls ps=>rw [qP] at h1;simp [qv] at h1
    refine ⟨.lam (qP a) (zI (zu b)).1 m,?_,⟨h1,q1⟩,by rw [kP,q2,decide_eq_true l1];rfl⟩;rw [kx,<- eb,<- ea]
   ·obtain rfl:=head_at (by decide) e;obtain ⟨x,rfl,p1,p2⟩:=w_ n a (by omega) o1 h1;obtain ⟨y,rfl,q1,q2⟩:=w_ n b (by omega) o2 h2;obtain ⟨z,rfl,r1,r2⟩:=w_ n c (by omega) o3 h3;exact ⟨.ite x y z,by rw [kx],⟨p1,q1,r1⟩,by rw [kP,p2,q2,r2];rfl⟩
 | n+1,.ls (_::_::_::_::_::_),_,_,hi=>by simp [qy] at hi
theorem pK:∀ t:Tm,xY t->qy (kx t)=kP t
 | .nm x,h=>by rw [kx,qy,kP,show qv x=true from h,Bool.or_true]
 | .wd w,h=>by rw [kx,qy,kP,show jO w=true from h,Bool.true_or]
 | .lam x k t,h=>by
   rw [kx,de,kP,pK t h.2,vu,qh,qP,h.1];have e:(zI (zN k)).2=decide (zJ k<=15):=by
    by_cases hk:zJ k<=15
    ·rw [uN hk,decide_eq_true hk]
    ·rw [decide_eq_false hk];cases hq:(zI (zN k)).2 with
     | false=>rfl
     | true =>
       exfalso;obtain ⟨h1,h2⟩:=pw hq;have:trT k=trT (zI (zN k)).1:=fG (cK _) (cK _) (by rw [vu,vu];exact h1);have h3:=wE k;rw [this,wE] at h3;omega
   rw [e];have a1:(j_ == j_)=true:=by decide
   have a2:(j_ == ifW)=false:=by decide
   rw [a1,a2];simp
 | .app m n,h=>by
   rw [kx,f7,kP,pK m h.1,pK n h.2,qh];have a1:(vi == vi)=true:=by decide
   rw [a1];simp
 | .ite l m n,h=>by
   rw [kx,de,kP,pK l h.1,pK m h.2.1,pK n h.2.2,qh];have a1:(ifW == ifW)=true:=by decide
   have a2:(ifW == j_)=false:=by decide
   rw [a1,a2];simp [Bool.and_assoc]
mutual
theorem dT:∀ k:Ty,(zu (trT k)).length<=6*qE (trT k)
 | .mk ts=>by rw [trT];exact fP ts
theorem fP:∀ ts:List Ty,(zu (trT.trTs ts)).length<=6*qE (trT.trTs ts)
 | []=>by rw [trT.trTs,zu,qE];simp
 | t::ts=>by
   have h1:=dT t;have h2:=fP ts;rw [trT.trTs,zu,je,qQ,qQ,qQ,zu,qE,kM,kM,kM,kM,qE];simp only [N5,NZ,OD];omega
end
theorem name_len {x:Bs} (h:qv x=true):x.length<=3:=by
 cases x with
 | nil=>simp
 | cons c r=>simp only [qv,Oa,decide_eq_true_eq] at h;simp;omega
theorem leaf_len {x:Bs} (h:jO x=true):x.length<=3:=by
 simp only [jO,Pe,beq_iff_eq] at h;rcases h with (rfl | rfl) | rfl <;> simp
theorem uq:∀ t:Tm,xY t->(kJ t).length<=9*zT t
 | .nm x,h=>by have:=name_len h;unfold kJ;rw [kx,zu,zT];omega
 | .wd w,h=>by have:=leaf_len h;unfold kJ;rw [kx,zu,zT];omega
 | .lam x k t,h=>by
   have h1:=name_len h.1;have h2:=dT k;rw [vu,wE] at h2;have h3:=uq t h.2;rw [yF,zT];simp only [j_,N5,NZ,OD];omega
 | .app m n,h=>by
   have h1:=uq m h.1;have h2:=uq n h.2;rw [yN,zT];simp only [vi,N5,NZ,OD];omega
 | .ite l m n,h=>by
   have h0:=uq l h.1;have h1:=uq m h.2.1;have h2:=uq n h.2.2;rw [yM,zT];simp only [ifW,N5,NZ,OD];omega
theorem vh {l:Bs} {t:Tm} (h:qr l=some t):l=kJ t/\xY t/\zT t<=60:=by
 unfold qr at h;cases hq:jU 60 l with
 | none=>rw [hq] at h;simp at h
 | some x =>
   obtain ⟨t',r⟩:=x;rw [hq] at h;cases r with
   | cons c r=>simp at h
   | nil =>
     simp only at h;split at h
     ·rename_i hs;simp at h;subst h;obtain ⟨e,o,_⟩:=b_ _ _ _ _ hq;exact ⟨by simpa using e,o,hs⟩
     ·simp at h
theorem bf {t:Tm} (ho:xY t) (hs:zT t<=60):qr (kJ t)=some t:=by
 unfold qr;have:=yL t 60 [] ho (by have:=uK t;omega) (by omega) (.inl rfl);rw [Ov] at this;rw [this];simp only;rw [if_pos hs]
theorem specTerm_text {t:Tm} (ho:xY t) (hs:zT t<=60):qx (kJ t)=if kP t then some (kx t) else none:=by
 unfold qx;have hl:=uq t ho;rw [if_neg (by omega)];have:=gx (kx t) 101 [] (uY t ho) (by have:=yz t;omega) (.inl rfl);rw [Ov] at this;unfold kJ;rw [this];simp only;rw [pK t ho,up,decide_eq_true hs,Bool.and_true]
theorem bS {l:Bs} {tr:Tr} (h:qx l=some tr):∃ t,tr=kx t/\l=kJ t/\xY t/\zT t<=60/\kP t=true:=by
 unfold qx at h;split at h
 ·simp at h
 ·split at h
  ·rename_i t' hq;split at h
   ·rename_i hc;simp at h;subst h;simp only [Oa,decide_eq_true_eq] at hc;obtain ⟨e,o,_,_⟩:=xI _ _ _ _ hq;obtain ⟨t,rfl,q1,q2⟩:=w_ _ t' (Sp _) o hc.1;exact ⟨t,rfl,by simpa [kJ] using e,q1,by rw [<- up];exact hc.2,q2⟩
   ·simp at h
  ·simp at h
theorem term_eq (l:Bs):qx l=(qr l).bind fun t=>if kP t then some (kx t) else none:=by
 cases h:qr l with
 | some t =>
   obtain ⟨rfl,ho,hs⟩:=vh h;rw [specTerm_text ho hs];rfl
 | none =>
   cases hq:qx l with
   | none=>rfl
   | some tr =>
     obtain ⟨t,_,rfl,ho,hs,_⟩:=bS hq;rw [bf ho hs] at h;simp at h
theorem eQ {t:Ty} (h:zJ t<=15):∀ a∈t.args,zJ a<=15:=(ce h).1
theorem um {t:Ty} (h:zJ t<=15):t.args.length<=14:=by
 have:=qB t.args;have:=qi t;omega
section
variable {P:Program} {ops:Array Oper} {Q:Exit->Act->World->Prop} {md:Qb} {S:World->Prop} {T:Nat->Bool}
def jg (P:Program) (md:Qb) (ops:Array Oper) (Q:Exit->Act->World->Prop) (S:World->Prop) (T:Nat->Bool):Nat->Array Bool->Act->World->Prop
 | 0,listed,a,w=>Oq md ops listed=[]/\Q .normal a w
 | fuel+1,listed,a,w =>
   (Oq md ops listed=[]->Q .normal a w) /\
   ∀ i∈Oq md ops listed,wpOp P ops Q i (fun a' w'=>(T i=false->S w')/\jg P md ops Q S T fuel (listed.setIfInBounds i true) a' w') a w
theorem fV:∀ (fuel:Nat) (listed:Array Bool) (a:Act) (w:World),jg P md ops Q S T fuel listed a w->wpAny P md ops Q fuel listed a w
 | 0,_,_,_,h=>h
 | fuel+1,_,_,_,h=>⟨h.1,fun i hi=>wpOp_mono (fun a' w' h'=>fV fuel _ a' w' h'.2) (h.2 i hi)⟩
theorem b8 {md:Qb} {ops:Array Oper} {L:Array Bool} {i j:Nat} (h:j∈Oq md ops L) (hne:j≠i):j∈Oq md ops (L.setIfInBounds i true):=by
 unfold Oq at *;rw [QB] at *;refine ⟨h.1,?_⟩;have h2:=h.2;rw [Oa] at *;refine ⟨?_,?_⟩
 ·have e:(L.setIfInBounds i true).getD j true=L.getD j true:=by
   simp only [On];rw [PV (fun e=>hne e.symm)]
  rw [e];exact h2.1
 ·have h3:=h2.2;cases ho:ops[j]? with
  | none=>rw [ho] at h3;simp at h3
  | some o =>
    rw [ho] at h3;simp only [Pn,OW] at h3 ⊢;rw [QX] at *;intro e he;have h4:=h3 e he;rw [Pe] at *;rcases h4 with h4 | h4
    ·exact .inl h4
    ·refine .inr ?_;by_cases hk:e.on=i
     ·rw [hk];simp only [On] at h4 ⊢;rw [hk] at h4;rcases Qr i L.size with h' | h'
      ·simp [h']
      ·rw [RQ h'] at h4;simp at h4
     ·simp only [On] at h4 ⊢;rw [PV (fun e=>hk e.symm)];exact h4
theorem yA {md:Qb} {ops:Array Oper} {L:Array Bool} {j:Nat} (h:j∈Oq md ops L) :
 L.getD j true=false/\∃ o,ops[j]? = some o/\∀ e∈o.after,OJ md e=true->L.getD e.on false=true:=by
 unfold Oq at h;rw [QB] at h;have h2:=h.2;rw [Oa] at h2;refine ⟨by simpa using h2.1,?_⟩;cases ho:ops[j]? with
 | none=>have:=h2.2;rw [ho] at this;simp at this
 | some o =>
   refine ⟨o,rfl,fun e he hb=>?_⟩;have h3:=h2.2;rw [ho] at h3;simp only [Pn,OW] at h3;rw [QX] at h3;have h4:=h3 e he;rw [Pe] at h4;rcases h4 with h4 | h4
   ·rw [hb] at h4;simp at h4
   ·exact h4
theorem wpAnyS_first {i:Nat} {oi:Oper} {v:Value} (hi:ops[i]? = some oi) (Lg:∀ (j:Nat) (o:Oper) cs b,ops[j]? = some o->o.op≠.select cs b)
 (hQ:∀ c a w,Q (.panic c) (a.put oi.dst v) w->Q (.panic c) a w)
 (hT:∀ j oj,ops[j]? = some oj->T j=true->∃ e∈oj.after,OJ md e=true/\e.on=i) (hTi:T i=false) :
 ∀ (fuel:Nat) (listed:Array Bool) (a:Act) (w:World),
   (∀ j oj,ops[j]? = some oj->j≠i->listed.getD j true=false->(∀ e∈oj.after,OJ md e=true->e.on≠i)->oi.apart ops oj=true) ->
   i∈Oq md ops listed->YieldsIf P ops S oi v a->S w ->
   jg P md ops Q S T fuel (listed.setIfInBounds i true) (a.put oi.dst v) w->jg P md ops Q S T (fuel+1) listed a w:=by
 intro fuel
 induction fuel with
 | zero =>
   intro listed a w _ hr hy hS H;refine ⟨fun h=>(by rw [h] at hr;cases hr),fun j hj=>?_⟩;by_cases Fr:j=i
   ·subst Fr;exact hy.wpOp hi hS ⟨fun _=>hS,H⟩
   ·have:=b8 hj Fr;rw [H.1] at this;cases this
 | succ fuel ih =>
   intro listed a w lM hr hy hS H;refine ⟨fun h=>(by rw [h] at hr;cases hr),fun j hj=>?_⟩;by_cases Fr:j=i
   ·subst Fr;exact hy.wpOp hi hS ⟨fun _=>hS,H⟩
   ·have h1:=H.2 j (b8 hj Fr);obtain ⟨L9,oj,hoj,sx⟩:=yA hj;have LM:∀ e∈oj.after,OJ md e=true->e.on≠i:=fun e he hb Ar=>by
     have h1:=sx e he hb;have h0:=(yA hr).1;rw [Ar] at h1;simp only [On] at h0 h1;rcases Qr i listed.size with h' | h'
     ·simp [h'] at h0 h1;rw [h0] at h1;cases h1
     ·simp [RQ h'] at h1
    have hTj:T j=false:=by
     cases hT':T j with
     | false=>rfl
     | true =>
       obtain ⟨e,he,hb,Ar⟩:=hT j oj hoj hT';exact absurd Ar (LM e he hb)
    have h2:=wpOp_putIf hoj (lM j oj hoj Fr L9 LM) (fun cs b=>Lg i oi cs b hi) (fun cs b=>Lg j oj cs b hoj) hQ hy h1
    have I3:∀ k ok,ops[k]? = some ok->k≠i->(listed.setIfInBounds j true).getD k true=false ->
     (∀ e∈ok.after,OJ md e=true->e.on≠i)->oi.apart ops ok=true:=fun k ok hk hki hun aA=>by
     refine lM k ok hk hki ?_ aA;by_cases hjk:j=k
     ·subst hjk;exact L9
     ·simp only [On] at hun ⊢;rw [PV hjk] at hun;exact hun
    refine wpOp_mono (fun a' w' h3=>⟨h3.2.1,ih (listed.setIfInBounds j true) a' w' I3 (b8 hr (Ne.symm Fr)) h3.1 (h3.2.1 hTj) ?_⟩) h2;rw [Array.setIfInBounds_comm _ _ Fr];exact h3.2.2
def waitT (md:Qb) (ops:Array Oper) (T:Nat->Bool) (i:Nat):Bool :=
 !T i && (List.range ops.size).all fun j=>!T j || ((ops[j]?).map fun o=>o.after.any fun e=>OJ md e && e.on == i).getD true
theorem waitT_spec {i:Nat} (h:waitT md ops T i=true):T i=false/\∀ j oj,ops[j]? = some oj->T j=true->∃ e∈oj.after,OJ md e=true/\e.on=i:=by
 unfold waitT at h;rw [Oa] at h;refine ⟨by simpa using h.1,fun j oj hj hT=>?_⟩;have h2:=h.2;rw [P0] at h2;have h3:=h2 j (List.mem_range.2 (Array.getElem?_eq_some_iff.1 hj).1);rw [hT,hj] at h3;simp only [Bool.not_true,Bool.false_or,Pn,OW] at h3;rw [Array.any_eq_true'] at h3;obtain ⟨e,he,h4⟩:=h3;rw [Oa,beq_iff_eq] at h4;exact ⟨e,he,h4⟩
theorem eH (i:Nat) {v:Value} {fuel:Nat} {listed:Array Bool} {a:Act} {w:World}
 (hs:Ro ops=true) (hf:SC md ops listed i=true) (hr:(Oq md ops listed).contains i=true) (ht:waitT md ops T i=true)
 (hQ:∀ d c a w,Q (.panic c) (a.put d v) w->Q (.panic c) a w) (hS:S w)
 (hy:∀ oi,ops[i]? = some oi->YieldsIf P ops S oi v a)
 (h:∀ d,(ops[i]?).bind (·.dst)=d->jg P md ops Q S T fuel (listed.setIfInBounds i true) (a.put d v) w):jg P md ops Q S T (fuel+1) listed a w:=by
 have hm:i∈Oq md ops listed:=by simpa using hr
 obtain ⟨_,oi,hi,_⟩:=yA hm;obtain ⟨h1,h2⟩:=waitT_spec ht;exact wpAnyS_first hi (Region.noSelect_spec hs) (fun c a w=>hQ _ c a w) h2 h1 fuel listed a w (Region.free_spec hi hf) hm (hy oi hi) hS (h _ (by rw [hi];rfl))
def tks (P:Program) (ops:Array Oper) (S:World->Prop):List Nat->List (Option Tmp)->Act->(Act->Prop)->Prop
 | i::l,d::ds,a,K=>∃ v,(∀ oi,ops[i]? = some oi->YieldsIf P ops S oi v a)/\tks P ops S l ds (a.put d v) K
 | [],_,a,K=>K a
 | _::_,[],_,_=>False
def tkOk (md:Qb) (ops:Array Oper) (T:Nat->Bool):List Nat->Array Bool->Bool
 | [],_=>true
 | i::l,L=>SC md ops L i && ((Oq md ops L).contains i && (waitT md ops T i && tkOk md ops T l (L.setIfInBounds i true)))
def tkL:List Nat->Array Bool->Array Bool
 | [],L=>L
 | i::l,L=>tkL l (L.setIfInBounds i true)
def tkN:List Nat->Nat->Nat
 | [],n=>n
 | _::l,n=>tkN l n+1
def tkD (ops:Array Oper):List Nat->List (Option Tmp)
 | []=>[]
 | i::l=>(ops[i]?).bind (·.dst)::tkD ops l
theorem tk (is:List Nat) {fuel:Nat} {listed:Array Bool} {a:Act} {w:World} (hS:S w) (h:∀ ds,tkD ops is=ds->tks P ops S is ds a (fun a'=>jg P md ops Q S T fuel (tkL is listed) a' w))
 (nC:(Ro ops && tkOk md ops T is listed)=true:=by kernel_rfl) (hQ:∀ v d c a w,Q (.panic c) (a.put d v) w->Q (.panic c) a w:=by exact fun _ _ _ _ _ h=>h):jg P md ops Q S T (tkN is fuel) listed a w:=by
 have h':=h _ rfl;clear h;rw [Oa] at nC;obtain ⟨hs,nC⟩:=nC
 induction is generalizing listed a with
 | nil=>exact h'
 | cons i l ih =>
   rw [tkOk,Oa,Oa,Oa] at nC;rw [tkD,tks] at h';obtain ⟨v,hy,hk⟩:=h'
   exact eH i hs nC.1 nC.2.1 nC.2.2.1 (fun d c a w=>hQ v d c a w) hS hy (fun d hd=>by
    rw [hd] at hk
    exact ih hk nC.2.2.2)
theorem pQ (l:List Value) (df:List Deferred) (k:Nat) (v:Value):Act.put ⟨l.toArray,df⟩ (some k) v=⟨(l.set k v).toArray,df⟩:=by simp [Act.put]
theorem pN (a:Act) (v:Value):Act.put a none v=a:=rfl
theorem pZ (x y:Value) (l:List Value):(x::l).set 0 y=y::l:=rfl
theorem pS (x y:Value) (l:List Value) (n:Nat):(x::l).set (n+1) y=x::l.set n y:=rfl
theorem jK (i:Nat) {fuel:Nat} {listed:Array Bool} {a:Act} {w:World} (hr:Oq md ops listed=[i])
 (h:∀ o,ops[i]? = some o->∀ K':Act->World->Prop,Shut (∀ a w,(T i=false->S w)->jg P md ops Q S T fuel (listed.setIfInBounds i true) a w->K' a w) ->
  if Po o (yielded ops a.tmps)=true then P6 P o a w K' Q else K' (a.put o.dst undef) w):jg P md ops Q S T (fuel+1) listed a w:=by
 refine ⟨fun h0=>by rw [hr] at h0;simp at h0,fun j hj=>?_⟩;rw [hr] at hj;simp only [List.mem_singleton] at hj;subst hj;obtain ⟨_,o,ho,_⟩:=yA (md:=md) (ops:=ops) (L:=listed) (j:=j) (by rw [hr];simp);exact wpOp_step ho (fun K' hK=>h o ho K' (fun a w hS hW=>hK a w ⟨hS,hW⟩))
theorem on (i:Nat) {fuel:Nat} {listed:Array Bool} {a:Act} {w:World}
 (h:∀ o,ops[i]? = some o->∀ K':Act->World->Prop,Shut (∀ a w,(T i=false->S w)->jg P md ops Q S T fuel (listed.setIfInBounds i true) a w->K' a w) ->
  if Po o (yielded ops a.tmps)=true then P6 P o a w K' Q else K' (a.put o.dst undef) w) (hr:Oq md ops listed=[i]:=by kernel_rfl):jg P md ops Q S T (fuel+1) listed a w :=
 jK i hr h
theorem oB (i:Nat) {fuel:Nat} {listed:Array Bool} {a a':Act} {w w' w'':World} (X:T i=false->S w'') (k:jg P md ops Q S T fuel (listed.setIfInBounds i true) a' w')
 (h:∀ o,ops[i]? = some o->∀ K':Act->World->Prop,K' a' w'->if Po o (yielded ops a.tmps)=true then P6 P o a w K' Q else K' (a.put o.dst undef) w:=by
  (intro o ho K' hK;simp at ho;subst ho;go_simp;(try simp only [pQ,pN,pZ,pS]);exact hK))
 (e:w''=w':=by exact rfl) (hr:Oq md ops listed=[i]:=by kernel_rfl):jg P md ops Q S T (fuel+1) listed a w :=
 jK i hr fun o ho K' hK=>h o ho K' (hK.out _ _ (fun h=>e ▸ X h) k)
theorem oC (i:Nat) {fuel:Nat} {listed:Array Bool} {a a':Act} {w w' w'':World} (X:S w'') (k:jg P md ops Q S T fuel (listed.setIfInBounds i true) a' w')
 (h:∀ o,ops[i]? = some o->∀ K':Act->World->Prop,K' a' w'->if Po o (yielded ops a.tmps)=true then P6 P o a w K' Q else K' (a.put o.dst undef) w:=by
  (intro o ho K' hK;simp at ho;subst ho;go_simp;(try simp only [pQ,pN,pZ,pS]);exact hK))
 (e:w''=w':=by exact rfl) (hr:Oq md ops listed=[i]:=by kernel_rfl):jg P md ops Q S T (fuel+1) listed a w:=oB i (fun _=>X) k h e hr
def tkE (P:Program) (ops:Array Oper) (S:World->Prop):List Nat->Act->(Act->Prop)->Prop
 | [],a,K=>K a
 | i::l,a,K=>∃ v,(∀ oi,ops[i]? = some oi->YieldsIf P ops S oi v a)/\∃ a',(∀ oi,ops[i]? = some oi->a.put oi.dst v=a')/\tkE P ops S l a' K
theorem tC (is:List Nat) {fuel:Nat} {listed:Array Bool} {a:Act} {w:World} (hS:S w) (h:tkE P ops S is a (fun a'=>jg P md ops Q S T fuel (tkL is listed) a' w))
 (nC:(Ro ops && tkOk md ops T is listed)=true:=by kernel_rfl) (hQ:∀ v d c a w,Q (.panic c) (a.put d v) w->Q (.panic c) a w:=by exact fun _ _ _ _ _ h=>h):jg P md ops Q S T (tkN is fuel) listed a w:=by
 rw [Oa] at nC;obtain ⟨hs,nC⟩:=nC
 induction is generalizing listed a with
 | nil=>exact h
 | cons i l ih =>
   rw [tkOk,Oa,Oa,Oa] at nC;rw [tkE] at h;obtain ⟨v,hy,a',ha,hk⟩:=h;have hm:i∈Oq md ops listed:=by simpa using nC.2.1
   obtain ⟨_,o,ho,_⟩:=yA hm
   exact eH i hs nC.1 nC.2.1 nC.2.2.1 (fun d c a w=>hQ v d c a w) hS hy (fun d hd=>by
    rw [ho] at hd;have hd:o.dst=d:=hd;rw [<- hd,ha o ho]
    exact ih hk nC.2.2.2)
theorem tz {a:Act} {K:Act->Prop} (h:K a):tkE P ops S [] a K:=h
theorem tx {i:Nat} {l:List Nat} {a a':Act} {K:Act->Prop} {v:Value} (k:tkE P ops S l a' K)
 (e:∀ oi,ops[i]? = some oi->YieldsIf P ops S oi v a:=by (intro oi ho;simp at ho;subst ho;refine Or.inl ⟨by rfl,fun w' nP=>?_⟩;go_simp;try with_reducible rfl))
 (ha:∀ oi,ops[i]? = some oi->a.put oi.dst v=a':=by (intro oi ho;simp at ho;subst ho;simp only [pQ,pN,pZ,pS];exact rfl)):tkE P ops S (i::l) a K:=⟨v,e,a',ha,k⟩
theorem tl {F:World->Prop} {i:Nat} {l:List Nat} {a a':Act} {K:Act->Prop} {v:Value} (H:∀ w',S w'->F w') (k:tkE P ops S l a' K)
 (e:∀ oi,ops[i]? = some oi->YieldsIf P ops F oi v a:=by (intro oi ho;simp at ho;subst ho;refine Or.inl ⟨by rfl,fun w' nP=>?_⟩;go_simp;try with_reducible rfl))
 (ha:∀ oi,ops[i]? = some oi->a.put oi.dst v=a':=by (intro oi ho;simp at ho;subst ho;simp only [pQ,pN,pZ,pS];exact rfl)):tkE P ops S (i::l) a K :=
 ⟨v,fun oi ho=>(e oi ho).imp (fun h=>⟨h.1,fun w' hw=>h.2 w' (H w' hw)⟩) id,a',ha,k⟩
theorem qJ (i j:Nat) {fuel:Nat} {listed:Array Bool} {a:Act} {w:World} (hr:Oq md ops listed=[i,j])
 (h:∀ o,ops[i]? = some o->∀ K':Act->World->Prop,Shut (∀ a w,(T i=false->S w)->jg P md ops Q S T fuel (listed.setIfInBounds i true) a w->K' a w) ->
  if Po o (yielded ops a.tmps)=true then P6 P o a w K' Q else K' (a.put o.dst undef) w)
 (h2:∀ o,ops[j]? = some o->∀ K':Act->World->Prop,Shut (∀ a w,(T j=false->S w)->jg P md ops Q S T fuel (listed.setIfInBounds j true) a w->K' a w) ->
  if Po o (yielded ops a.tmps)=true then P6 P o a w K' Q else K' (a.put o.dst undef) w):jg P md ops Q S T (fuel+1) listed a w:=by
 refine ⟨fun h0=>by rw [hr] at h0;simp at h0,fun k hk=>?_⟩;obtain ⟨_,o,ho,_⟩:=yA hk;rw [hr] at hk;simp only [Om,List.not_mem_nil,or_false] at hk;rcases hk with rfl | rfl
 ·exact wpOp_step ho (fun K' hK=>h o ho K' (fun a w hS hW=>hK a w ⟨hS,hW⟩))
 ·exact wpOp_step ho (fun K' hK=>h2 o ho K' (fun a w hS hW=>hK a w ⟨hS,hW⟩))
theorem zY {listed:Array Bool} {a:Act} {w:World} (hr:Oq md ops listed=[]) (h:Q .normal a w) :
 ∀ fuel,jg P md ops Q S T fuel listed a w
 | 0=>⟨hr,h⟩
 | _+1=>⟨fun _=>h,by rw [hr];simp⟩
theorem zB {id:Nat} {a:Act} {w:World} (S:World->Prop) (T:Nat->Bool) (hm:P.follows .mixedOrders=true)
 (h:jg P .any ops Q S T ops.size (Array.replicate ops.size false) a w.drew):(Code.region id ops true).wp P Q a w :=
 wp_region_any hm (fV _ _ _ _ h)
end
theorem out_cell {m:Nat->Prop} {w6 w7:World} {o:Obj} {ob f:Nat} {u:Value} (hb:But m (w6.alloc o) w7) (hm:¬ m ob) (h:w6.cell? ⟨ob,f,none⟩=some u):w7.cell? ⟨ob,f,none⟩=some u:=by
 have m_:=mx w6 ⟨ob,f,none⟩ h;rw [hb.cell (p:=⟨ob,f,none⟩) (by rw [zK];exact Nat.lt_succ_of_lt m_) hm];exact zV h
theorem out_free {m:Nat->Prop} {w6 w7:World} {o:Obj} {ob f:Nat} (hb:But m (w6.alloc o) w7) (hm:¬ m ob) (m_:ob<w6.heap.size) (h:w6.frozen? ⟨ob,f,none⟩=false):w7.frozen? ⟨ob,f,none⟩=false:=by
 rw [OS (w:=w6) (by rw [hb.block _ (by rw [zK];omega) hm,Below.heap_alloc _ _ _ m_])];exact h
theorem but_cell {rd:Nat} {w w':World} (hb:But (· = rd) w w') {b o:Nat} {u:Value} (hne:b≠rd) (h:w.cell? ⟨b,o,none⟩=some u):w'.cell? ⟨b,o,none⟩=some u :=
 (hb.cell (p:=⟨b,o,none⟩) (mx w ⟨b,o,none⟩ h) hne).trans h
theorem but_free {rd:Nat} {w w':World} (hb:But (· = rd) w w') {b o:Nat} (hne:b≠rd) (m_:b<w.heap.size) (h:w.frozen? ⟨b,o,none⟩=false):w'.frozen? ⟨b,o,none⟩=false:=by
 rw [OS (w:=w) (hb.block b m_ hne)];exact h
theorem zq.thru {w w':World} {size g n c m:Nat} {news:List Value} {q:Nat->Prop} (h:zq size (.slice (some ⟨g,0,none⟩) n c) m news w) (hb:But q w w') (hq:¬ q g):zq size (.slice (some ⟨g,0,none⟩) n c) m news w':=by
 obtain ⟨h1,h2,⟨a,c',e,h3⟩ | ⟨e,_⟩⟩:=h
 ·simp only [Value.slice.injEq,Option.some.injEq] at e;obtain ⟨rfl,rfl,rfl⟩:=e;refine ⟨h1,h2,.inl ⟨_,_,rfl,fun j u hu=>?_⟩⟩;have h4:=h3 j u hu;have mm:(Addr.add ⟨g,0,none⟩ j).block=g:=by unfold Addr.add;split <;> rfl
  exact (hb.cell (mx w _ h4) (by rw [mm];exact hq)).trans h4
 ·simp at e
theorem xt (w:World) (o o':Obj):((w.alloc o).alloc o').heap.size=w.heap.size+1+1:=by rw [zK,zK]
def uM (size:Nat) (v:Value) (n:Nat) (xs:List Value) (w:World):Prop :=
 xs.length=n*size/\((∃ b,v=.slice (some b) n n/\∀ (j:Nat) u,xs[j]? = some u->w.cell? (b.add j)=some u)\/(v=.slice none 0 0/\n=0))
theorem e6 {P:Program} {w:World} (t ty e:TypeId) (i:TypeInfo) (z:Value) (size bytes:Nat) (ht:P.underlying t=some (.slice e)) (hi:P.info? e=some i) (hz:i.zero=some z)
 (tI:i.size=size) (sT:i.bytes=bytes) (AC:z.cells.size=size)
 (v:Value) (n:Nat) (xs:List Value) (nM:uM size v n xs w)
 (x:Value) (m:Nat) (news:List Value) (hs:zq size x m news w) (hm:0<m) (A6:n+m<=maxLen) (sF:(n+m)*bytes<=140737488355328) :
 ∃ c' w',(Builtin.append_ #[t,t] ty #[v,x]).run P w=.ok (.slice (some ⟨w.heap.size,0,none⟩) (n+m) c') w'/\Own w' e size (.slice (some ⟨w.heap.size,0,none⟩) (n+m) c') (n+m) (xs++news)/\Below w.heap.size w w':=by
 obtain ⟨hl,h1,⟨a,c,rfl,sD⟩ | ⟨rfl,rfl⟩⟩:=hs
 ·subst tI;subst sT;have Iy:n+m<=9223372036854775807:=by simp only [maxLen] at A6;omega
  have hlen:(xs++news).length=(n+m)*i.size:=by rw [NZ,nM.1,hl,Qy]
  have grown:∀ (old:Nat),
   Own (w.drew.alloc (.cells (xs.toArray++news.toArray++Builtin.zeroCells z.cells (grownCap w (n+m) old e-(n+m))) e)) e i.size
    (.slice (some ⟨w.heap.size,0,none⟩) (n+m) (grownCap w (n+m) old e)) (n+m) (xs++news) /\
   Below w.heap.size w (w.drew.alloc (.cells (xs.toArray++news.toArray++Builtin.zeroCells z.cells (grownCap w (n+m) old e-(n+m))) e)):=by
   intro old;have Bg:=grownCap_ge w (n+m) old e;have MD:grownCap w (n+m) old e<=maxLen:=grownCap_le_maxLen w (n+m) old e A6;refine ⟨⟨hlen,.inr ⟨w.heap.size,_,_,rfl,Og _,Go.heap_alloc_new w.drew _,Bg,MD,?_,?_⟩⟩,((mw _ w).drew).alloc (my _) _⟩
   ·simp only [Array.size_append,List.size_toArray,size_zeroCells,AC,nM.1,hl,<- Qy]
    congr 1
    omega
   ·simp only [Array.toList_append,OF];rw [<- OF,<- hlen];exact List.take_left
  rcases nM.2 with ⟨b,rfl,holds⟩ | ⟨rfl,rfl⟩
  ·have hr:=run_append_grow (P:=P) w t ty e i z ht hi hz b n n xs nM.1 holds a m c news hl sD (by omega) (by omega) (growslice_fits (by omega) sF);exact ⟨_,_,hr,grown n⟩
  ·have hx:xs=[]:=Ox (by simpa using nM.1);subst hx;have hr:=run_append_nil (P:=P) w t ty e i z ht hi hz a m c news hl sD (by omega) (by omega) (by have hb:=sF;simp only [PD] at hb;omega);have F4:=grown 0;simp only [PD,List.nil_append,Array.empty_append] at F4 ⊢;exact ⟨_,_,hr,F4⟩
 ·omega
theorem wC {P:Program} {w:World} {ops:Array Oper} {o:Oper} {a:Act} {K:Act->World->Prop} {Q:Exit->Act->World->Prop} {E:Prop} (I1:o.guard=none) (s x:Operand) (t:TypeId)
 (ho:o.op=.call { callee:=.builtin .append,args:=#[s,x],argTypes:=#[t,t] })
 (e:TypeId) (z:Value) (size bytes:Nat) (ht:P.underlying t=some (.slice e)) (hi:(P.info? e).map (fun i=>(i.zero,i.size,i.bytes))=some (some z,size,bytes))
 (AC:z.cells.size=size)
 (v:Value) (n:Nat) (xs:List Value) (hs:a.eval s=v) (nM:uM size v n xs w)
 (y:Value) (m:Nat) (news:List Value) (hx:a.eval x=y) (rO:zq size y m news w) (hm:0<m)
 (A6:n+m<=maxLen) (sF:(n+m)*bytes<=140737488355328)
 (h:∀ c' w',Own w' e size (.slice (some ⟨w.heap.size,0,none⟩) (n+m) c') (n+m) (xs++news)->Below w.heap.size w w' ->
  K (a.put o.dst (.slice (some ⟨w.heap.size,0,none⟩) (n+m) c')) w'):if Po o (yielded ops a.tmps)=true then P6 P o a w K Q else E:=by
 rw [if_pos (by simp [Po,I1])];obtain ⟨i,hi,hz,tI,sT⟩:=info_parts hi;obtain ⟨c',w',hr,h2,h3⟩:=e6 (P:=P) (w:=w) t o.type e i z size bytes ht hi hz tI sT AC v n xs nM y m news rO hm A6 sF;unfold P6 execOp;simp only [ho,resolve,invoke,builtin,Sem.run_bind,Sem.run_pure,Result.andThen_ok,List.map_toArray,Ol,List.map_nil,hs,hx,hr];exact h c' w' h2 h3
theorem uM.ofRep {F:Nat->Prop} {w:World} {e:TypeId} {sz n:Nat} {cs:List DV} {a:Option Addr} {c:Nat} (h:Rep F w (.sl e sz n cs) (.slice a n c)) (Dl:∀ us,zW F w cs us->∀ u∈us,u.oneCell'=true) :
 ∃ xs,zW F w cs xs/\uM sz (.slice a n n) n xs w:=by
 obtain ⟨xs,h1,h2,_,h4⟩:=zq.ofRep h Dl;refine ⟨xs,h1,h2,?_⟩;rcases h4 with ⟨b,c',e1,h5⟩ | ⟨e1,rfl⟩
 ·injection e1 with e2 e3 e4;subst e2;exact .inl ⟨b,rfl,h5⟩
 ·injection e1 with e2 e3 e4;subst e2;exact .inr ⟨rfl,rfl⟩
theorem uM.drew {w:World} {size n:Nat} {v:Value} {xs:List Value} (h:uM size v n xs w):uM size v n xs w.drew:=h
theorem jr {P:Program} {c:Code} {Q:Exit->Act->World->Prop} {a:Act} {w:World} {X:Type} (f:Act->X->Act) (F:X->World->Prop)
 (h1:c.wp P (fun e a' w'=>e=.normal/\∃ x,a'=f a x/\F x w') a w) (h2:∀ x w',F x w'->Q .normal (f a x) w'):c.wp P Q a w :=
 Code.wp_mono (fun e a' w' ⟨he,x,hx,hF⟩=>by subst he;subst hx;exact h2 x w' hF) h1
theorem zO {w:World} {b o:Nat} {c:Array Value} {e:TypeId} {u:Value} (h:w.heap[b]? = some (.cells c e (0,0))):(w.setCell ⟨b,o,none⟩ u).heap[b]? = some (.cells (c.setIfInBounds o u) e (0,0)):=by
 have m_:=zZ h;have h':w.heap[b]=.cells c e (0,0):=by simpa [Oo m_] using h
 show (w.heap.modify b _)[b]? = _;rw [Oo (by simpa using m_),Array.getElem_modify_self,h'];simp
structure kK (F0:Nat->Prop) (W:World) (g:Nat) (o:Obj) (d:List DV) (v:List Value) (Z:World):Prop where
 below:Below W.heap.size W Z
 new:W.heap.size<=g
 blk:Z.heap[g]? = some o
 rep:zW (fun i=>(F0 i\/W.heap.size<=i)/\i≠g) Z d v
theorem kK.first {F0:Nat->Prop} {W V0 V1 Z:World} {o:Obj} {d:List DV} {v:List Value} (hF0:∀ i,F0 i->i<W.heap.size) (h0:Below W.heap.size W V0) (Bw:V0.heap.size=W.heap.size+1) (hb:Below V0.heap.size V0 V1) (hr:zW (fun i=>F0 i\/V0.heap.size<=i) V1 d v)
 (tw:But (fun i=>i=W.heap.size) V1 Z) (mm:Z.heap[W.heap.size]? = some o):kK F0 W W.heap.size o d v Z:=by
 have hz:=hb.size;have mi:Below W.heap.size W V1:=h0.trans (hb.mono (by omega));refine ⟨mi.trans (tw.toBelow (by omega) fun i hi e=>by omega),my _,mm,?_⟩;refine (Rep.keep fun i x hi hx=>?_).2 _ _ hr;have hne:i≠W.heap.size:=by rcases hi with h | h;have:=hF0 i h;omega;omega
 exact ⟨⟨hi.elim .inl (fun h=>.inr (by omega)),hne⟩,by rw [tw.block i (zZ hx) hne];exact hx⟩
theorem kK.last {F0:Nat->Prop} {W V1 Z:World} {z o:Obj} {d:List DV} {v:List Value} (hb:Below W.heap.size W V1) (hr:zW (fun i=>F0 i\/W.heap.size<=i) V1 d v)
 (tw:But (fun i=>i=V1.heap.size) (V1.alloc z) Z) (mm:Z.heap[V1.heap.size]? = some o):kK F0 W V1.heap.size o d v Z:=by
 have hz:=hb.size;refine ⟨(hb.alloc hz z).trans (tw.toBelow (by rw [zK];omega) fun i hi e=>by omega),hz,mm,?_⟩;refine (Rep.keep fun i x hi hx=>?_).2 _ _ hr;have hl:=zZ hx;have hne:i≠V1.heap.size:=by omega
 exact ⟨⟨hi,hne⟩,by rw [tw.block i (by rw [zK];omega) hne,Below.heap_alloc _ _ _ hl];exact hx⟩
theorem kK.fresh {F0:Nat->Prop} {W V1:World} {cs:Array Value} {T:TypeId} {d:List DV} {v:List Value} (hb:Below W.heap.size W V1) (hr:zW (fun i=>F0 i\/W.heap.size<=i) V1 d v):kK F0 W V1.heap.size (.cells cs T (0,0)) d v (V1.alloc (.cells cs T)):=by
 refine ⟨hb.alloc hb.size _,hb.size,zG _ _,?_⟩;refine (Rep.keep fun i x hi hx=>?_).2 _ _ hr;have hl:=zZ hx;exact ⟨⟨hi,by omega⟩,zU hx⟩
theorem kK.cell0 {F0:Nat->Prop} {W:World} {g:Nat} {u:Value} {T:TypeId} {d:List DV} {v:List Value} {Z:World} (h:kK F0 W g (.cells #[u] T (0,0)) d v Z):Z.cell? ⟨g,0,none⟩=some u:=by
 simp only [GD,h.blk];rfl
theorem but1 (w:World) (g:Nat) (u:Value):But (fun i=>i=g) w (w.setCell ⟨g,0,none⟩ u):=(But.refl (fun i=>i=g) w).setCell (p:=⟨g,0,none⟩) (.inl rfl) u
theorem qY {w:World} {g:Nat} {u:Value} {T:TypeId} (h:w.heap[g]? = some (.cells #[u] T (0,0))) (v:Value) :
 ∃ W,W=w.setCell ⟨g,0,none⟩ v/\W.cell? ⟨g,0,none⟩=some v/\(∀ B w0,Below B w0 w->B<=g->Below B w0 W)/\(∀ i x,i≠g->w.heap[i]? = some x->W.heap[i]? = some x):=by
 have hc:(w.setCell ⟨g,0,none⟩ v).heap[g]? = some (.cells #[v] T (0,0)):=by rw [zO h];rfl
 refine ⟨_,rfl,by simp only [GD,hc];rfl,fun B w0 hb hB=>hb.setCell (p:=⟨g,0,none⟩) hB _,fun i x hi hx=>?_⟩;rw [mp _ _ _ _ (by simpa using hi)];exact hx
theorem but4 (w:World) (g:Nat) (u0 u1 u2 u3:Value):But (fun i=>i=g) w ((((w.setCell ⟨g,0,none⟩ u0).setCell ⟨g,1,none⟩ u1).setCell ⟨g,2,none⟩ u2).setCell ⟨g,3,none⟩ u3) :=
 ((((But.refl (fun i=>i=g) w).setCell (p:=⟨g,0,none⟩) (.inl rfl) _).setCell (p:=⟨g,1,none⟩) (.inl rfl) _).setCell (p:=⟨g,2,none⟩) (.inl rfl) _).setCell (p:=⟨g,3,none⟩) (.inl rfl) _

theorem name_no1 {s:Bs} (h:3<s.length):qv s=false:=by
 cases s with
 | nil=>simp at h
 | cons c r=>simp only [N5] at h;simp only [qv];rw [decide_eq_false (by omega)];rfl
theorem cu {s:Bs} (h:0<s.length) (hc:s[0].toNat<120\/122<s[0].toNat):qv s=false:=by
 cases s with
 | nil=>simp at h
 | cons c r =>
   simp only [RT] at hc;rw [Q6];intro hn;simp only [qv,Oa,decide_eq_true_eq,Pi] at hn;have h1:=hn.1.2.1;have h2:=hn.1.2.2;have e1:(120:UInt8).toNat=120:=rfl;have e2:(122:UInt8).toNat=122:=rfl;omega
theorem cv {s:Bs} {k:Nat} (h1:1<=k) (h:k<s.length) (hc:s[k].toNat<48\/57<s[k].toNat):qv s=false:=by
 cases s with
 | nil=>simp at h
 | cons c r =>
   obtain ⟨k,rfl⟩:∃ j,k=j+1:=⟨k-1,by omega⟩;simp only [RU] at hc;rw [Q6];intro hn;simp only [qv,Oa,P0] at hn;have h2:=hn.2 _ (List.getElem_mem (by simpa using h));simp only [dig,Oa,decide_eq_true_eq,Pi] at h2;have e1:(48:UInt8).toNat=48:=rfl;have e2:(57:UInt8).toNat=57:=rfl;omega
theorem name_yes {s:Bs} (h:0<s.length) (h3:s.length<=3) (hc:120<=s[0].toNat/\s[0].toNat<=122) (hd:∀ k,1<=k->∀ (hk:k<s.length),48<=s[k].toNat/\s[k].toNat<=57):qv s=true:=by
 cases s with
 | nil=>simp at h
 | cons c r =>
   simp only [RT] at hc;simp only [N5] at h3;have e1:(120:UInt8).toNat=120:=rfl;have e2:(122:UInt8).toNat=122:=rfl;have e3:(48:UInt8).toNat=48:=rfl;have e4:(57:UInt8).toNat=57:=rfl;simp only [qv,Oa,decide_eq_true_eq,Pi,P0];refine ⟨⟨by omega,by omega,by omega⟩,fun x hx=>?_⟩;obtain ⟨i,hi,rfl⟩:=List.getElem_of_mem hx;have:=hd (i+1) (by omega) (by simpa using hi);simp only [RU] at this;simp only [dig,Oa,decide_eq_true_eq,Pi];omega
def qz (d:Nat):Nat->Bs->Option (List Tm×Bs)
 | 0,l=>some ([],l)
 | n+1,l=>(cut [32] l).bind fun l1=>(jU d l1).bind fun t=>(qz d n t.2).map fun y=>(t.1::y.1,y.2)
theorem xB (d:Nat) (l:Bs):qz d 0 l=some ([],l):=rfl
theorem wl (d n:Nat) (l:Bs):qz d (n+1) l=(cut [32] l).bind fun l1=>(jU d l1).bind fun t=>(qz d n t.2).map fun y=>(t.1::y.1,y.2):=rfl
def fd (w:Bs):Nat:=if w=j_ then 1 else if w=vi then 2 else if w=ifW then 3 else 0
def cQ (w x:Bs) (k:Ty):List Tm->Tm
 | [t]=>.lam x k t
 | [m,n]=>.app m n
 | [l,m,n]=>.ite l m n
 | _=>.wd w
theorem rdTm_lam {d:Nat} {l l3 l4 l6:Bs} {k:Ty} (hw:zF l=j_) (h1:cut [32] (zD l)=some l3) (hn:qv (zF l3)=true) (h2:cut [32] (zD l3)=some l4) (hk:rdK 60 l4=some (k,l6)) :
 jU (d+1) (40::l)=(qz d 1 l6).bind fun y=>(cut [41] y.2).map fun r=>(cQ j_ (zF l3) k y.1,r):=by
 rw [ji,if_pos hw,h1];simp only [Mm];rw [if_pos hn,h2];simp only [Mm];rw [hk];simp only [Mm,qz];cases cut [32] l6 with
 | none=>rfl
 | some l7 =>
   simp only [Mm];cases jU d l7 with
   | none=>rfl
   | some t=>rfl
theorem rdTm_app {d:Nat} {l:Bs} (x:Bs) (k:Ty) (hw:zF l=vi):jU (d+1) (40::l)=(qz d 2 (zD l)).bind fun y=>(cut [41] y.2).map fun r=>(cQ vi x k y.1,r):=by
 rw [ji,if_neg (by rw [hw];decide),if_pos hw];simp only [qz];cases cut [32] (zD l) with
 | none=>rfl
 | some l3 =>
   simp only [Mm];cases jU d l3 with
   | none=>rfl
   | some t =>
     simp only [Mm];cases cut [32] t.2 with
     | none=>rfl
     | some l4 =>
       simp only [Mm];cases jU d l4 with
       | none=>rfl
       | some t=>rfl
theorem rdTm_ite {d:Nat} {l:Bs} (x:Bs) (k:Ty) (hw:zF l=ifW):jU (d+1) (40::l)=(qz d 3 (zD l)).bind fun y=>(cut [41] y.2).map fun r=>(cQ ifW x k y.1,r):=by
 rw [ji,if_neg (by rw [hw];decide),if_neg (by rw [hw];decide),if_pos hw];simp only [qz];cases cut [32] (zD l) with
 | none=>rfl
 | some l3 =>
   simp only [Mm];cases jU d l3 with
   | none=>rfl
   | some t =>
     simp only [Mm];cases cut [32] t.2 with
     | none=>rfl
     | some l4 =>
       simp only [Mm];cases jU d l4 with
       | none=>rfl
       | some t2 =>
         simp only [Mm];cases cut [32] t2.2 with
         | none=>rfl
         | some l5 =>
           simp only [Mm];cases jU d l5 with
           | none=>rfl
           | some t=>rfl
theorem rdTm_lamNo1 {d:Nat} {l:Bs} (hw:zF l=j_) (h1:cut [32] (zD l)=none):jU (d+1) (40::l)=none:=by
 rw [ji,if_pos hw,h1];rfl
theorem rdTm_lamNo2 {d:Nat} {l l3:Bs} (hw:zF l=j_) (h1:cut [32] (zD l)=some l3) (hn:qv (zF l3)=false):jU (d+1) (40::l)=none:=by
 rw [ji,if_pos hw,h1];simp only [Mm];rw [if_neg (by rw [hn];decide)]
theorem rdTm_lamNo3 {d:Nat} {l l3:Bs} (hw:zF l=j_) (h1:cut [32] (zD l)=some l3) (h2:cut [32] (zD l3)=none):jU (d+1) (40::l)=none:=by
 rw [ji,if_pos hw,h1];simp only [Mm];rw [h2];split <;> rfl
theorem rdTm_lamNo4 {d:Nat} {l l3 l4:Bs} (hw:zF l=j_) (h1:cut [32] (zD l)=some l3) (h2:cut [32] (zD l3)=some l4) (hk:rdK 60 l4=none):jU (d+1) (40::l)=none:=by
 rw [ji,if_pos hw,h1];simp only [Mm];rw [h2];simp only [Mm];rw [hk];split <;> rfl
theorem rdTm_none {d:Nat} {l:Bs} (hw:fd (zF l)=0):jU d (40::l)=none:=by
 cases d with
 | zero=>exact rdTm_zero
 | succ d =>
   unfold fd at hw;rw [ji];split
   ·rename_i h;rw [if_pos h] at hw;simp at hw
   ·rename_i h;rw [if_neg h] at hw;split
    ·rename_i h2;rw [if_pos h2] at hw;simp at hw
    ·rename_i h2;rw [if_neg h2] at hw;split
     ·rename_i h3;rw [if_pos h3] at hw;simp at hw
     ·rfl
theorem rdParTm_step {d n:Nat} {l0 l l1 r:Bs} {m:Nat} {ts:List Tm} {t:Tm} (h:qz d m l0=(qz d (n+1) l).map fun y=>(ts++y.1,y.2)) (h1:cut [32] l=some l1) (h2:jU d l1=some (t,r)) :
 qz d m l0=(qz d n r).map fun y=>((ts++[t])++y.1,y.2):=by
 rw [h,wl,h1];simp only [Mm];rw [h2];simp only [Mm,Option.map_map]
 congr 1
 funext y;simp
theorem eF {d n:Nat} {l0 l:Bs} {m:Nat} {ts:List Tm} (h:qz d m l0=(qz d (n+1) l).map fun y=>(ts++y.1,y.2)) (h1:cut [32] l=none):qz d m l0=none:=by
 rw [h,wl,h1];rfl
theorem eE {d n:Nat} {l0 l l1:Bs} {m:Nat} {ts:List Tm} (h:qz d m l0=(qz d (n+1) l).map fun y=>(ts++y.1,y.2)) (h1:cut [32] l=some l1) (h2:jU d l1=none):qz d m l0=none:=by
 rw [h,wl,h1];simp only [Mm];rw [h2];rfl
theorem rdTm_le:∀ {d:Nat} {l:Bs} {t:Tm} {r:Bs},jU d l=some (t,r)->r.length<l.length:=by
 intro d l t r h;obtain ⟨e,ho,_⟩:=b_ d l t r h;rw [e,NZ];have:0<(kJ t).length:=by
  cases t with
  | nm x =>
    have:kJ (.nm x)=x:=by unfold kJ;rw [kx,zu]
    rw [this];have:=(y9 ho).1;exact Pv.2 this
  | wd x =>
    have:kJ (.wd x)=x:=by unfold kJ;rw [kx,zu]
    rw [this];have:=(wL ho).1;exact Pv.2 this
  | lam x k t=>rw [yF];simp
  | app m n=>rw [yN];simp
  | ite l m n=>rw [yM];simp
 omega
theorem f_ (s:Bs) (w:World) (hl:Lim s.length) :
 Calls KD 79 #[str s] w fun en w'=>en=.returned (.bool (qv s))/\w'=w:=by
 have iU:=hl.le;by_cases h0:s.length=0
 ·obtain rfl:s=[]:=Ox h0;clear h0;go_enter QI,Qs;go_wp2_with fail
  go_ret;exact ⟨rfl,rfl⟩
 have hne:(s == [])=false:=by rw [beq_eq_false_iff_ne];rintro rfl;exact h0 rfl
 have o_:s.isEmpty=false:=by rw [List.isEmpty_eq_false_iff];rintro rfl;exact h0 rfl
 have sW:0<s.length:=by omega
 clear h0;by_cases h3:3<s.length
 ·have HN:=mj (name_no1 h3);go_enter QI,Qs;go_wp2_with fail
  go_ret;exact ⟨by rw [HN.out];rfl,rfl⟩
 have B:=xQ sW;by_cases hA:s[0].toNat<120
 ·have HN:=mj (cu sW (.inl hA));have b1:((((⟨s.toArray⟩:ByteArray)[0]'(kr sW)).toNat:Int))<120:=by rw [B];omega
  clear B hA;go_enter QI,Qs;go_wp2_with fail
  go_ret;exact ⟨by rw [HN.out];rfl,rfl⟩
 by_cases hB:122<s[0].toNat
 ·have HN:=mj (cu sW (.inr hB));have b1:(122:Int)<((((⟨s.toArray⟩:ByteArray)[0]'(kr sW)).toNat:Int)):=by rw [B];omega
  have b2:¬ ((((⟨s.toArray⟩:ByteArray)[0]'(kr sW)).toNat:Int))<120:=by omega
  clear B hA hB;go_enter QI,Qs;go_wp2_with fail
  go_ret;exact ⟨by rw [HN.out];rfl,rfl⟩
 have b1:¬ (122:Int)<((((⟨s.toArray⟩:ByteArray)[0]'(kr sW)).toNat:Int)):=by rw [B];omega
 have b2:¬ ((((⟨s.toArray⟩:ByteArray)[0]'(kr sW)).toNat:Int))<120:=by rw [B];omega
 have HA:=mj (mu hA hB);clear B hA hB;go_enter QI,Qs;go_wp2_with fail
 clear b1 b2
 go_loop [3] (fun i=>∃ k:Nat,1<=k/\k<=s.length/\i=.int .i64 k/\∀ j,1<=j->j<k->∀ (hj:j<s.length),48<=s[j].toNat/\s[j].toNat<=57) (fun i=>s.length-(intOf i).toNat)
 case atStart=>exact ⟨1,my _,sW,rfl,fun j h1 h2=>by omega⟩
 case round =>
  obtain ⟨k,Bf,hk,rfl,sx⟩:=hrel;have HR:=mj sx;clear sx;by_cases m_:k<s.length
  ·have B:=xQ m_;by_cases hA:s[k].toNat<48
   ·have HN:=mj (cv Bf m_ (.inl hA));have b1:((((⟨s.toArray⟩:ByteArray)[k]'(kr m_)).toNat:Int))<48:=by rw [B];omega
    clear B hA;go_wp2_with fail
    go_ret;exact ⟨by rw [HN.out];rfl,rfl⟩
   by_cases hB:57<s[k].toNat
   ·have HN:=mj (cv Bf m_ (.inr hB));have b1:(57:Int)<((((⟨s.toArray⟩:ByteArray)[k]'(kr m_)).toNat:Int)):=by rw [B];omega
    have b2:¬ ((((⟨s.toArray⟩:ByteArray)[k]'(kr m_)).toNat:Int))<48:=by omega
    clear B hA hB;go_wp2_with fail
    go_ret;exact ⟨by rw [HN.out];rfl,rfl⟩
   have b1:¬ (57:Int)<((((⟨s.toArray⟩:ByteArray)[k]'(kr m_)).toNat:Int)):=by rw [B];omega
   have b2:¬ ((((⟨s.toArray⟩:ByteArray)[k]'(kr m_)).toNat:Int))<48:=by rw [B];omega
   have HB:=mj (mu hA hB);clear B hA hB;go_wp2_with fail
   go_round
   case rel=>exact ⟨k+1,by omega,by omega,by go_num,fun j h1 h2 hj=>by
    by_cases e:j=k
    ·subst e;have:=HB.out;omega
    ·exact HR.out j h1 (by omega) hj⟩
   case measure=>simp [intOf];omega
  ·go_wp2_with fail
   go_ret;have HA':=HA.out;exact ⟨by rw [name_yes sW (by omega) (by omega) (fun j h1 hj=>HR.out j h1 (by omega) hj)];rfl,rfl⟩
def jM:Tm->DV
 | .nm x=>.ptr 106 [.val (str []),.val (str x),.val (.pointer none),.sl 54 1 0 []]
 | .wd w=>.ptr 106 [.val (str w),.val (str []),.val (.pointer none),.sl 54 1 0 []]
 | .lam x k t=>.ptr 106 [.val (str j_),.val (str x),jT k,.sl 54 1 1 [jM t]]
 | .app m n=>.ptr 106 [.val (str vi),.val (str []),.val (.pointer none),.sl 54 1 2 [jM m,jM n]]
 | .ite l m n=>.ptr 106 [.val (str ifW),.val (str []),.val (.pointer none),.sl 54 1 3 [jM l,jM m,jM n]]
theorem qM {F:Nat->Prop} {w:World} {t:Tm} {v:Value} (h:Rep F w (jM t) v):∃ a,v=.pointer (some ⟨a,0,none⟩):=by
 cases t <;> (rw [jM,jv] at h;obtain ⟨a,c,h,_⟩:=h;exact ⟨a,h⟩)
def vy (sc:Nat) (c:List Value) (e:TypeId) (w:World) (o:Option (Tm×Bs)) (en:Ending) (w':World):Prop :=
 ∃ v r',en=.returned v/\But (· = sc) w w'/\qT sc c e r' w'/\(o=none->v=.pointer none)/\(∀ t rest,o=some (t,rest)->r'=rest/\Rep (w.heap.size<=·) w' (jM t) v)
theorem vy.no {sc:Nat} {c:List Value} {e:TypeId} {w:World} {r:Bs} {w':World} {o:Option (Tm×Bs)} (ho:o=none) (hb:But (· = sc) w w') (hs:qT sc c e r w'):vy sc c e w o (.returned (.pointer none)) w' :=
 ⟨_,r,rfl,hb,hs,fun _=>rfl,fun _ _ h=>by rw [ho] at h;simp at h⟩
theorem vy.yes {sc:Nat} {c:List Value} {e:TypeId} {w:World} {r:Bs} {w':World} {o:Option (Tm×Bs)} {t:Tm} {v:Value} (ho:o=some (t,r)) (hb:But (· = sc) w w') (hs:qT sc c e r w')
 (hv:Rep (w.heap.size<=·) w' (jM t) v):vy sc c e w o (.returned v) w' :=
 ⟨_,r,rfl,hb,hs,fun h=>by rw [ho] at h;simp at h,fun _ _ h=>by rw [ho] at h;simp at h;obtain ⟨rfl,rfl⟩:=h;exact ⟨rfl,hv⟩⟩
def dF (sc:Nat) (c:List Value) (e:TypeId) (d:Nat):Prop:=∀ (r:Bs) (w:World),qT sc c e r w->Lim r.length ->
    Calls KD 49 #[.pointer (some ⟨sc,0,none⟩),.int .i64 d] w (vy sc c e w (jU d r))
theorem kV {H:Type} {P:Program} (w:World) {ops:Array Oper} {rest:List Oper} {o:Oper} {a:Act} {Q:Exit->Act->World->Prop}
 (hg:o.guard=none) (m x v:Operand) (t:TypeId) (hop:o.op=Op.insert t m x v)
 (k e:TypeId) (K:TX P k) (ht:P.underlying t=some (.map k e)) (R:Value->Option (DataW H×List MemPlace)) (b n:Nat) (D:DataW H)
 (hm:a.eval m=.map (some b)) (nM:w.ownsMap P k R b n D) (hn:n<maxLen) (key val:Value) (kl:Lit) (hx:a.eval x=key) (hv:a.eval v=val) (IY:keyOf P k key=some kl)
 (d:DataW H) (ps:List MemPlace) (FL:R val=some (d,ps))
 (hK:∀ w',w'.ownsMap P k R b (n+1) (D.put kl d)->w.grownBy w' (some b)->wpList P ops Q rest (a.put o.dst undef) w') :
 wpList P ops Q (o::rest) a w:=by
 refine wpList_plain hg fun K' hK'=>?_;obtain ⟨w',BD,r1,r2⟩:=nM.update K ht hn IY FL;unfold P6;simp [execOp,hop,hm,hx,hv,BD,Result.andThen];exact hK' _ _ (hK w' r1 r2)
theorem many_at (s:Bs) {H:Type}:((((DataW.map []:DataW H).put (.string j_) (.lit (.int .i64 1))).put (.string vi) (.lit (.int .i64 2))).put (.string ifW) (.lit (.int .i64 3))).atKey (.string s) (.lit (.int .i64 0))=.lit (.int .i64 (fd s:Nat)):=by
 have i0:Maps.IsMap (DataW.map []:DataW H):=Maps.isMap_empty;unfold fd;by_cases h3:s=ifW
 ·subst h3;rw [OQ ((i0.put _ _).put _ _) (by simp [Pb]),if_neg (by decide),if_neg (by decide),if_pos rfl];rfl
 rw [N2 (by simpa using h3)];by_cases h2:s=vi
 ·subst h2;rw [OQ (i0.put _ _) (by simp [Pb]),if_neg (by decide),if_pos rfl];rfl
 rw [N2 (by simpa using h2)];by_cases h1:s=j_
 ·subst h1;rw [OQ i0 (by simp [Pb]),if_pos rfl];rfl
 rw [N2 (by simpa using h1),if_neg h1,if_neg h2,if_neg h3];rfl
theorem Tryz.lawS:TX KD 9:=Maps.string_keyed Sn
theorem Tryz.zeroI (w:World):(zeroValue 3).run KD w=.ok (.int .i64 0) w:=by kernel_rfl
theorem bG {s:Bs} (h:Lim s.length):keyOf KD 9 (str s)=some (.string s):=by
 have:=WideMaps.keyOf_string_mk (P:=KD) Sn (s:=⟨s.toArray⟩) (by rw [ui];have:=h.le;unfold maxLen;omega);simpa using this
def uE (ob:Nat) (wd nm:Bs) (kv slv:Value) (w:World):Prop:=w.heap[ob]? = some (.cells #[str wd,str nm,kv,slv] 106 (0,0))
theorem uE.cells {ob:Nat} {wd nm:Bs} {kv slv:Value} {w:World} (h:uE ob wd nm kv slv w):w.cell? ⟨ob,0,none⟩=some (str wd)/\w.cell? ⟨ob,1,none⟩=some (str nm)/\w.cell? ⟨ob,2,none⟩=some kv/\w.cell? ⟨ob,3,none⟩=some slv/\ob<w.heap.size/\(∀ o,w.frozen? ⟨ob,o,none⟩=false):=by
 have hl:=zZ h;unfold uE at h;exact ⟨by simp [GD,h],by simp [GD,h],by simp [GD,h],by simp [GD,h],hl,fun o=>by simp [World.frozen?,h]⟩
theorem uE.put1 {ob:Nat} {wd nm u:Bs} {kv slv:Value} {w:World} (h:uE ob wd nm kv slv w):uE ob wd u kv slv (w.setCell ⟨ob,1,none⟩ (str u)):=by
 unfold uE;rw [zy h];rfl
theorem uE.put2 {ob:Nat} {wd nm:Bs} {kv slv u:Value} {w:World} (h:uE ob wd nm kv slv w):uE ob wd nm u slv (w.setCell ⟨ob,2,none⟩ u):=by
 unfold uE;rw [zy h];rfl
theorem uE.put3 {ob:Nat} {wd nm:Bs} {kv slv u:Value} {w:World} (h:uE ob wd nm kv slv w):uE ob wd nm kv u (w.setCell ⟨ob,3,none⟩ u):=by
 unfold uE;rw [zy h];rfl
theorem term_word (sc:Nat) (c:List Value) (e:TypeId) (d:Nat) (hd:d<=1000) (r:Bs) (w:World) (hs:qT sc c e r w) (hr:Lim r.length) (h1:gS [40] r) :
 Calls KD 49 #[.pointer (some ⟨sc,0,none⟩),.int .i64 d] w (vy sc c e w (jU d r)):=by
 have hm:jU d r=if qv (zF r) then some (.nm (zF r),zD r) else if jO (zF r) then some (.wd (zF r),zD r) else none:=by rw [jU.eq_def];simp only [h1.out]
 have HM:=mj hm;clear hm;have lU:Lim (zF r).length:=hr.mono (by have:=yj r;omega);go_enter TF,SW;go_wp2_with fail
 refine (ve hs h1).mono ?_;rintro en w1 ⟨rfl,mi,rz⟩;go_wp2_with fail
 refine (wW _ _ _ _ _ rz hr).mono ?_;rintro en w2 ⟨rfl,me,t6⟩;have hb:=mi.trans me;clear mi me rz hs h1;obtain ⟨wd,FK⟩:=zzM (zF r);rw [<- FK] at HM lU ⊢;clear FK;go_wp2_with fail
 (with_reducible refine (f_ wd w2 lU).mono ?_)
 rintro en w3 ⟨rfl,e3⟩;subst w3;cases hn:qv wd with
 | true =>
   have HN:=mj hn;clear hn;go_wp2_with fail
   go_ret;refine vy.yes (t:=.nm wd) (r:=zD r) (by rw [HM.out,if_pos HN.out]) (hb.alloc _) (t6.alloc _) ?_;rw [jM,jv];exact ⟨_,_,rfl,hb.size,zG _ _,zQ.2 ⟨_,_,rfl,zH.2 rfl,zQ.2 ⟨_,_,rfl,zH.2 rfl,zQ.2 ⟨_,_,rfl,zH.2 rfl,zQ.2 ⟨_,_,rfl,zg.2 ⟨rfl,none,0,rfl,my _,fun _=>rfl,.inl rfl⟩,zC.2 rfl⟩⟩⟩⟩⟩
 | false =>
   have HN:=mj hn;clear hn;have leaf:∀ x:UInt8,wd=[x]->jO [x]=true->∀ W,W=w2.alloc (.cells #[str [x],str [],.pointer none,.slice none 0 0] 106)->vy sc c e w (jU d r) (.returned (.pointer (some ⟨w2.heap.size,0,none⟩))) W:=by
    intro x hx Fp W hW;subst hW;refine vy.yes (t:=.wd wd) (r:=zD r) (by rw [HM.out,if_neg (by rw [HN.out];decide),if_pos (by rw [hx];exact Fp)]) (hb.alloc _) (t6.alloc _) ?_;rw [jM,jv,hx];exact ⟨_,_,rfl,hb.size,zG _ _,zQ.2 ⟨_,_,rfl,zH.2 rfl,zQ.2 ⟨_,_,rfl,zH.2 rfl,zQ.2 ⟨_,_,rfl,zH.2 rfl,zQ.2 ⟨_,_,rfl,zg.2 ⟨rfl,none,0,rfl,my _,fun _=>rfl,.inl rfl⟩,zC.2 rfl⟩⟩⟩⟩⟩
   have LEAF:=mj leaf;clear leaf;by_cases c1:wd=[116]
   ·have HC:=mj c1;rw [c1];clear c1 lU;go_wp2_with fail
    go_ret;exact LEAF.out _ HC.out (by decide) _ rfl
   by_cases c2:wd=[102]
   ·have HC:=mj c2;rw [c2];clear c1 c2 lU;go_wp2_with fail
    go_ret;exact LEAF.out _ HC.out (by decide) _ rfl
   by_cases c3:wd=[117]
   ·have HC:=mj c3;rw [c3];clear c1 c2 c3 lU;go_wp2_with fail
    go_ret;exact LEAF.out _ HC.out (by decide) _ rfl
   have n1:(wd == [116])=false:=by rw [beq_eq_false_iff_ne];exact c1
   have n2:(wd == [102])=false:=by rw [beq_eq_false_iff_ne];exact c2
   have n3:(wd == [117])=false:=by rw [beq_eq_false_iff_ne];exact c3
   have HL:=mj (show jO wd=false by simp [jO,n1,n2,n3]);clear c1 c2 c3 lU LEAF;go_wp2_with fail
   go_ret;exact vy.no (by rw [HM.out,if_neg (by rw [HN.out];decide),if_neg (by rw [HL.out];decide)]) hb t6
def x_ (sc:Nat) (c:List Value) (e:TypeId) (ob d m:Nat) (wd nm:Bs) (kv:Value) (r0:Bs) (wz:World) (k:Nat) (wr:World):Prop :=
 ∃ ts lk slv vs,ts.length=k/\(qz d m r0=(qz d (m-k) lk).map fun y=>(ts++y.1,y.2))/\lk.length<=r0.length/\But (fun i=>i=sc\/i=ob) wz wr/\qT sc c e lk wr/\uE ob wd nm kv slv wr /\
   Own wr 54 1 slv k vs/\(∀ g,slv.ownBlock=some g->wz.heap.size<=g)/\zW (fun b=>wz.heap.size<=b/\slv.ownBlock≠some b) wr (ts.map jM) vs
theorem Tryz.infoTm:(KD.info? 54).map (fun i=>(i.zero,i.size,i.bytes))=some (some (.pointer none),1,8):=by kernel_rfl
theorem x_.next {sc:Nat} {c:List Value} {e:TypeId} {ob d m:Nat} {wd nm:Bs} {kv:Value} {r0:Bs} {wz:World} {k:Nat} {wr w2 w3:World} {ts:List Tm} {lk:Bs} {slv:Value} {vs:List Value} {t:Tm} {l1 rest:Bs} {vt:Value} {o:Obj} {a':Option Addr} {c':Nat}
 (m_:k<m) (rC:ts.length=k) (hp:qz d m r0=(qz d (m-k) lk).map fun y=>(ts++y.1,y.2)) (rL:lk.length<=r0.length) (hb:But (fun i=>i=sc\/i=ob) wz wr) (lg:uE ob wd nm kv slv wr)
 (nM:Own wr 54 1 slv k vs) (hZ:∀ g,slv.ownBlock=some g->wz.heap.size<=g) (hr:zW (fun b=>wz.heap.size<=b/\slv.ownBlock≠some b) wr (ts.map jM) vs)
 (hc:cut [32] lk=some l1) (ht:jU d l1=some (t,rest)) (me:But (· = sc) wr w2) (t6:qT sc c e rest w2) (hv:Rep (wr.heap.size<=·) w2 (jM t) vt)
 (sh:Own w3 54 1 (.slice a' (k+1) c') (k+1) (vs++[vt])) (nZ:But (fun b=>slv.ownBlock=some b) (w2.alloc o) w3) (hg:∀ g,(Value.slice a' (k+1) c').ownBlock=some g->slv.ownBlock=some g\/g=(w2.alloc o).heap.size)
 (AF:sc<ob) (Es:ob<wz.heap.size):x_ sc c e ob d m wd nm kv r0 wz (k+1) (w3.setCell ⟨ob,3,none⟩ (.slice a' (k+1) c')):=by
 have z0:=hb.size;have z2:=me.size;have z3:=nZ.size;rw [zK] at hg z3;have keep:∀ i x,w2.heap[i]? = some x->slv.ownBlock≠some i->i≠ob->(w3.setCell ⟨ob,3,none⟩ (.slice a' (k+1) c')).heap[i]? = some x:=by
  intro i x hi hne ho;rw [mp _ _ _ _ (by simpa using ho),nZ.block i (by rw [zK];have:=zZ hi;omega) hne];exact zU hi
 have rF:∀ g,slv.ownBlock=some g->g<wr.heap.size:=fun g h=>nM.lt h;have LL:uE ob wd nm kv slv w2:=(me.block ob (zZ lg) (by omega)).trans lg;have Eu:uE ob wd nm kv slv w3:=by
  unfold uE;rw [nZ.block ob (by rw [zK];have:=zZ LL;omega) (fun e=>by have:=hZ ob e;omega)];exact zU LL
 refine ⟨ts++[t],rest,_,vs++[vt],by simp [rC],?_,?_,?_,?_,Eu.put3,?_,?_,?_⟩
 ·rw [show m-k=(m-(k+1))+1 from by omega] at hp;exact rdParTm_step hp hc ht
 ·have k1:=congrArg Pj (vz hc);have k2:=rdTm_le ht;simp only [NZ,N5,OD] at k1;omega
 ·refine ((hb.trans (me.weak fun i _ e=>.inl e)).trans' ((But.refl (fun b=>slv.ownBlock=some b) w2).alloc o |>.trans nZ) fun i hi e=>?_).setCell (p:=⟨ob,3,none⟩) (.inl (.inr rfl)) _;have:=hZ i e;omega
 ·exact keep sc _ t6 (fun e=>by have:=hZ sc e;omega) (by omega)
 ·refine sh.keep fun g x sZ lp=>?_
  rw [mp _ _ _ _ (by
   rcases hg g sZ with h | h
   ·have:=hZ g h;simp;omega
   ·simp;omega)]
  exact lp
 ·intro g h;rcases hg g h with h | h
  ·exact hZ g h
  ·omega
 ·rw [RB];refine zW.append ?_ (zW.one ?_)
  ·refine (Rep.keep fun i x hi lp=>⟨⟨hi.1,fun e=>?_⟩,?_⟩).2 _ _ hr
   ·have hi1:=hi.1;exact keep i x (by rw [me.block i (zZ lp) (by omega)];exact lp) hi.2 (by omega)
   ·rcases hg i e with h | h
    ·exact hi.2 h
    ·have:=zZ lp;omega
  ·refine (Rep.keep fun i x hi lp=>⟨⟨by have:=hi;omega,fun e=>?_⟩,?_⟩).1 _ _ hv
   ·exact keep i x lp (fun e=>by have:=rF i e;have:=hi;omega) (by have:=hi;omega)
   ·rcases hg i e with h | h
    ·have:=rF i h;have:=hi;omega
    ·have:=zZ lp;omega
theorem enc_mk {F:Nat->Prop} {w:World} {ob n:Nat} {wd nm:Bs} {kv slv:Value} {kd:DV} {ds:List DV} (hF:F ob) (h:uE ob wd nm kv slv w) (hk:Rep F w kd kv) (hs:Rep F w (.sl 54 1 n ds) slv) :
 Rep F w (.ptr 106 [.val (str wd),.val (str nm),kd,.sl 54 1 n ds]) (.pointer (some ⟨ob,0,none⟩)):=by
 rw [jv];exact ⟨_,_,rfl,hF,h,zQ.2 ⟨_,_,rfl,zH.2 rfl,zQ.2 ⟨_,_,rfl,zH.2 rfl,zQ.2 ⟨_,_,rfl,hk,zQ.2 ⟨_,_,rfl,hs,zC.2 rfl⟩⟩⟩⟩⟩
theorem enc_lam (x:Bs) (k:Ty) (ts:List Tm) (h:ts.length=1):jM (cQ j_ x k ts)=.ptr 106 [.val (str j_),.val (str x),jT k,.sl 54 1 ts.length (ts.map jM)]:=by
 match ts,h with
 | [t],_=>rw [cQ,jM];rfl
theorem enc_app (k:Ty) (ts:List Tm) (h:ts.length=2):jM (cQ vi [] k ts)=.ptr 106 [.val (str vi),.val (str []),.val (.pointer none),.sl 54 1 ts.length (ts.map jM)]:=by
 match ts,h with
 | [t,u],_=>rw [cQ,jM];rfl
theorem enc_ite (k:Ty) (ts:List Tm) (h:ts.length=3):jM (cQ ifW [] k ts)=.ptr 106 [.val (str ifW),.val (str []),.val (.pointer none),.sl 54 1 ts.length (ts.map jM)]:=by
 match ts,h with
 | [t,u,v],_=>rw [cQ,jM];rfl
theorem term_open (sc:Nat) (c:List Value) (e:TypeId) (d0:Nat) (hd:d0<=1000) (ih:∀ d',d0=d'+1->dF sc c e d') (r r1:Bs) (w:World) (hs:qT sc c e r w) (hr:Lim r.length) (h1:Cut [40] r r1) :
 Calls KD 49 #[.pointer (some ⟨sc,0,none⟩),.int .i64 d0] w (vy sc c e w (jU d0 r)):=by
 have er:r=40::r1:=by have:=vz h1.out;simpa using this
 have HR:=mj er;clear er;have IH:=mj ih;clear ih;have sJ:=hr.mono h1.le;have lU:Lim (zF r1).length:=sJ.mono (by have:=yj r1;omega);have tL:Lim (zD r1).length:=sJ.mono (by have:=yj r1;omega);have hmm:=@run_makeMap KD;go_enter TF,SW;go_wp2_with fail
 refine (jh hs h1).mono ?_;rintro en w1 ⟨rfl,mi,rz⟩;go_wp2_with fail
 refine (wW _ _ _ _ _ rz sJ).mono ?_;rintro en w2 ⟨rfl,me,t6⟩;have hb:=mi.trans me;clear mi me rz h1;obtain ⟨wd,FK⟩:=zzM (zF r1);rw [<- FK] at lU ⊢;have HW:=mj FK.symm;clear FK;have kS:=mj (bG lU);have k1:keyOf KD 9 (str j_)=some (.string j_):=bG (s:=j_) (by unfold Lim;decide);have k2:keyOf KD 9 (str vi)=some (.string vi):=bG (s:=vi) (by unfold Lim;decide);have k3:keyOf KD 9 (str ifW)=some (.string ifW):=bG (s:=ifW) (by unfold Lim;decide);have K1:=mj (mu k1 (mu k2 k3));clear k1 k2 k3 lU;have hsz:=hb.size;have made:((w2.alloc (.cells #[str wd,str [],.pointer none,.slice none 0 0] 106)).alloc (.map #[] 0)).ownsMap KD 9 (plainElem (H:=Unit) KD 3) (w2.heap.size+1) 0 (.map []):=by
  have:=World.ownsMap_made (H:=Unit) (w2.alloc (.cells #[str wd,str [],.pointer none,.slice none 0 0] 106)) KD 9 (plainElem (H:=Unit) KD 3);rwa [zK] at this
 have MADE:=mj made;clear made;go_wp2_with (refine kV (H:=Unit) _ rfl _ _ _ 151 rfl 9 3 Tryz.lawS P_ (plainElem KD 3) (w2.heap.size+1) 0 _ rfl MADE.out (by unfold maxLen;omega) _ _ _ rfl rfl K1.out.1 _ [] (plainElem_int Qn (by decide)) ?_)
 intro wa hA gA;go_wp2_with (refine kV (H:=Unit) _ rfl _ _ _ 151 rfl 9 3 Tryz.lawS P_ (plainElem KD 3) (w2.heap.size+1) 1 _ rfl hA (by unfold maxLen;omega) _ _ _ rfl rfl K1.out.2.1 _ [] (plainElem_int Qn (by decide)) ?_)
 intro wb hB gB;go_wp2_with (refine kV (H:=Unit) _ rfl _ _ _ 151 rfl 9 3 Tryz.lawS P_ (plainElem KD 3) (w2.heap.size+1) 2 _ rfl hB (by unfold maxLen;omega) _ _ _ rfl rfl K1.out.2.2 _ [] (plainElem_int Qn (by decide)) ?_)
 intro w3 hC gC
 have nZ:But (fun i=>i=w2.heap.size+1) ((w2.alloc (.cells #[str wd,str [],.pointer none,.slice none 0 0] 106)).alloc (.map #[] 0)) w3 :=
  ((But.ofGrown gA).weak (m':=fun i=>i=w2.heap.size+1) (fun i _ h=>by simpa using h)).trans (((But.ofGrown gB).weak (m':=fun i=>i=w2.heap.size+1) (fun i _ h=>by simpa using h)).trans ((But.ofGrown gC).weak (m':=fun i=>i=w2.heap.size+1) (fun i _ h=>by simpa using h)))
 obtain ⟨M,BD,ml,_⟩:=hC.lookup_int Tryz.lawS P_ Qn (Tryz.zeroI _) kS.out;rw [many_at] at ml;obtain rfl:(fd wd:Int)=M:=by simpa using ml
 have z3:=nZ.size;simp only [zK] at z3;have MN:But (· = sc) w w3:=hb.trans' (m':=fun i=>i=w2.heap.size+1) (((But.refl (fun i=>i=w2.heap.size+1) w2).alloc _ |>.alloc _).trans nZ) (fun i hi e=>by omega);have L6:∀ i x,w2.heap[i]? = some x->w3.heap[i]? = some x:=fun i x h=>by
  have hl:=zZ h;rw [nZ.block i (by simp;omega) (by omega)];exact zU (zU h)
 have lY:qT sc c e (zD r1) w3:=L6 _ _ t6;have Eu:uE w2.heap.size wd [] (.pointer none) (.slice none 0 0) w3:=by
  unfold uE;rw [nZ.block w2.heap.size (by simp;omega) (by omega)];exact zU (zG _ _)
 have FJ:w.heap.size<=w2.heap.size:=hsz;have hscw:=ul hs;clear hA hB hC gA gB gC nZ ml MADE K1 kS t6 L6;obtain ⟨q0,_,_,_,q4,_⟩:=Eu.cells;obtain ⟨M,hM⟩:=zzM (fd wd);rw [<- hM] at BD;have HMW:=mj hM;clear hM;generalize hO:w2.heap.size=ob at *;clear hO z3;have A9:=mj (mu lY (mu Eu MN));clear lY Eu MN hb;by_cases LS:M=0
 ·have HX:=mj (show jU d0 r=none by rw [HR.out];exact rdTm_none (by rw [HW.out,<- HMW.out,LS]));subst LS;go_wp2_with fail
  go_ret;exact vy.no HX.out A9.out.2.2 A9.out.1
 have m0:((M:Int) == 0)=false:=by rw [beq_eq_false_iff_ne];omega
 by_cases Ac:d0=0
 ·have HX:=mj (show jU d0 r=none by rw [HR.out,Ac];exact rdTm_zero);subst Ac;go_wp2_with fail
  go_ret;exact vy.no HX.out A9.out.2.2 A9.out.1
 obtain ⟨d,rfl⟩:∃ d',d0=d'+1:=⟨d0-1,by omega⟩;have ecast:((d+1:Nat):Int)=(d:Int)+1:=by omega
 rw [ecast];clear ecast;have d00:((d:Int)+1 == 0)=false:=by rw [beq_eq_false_iff_ne];omega
 have IH':=mj (IH.out d rfl);clear IH Ac;by_cases aC:wd=j_
 ·have hq:(wd == [108,97,109])=true:=by rw [beq_iff_eq];exact aC
  have HL:=mj aC;clear aC;go_wp2_with fail
  rcases kD [32] (zD r1) with h4 | ⟨l3,h4⟩
  ·refine (ve A9.out.1 h4).mono ?_;rintro en w4 ⟨rfl,nS,tK⟩;go_wp2_with fail
   go_ret;exact vy.no (by rw [HR.out];exact rdTm_lamNo1 (by rw [HW.out,HL.out]) h4.out) (A9.out.2.2.trans nS) tK
  refine (jh A9.out.1 h4).mono ?_;rintro en w4 ⟨rfl,nS,tK⟩;have IU:=tL.mono h4.le;clear q0 q4 BD;go_wp2_with fail
  refine (wW _ _ _ _ _ tK IU).mono ?_;rintro en w5 ⟨rfl,nR,oQ⟩;have hbb:=nS.trans nR;have lD:uE ob wd [] (.pointer none) (.slice none 0 0) w5:=(hbb.block ob (zZ A9.out.2.1) (by omega)).trans A9.out.2.1;have AW:=A9.out.2.2.trans hbb;obtain ⟨nm,Fo⟩:=zzM (zF l3);have LY:Lim (zF l3).length:=IU.mono (by have:=yj l3;omega);have hl3r:Lim (zD l3).length:=IU.mono (by have:=yj l3;omega);rw [<- Fo] at LY ⊢;have HNM:=mj Fo.symm;clear Fo;obtain ⟨_,q1,_,_,q4,q5⟩:=lD.cells;have q6:=q5 1;have AL:=lD.put1 (u:=nm);have MP:=AW.setCell (p:=⟨ob,1,none⟩) (.inr (by simpa using FJ)) (str nm);have FR:qT sc c e (zD l3) (w5.setCell ⟨ob,1,none⟩ (str nm)):=by unfold qT;rw [mp _ _ _ _ (by simp;omega)];exact oQ
  have B2:=mj (mu FR (mu AL MP));clear q5 tK oQ nS nR hbb AW lD FR AL MP;go_wp2_with fail
  obtain ⟨w6,hw6⟩:=zzM (w5.setCell ⟨ob,1,none⟩ (str nm));rw [<- hw6] at B2 ⊢;clear hw6 q1 q4 q6;(with_reducible refine (f_ nm w6 LY).mono ?_);rintro en w7 ⟨rfl,e7⟩;subst w7;cases hn:qv nm with
  | false =>
    have HN:=mj hn;clear hn;go_wp2_with fail
    go_ret;exact vy.no (by rw [HR.out];exact rdTm_lamNo2 (by rw [HW.out,HL.out]) h4.out (by rw [HNM.out,HN.out])) B2.out.2.2 B2.out.1
  | true =>
    have HN:=mj hn;clear hn;go_wp2_with fail
    rcases kD [32] (zD l3) with h5 | ⟨l4,h5⟩
    ·refine (ve B2.out.1 h5).mono ?_;rintro en w7 ⟨rfl,mo,DK⟩;go_wp2_with fail
     go_ret;exact vy.no (by rw [HR.out];exact rdTm_lamNo3 (by rw [HW.out,HL.out]) h4.out h5.out) (B2.out.2.2.trans mo) DK
    refine (jh B2.out.1 h5).mono ?_;rintro en w7 ⟨rfl,mo,DK⟩;have lF:=hl3r.mono h5.le;go_wp2_with fail
    refine (kind_any _ _ _ 60 (by omega) l4 w7 DK lF).mono ?_;rintro en w8 ⟨kv,r8,rfl,rK,FQ,hn8,hy8⟩;have Gd:=mo.trans rK;have FX:uE ob wd nm (.pointer none) (.slice none 0 0) w8:=(Gd.block ob (zZ B2.out.2.1) (by omega)).trans B2.out.2.1;have Ae:=B2.out.2.2.trans Gd;have z7:=B2.out.2.2.size;have z78:=mo.size;have hl7:ob<w7.heap.size:=by have:=zZ B2.out.2.1;omega
    obtain ⟨_,_,q2,_,q4,q5⟩:=FX.cells;have q6:=q5 2;have FW:=FX.put2 (u:=kv);have Gg:=Ae.setCell (p:=⟨ob,2,none⟩) (.inr (by simpa using FJ)) kv;have JQ:qT sc c e r8 (w8.setCell ⟨ob,2,none⟩ kv):=by unfold qT;rw [mp _ _ _ _ (by simp;omega)];exact FQ
    rcases hk:rdK 60 l4 with _ | ⟨kk,l6⟩
    ·obtain rfl:=hn8 hk;have HK:=mj hk;clear hk hn8 hy8;have Fa:=mj (mu JQ (mu FW Gg));clear JQ FW Gg Ae FX Gd rK FQ mo DK q5;go_wp2_with fail
     go_ret;exact vy.no (by rw [HR.out];exact rdTm_lamNo4 (by rw [HW.out,HL.out]) h4.out (by exact h5.out) HK.out) Fa.out.2.2 Fa.out.1
    obtain ⟨rfl,oT⟩:=hy8 _ _ hk;have Gs:Rep (fun b=>w.heap.size<=b/\b≠ob/\b≠sc) (w8.setCell ⟨ob,2,none⟩ kv) (jT kk) kv:=(Rep.keep fun b o h ho=>⟨by have:=h;omega,by rw [mp _ _ _ _ (by have:=h;simp;omega)];exact ho⟩).1 _ _ oT;obtain ⟨kb,rfl⟩:∃ ba,kv=.pointer (some ⟨ba,0,none⟩):=by obtain ⟨ba,_,h,_⟩:=zi oT;exact ⟨ba,h⟩
    have hM1:M=1:=by rw [HMW.out,HL.out];decide
    have Fl:=lF.mono (rdK_le _ hk).1;have HM:jU (d+1) r=(qz d M r8).bind fun y=>(cut [41] y.2).map fun r'=>(cQ wd nm kk y.1,r'):=by rw [HR.out,rdTm_lam (by rw [HW.out,HL.out]) h4.out (by rw [HNM.out];exact HN.out) h5.out hk,hM1,HL.out,HNM.out]
    have HE:∀ ts:List Tm,ts.length=M->jM (cQ wd nm kk ts)=.ptr 106 [.val (str wd),.val (str nm),jT kk,.sl 54 1 ts.length (ts.map jM)]:=fun ts h=>by rw [HL.out];exact enc_lam nm kk ts (by rw [h,hM1])
    have Fa:=mj (mu JQ (mu FW (mu Gg (mu Gs (mu HE HM)))));clear JQ FW Gg Ae FX Gd rK FQ mo DK q5 oT hk hn8 hy8 HE HM Gs;have HM1:=mj hM1;clear hM1;have M20:M<=3:=by have:=HM1.out;omega
    go_wp2_with fail
    obtain ⟨wz,Df⟩:=zzM (w8.setCell ⟨ob,2,none⟩ (.pointer (some ⟨kb,0,none⟩)));rw [<- Df] at Fa ⊢;clear Df q2 q4 q6;obtain ⟨hsz,ah,Bj,Gs,HE,HM⟩:=Fa.out;obtain ⟨r0,Ep⟩:=zzM (r8);rw [<- Ep] at Fl hsz HM;clear Ep Fa B2 A9;obtain ⟨kv,JY⟩:=zzM (Value.pointer (some ⟨kb,0,none⟩));rw [<- JY] at ah Gs;clear JY;clear hmm;have Ec:sc<ob:=by omega
    have IM:ob<wz.heap.size:=zZ ah;have sC:x_ sc c e ob d M wd nm kv r0 wz 0 wz:=⟨[],r0,.slice none 0 0,[],rfl,by simp,my _,But.refl _ _,hsz,ah,OL _ _ _ _,fun g h=>by simp [Value.ownBlock] at h,zC.2 rfl⟩;have HZ:=mj (mu Bj (mu Gs (mu HE HM)));clear Bj hsz ah Gs HE HM
    go_loopw [84] (fun i wr=>∃ k:Nat,k<=M/\i=.int .i64 k/\x_ sc c e ob d M wd nm kv r0 wz k wr) (fun i _=>M-(intOf i).toNat)
    case atStart=>exact ⟨0,Og _,rfl,sC⟩
    case round =>
     clear sC;rename_i wr;obtain ⟨k,hk,rfl,ts,lk,slv,vs,rC,hp,rL,hb,BC,lg,nM,hZ,tF⟩:=hrel;have F1:=Fl.mono rL;have nw:But (· = sc) w wr:=HZ.out.1.trans' hb (fun i hi e=>by rcases e with e | e;exact e;omega);have HP:=mj (mu hp (mu hb (mu nM (mu hZ (mu tF (mu rC rL))))));clear hp hb nM hZ tF rC rL;have iR:=mj nw;clear nw;by_cases m_:k<M
     ·have LU:(k:Int)<(M:Int):=by omega
      have BM:M-k=(M-k-1)+1:=by omega
      have NN:=mj BM;clear BM;go_wp2_with fail
      rcases kD [32] lk with h4 | ⟨l4,h4⟩
      ·refine (ve BC h4).mono ?_;rintro en w4 ⟨rfl,nS,tK⟩;go_wp2_with fail
       go_ret;refine vy.no ?_ (iR.out.trans nS) tK;have hp:=HP.out.1;rw [NN.out] at hp;rw [HZ.out.2.2.2,eF hp h4.out];rfl
      refine (jh BC h4).mono ?_;rintro en w4 ⟨rfl,nS,tK⟩;have h4l:=h4.le;go_wp2_with fail
      refine (IH'.out l4 w4 tK (F1.mono h4l)).mono ?_;rintro en w5 ⟨vt,r5,rfl,nR,oQ,Aa,og⟩;have sy:=nS.trans nR;have z4:=nS.size;rcases ht:jU d l4 with _ | ⟨t,r5'⟩
      ·obtain rfl:=Aa ht;have HT:=mj ht;clear ht Aa og;go_wp2_with fail
       go_ret;refine vy.no ?_ (iR.out.trans sy) oQ;have hp:=HP.out.1;rw [NN.out] at hp;rw [HZ.out.2.2.2,eE hp h4.out HT.out];rfl
      obtain ⟨rfl,Ce⟩:=og _ _ ht;have HT:=mj ht;clear ht Aa og;obtain ⟨at5,rfl⟩:=qM Ce;have lD:uE ob wd nm kv slv w5:=(sy.block ob (zZ lg) (by omega)).trans lg;obtain ⟨_,_,_,q3,q4,q5⟩:=lD.cells;have q6:=q5 3;have lB:Own w5 54 1 slv k vs:=HP.out.2.2.1.keep fun g o sZ ho=>by rw [sy.block g (zZ ho) (by have:=HP.out.2.2.2.1 g sZ;omega)];exact ho
      have Gq:=mj (mu lB (mu Ce (mu sy oQ)));clear q5 lB Ce sy nS nR tK oQ BC;go_wp2_with (at_builtin;refine zE rfl _ _ 104 rfl 54 (.pointer none) 1 8 Sf Tryz.infoTm rfl (by decide) slv k vs rfl ?c1 _ 1 [.pointer (some ⟨at5,0,none⟩)] rfl ?c2 ?c3 ?c4 ?_)
      case c1=>exact Gq.out.1.keep fun g o sZ ho=>zU ho
      case c2=>exact zq.lit rfl
      case c3=>unfold maxLen;omega
      case c4=>omega
      intro a' c' w6 sh nJ sZ;have AL:uE ob wd nm kv slv w6:=by
       unfold uE;rw [nJ.block ob (by simp;omega) (fun e=>by have:=HP.out.2.2.2.1 ob e;omega)];exact zU lD
      have n_:=x_.next m_ HP.out.2.2.2.2.2.1 HP.out.1 HP.out.2.2.2.2.2.2 HP.out.2.1 lg HP.out.2.2.1 HP.out.2.2.2.1 HP.out.2.2.2.2.1 h4.out HT.out Gq.out.2.2.1 Gq.out.2.2.2 ((Rep.keep fun b o h ho=>⟨by have:=h;omega,ho⟩).1 _ _ Gq.out.2.1) sh nJ (fun g h=>(sZ g h).imp_right fun e=>e.trans (by simp)) Ec IM;obtain ⟨_,_,_,p3,p4,p5⟩:=AL.cells;have p6:=p5 3;clear sZ p5 nJ sh lD AL lg q3 q4 q6;go_wp2_with fail
      go_roundw
      case rel=>exact ⟨k+1,by omega,by go_num,n_⟩
      case measure=>simp [intOf];omega
     ·obtain rfl:k=M:=by omega
      go_wp2_with fail
      rcases kD [41] lk with h4 | ⟨l4,h4⟩
      ·refine (ve BC h4).mono ?_;rintro en w4 ⟨rfl,nS,tK⟩;go_wp2_with fail
       go_ret;refine vy.no ?_ (iR.out.trans nS) tK;have hp:=HP.out.1;rw [Rf,xB] at hp;rw [HZ.out.2.2.2,hp];simp [h4.out]
      refine (jh BC h4).mono ?_;rintro en w4 ⟨rfl,nS,tK⟩;go_wp2_with fail
      go_ret;have hp:=HP.out.1;rw [Rf,xB] at hp;have I8:But (fun i=>i=sc\/i=ob) wz w4:=HP.out.2.1.trans (nS.weak fun i _ e=>.inl e);have Bw:=HZ.out.1.size;have K_:=ul hs;refine vy.yes (t:=cQ wd nm kk ts) (r:=l4) ?_ (iR.out.trans nS) tK ?_
      ·rw [HZ.out.2.2.2,hp];simp [h4.out]
      ·rw [HZ.out.2.2.1 ts HP.out.2.2.2.2.2.1];have IO:uE ob wd nm kv slv w4:=(nS.block ob (zZ lg) (by omega)).trans lg;refine enc_mk FJ IO (Rep.but I8 (fun b hb=>⟨by rintro (e | e) <;> omega,hb.1⟩) HZ.out.2.1) ?_;rw [HP.out.2.2.2.2.2.1];have hz:=HP.out.2.2.2.1;refine (HP.out.2.2.1.keep (w':=w4) fun g o sZ ho=>?_).rep (fun g hg=>?_) ?_
       ·rw [nS.block g (zZ ho) (by have:=hz g sZ;omega)];exact ho
       ·have:=hz g hg;show w.heap.size<=g;omega
       ·exact zW.but nS (fun b hb=>⟨by have:=hb.1;omega,by have:=hb.1;show w.heap.size<=b;omega⟩) HP.out.2.2.2.2.1
 ·have hq:(wd == [108,97,109])=false:=by rw [beq_eq_false_iff_ne];exact aC
  have Bj:=A9.out.2.2;have hsz:=A9.out.1;have ah:=A9.out.2.1;obtain ⟨nm,Fo⟩:∃ x:Bs,x=[]:=⟨_,rfl⟩;rw [<- Fo] at ah
  have hHM:∀ kk:Ty,(M=2\/M=3)/\(jU (d+1) r=(qz d M (zD r1)).bind fun y=>(cut [41] y.2).map fun r'=>(cQ wd nm kk y.1,r')) /\
   (∀ ts:List Tm,ts.length=M->jM (cQ wd nm kk ts)=.ptr 106 [.val (str wd),.val (str nm),.val (.pointer none),.sl 54 1 ts.length (ts.map jM)]):=by
   intro kk;have hM:=HMW.out;unfold fd at hM;rw [if_neg aC] at hM;by_cases h2:wd=vi
   ·rw [if_pos h2] at hM;refine ⟨.inl hM,?_,fun ts h=>?_⟩
    ·rw [HR.out,rdTm_app nm kk (by rw [HW.out,h2]),hM,h2]
    ·rw [h2,Fo];exact enc_app kk ts (by rw [h,hM])
   rw [if_neg h2] at hM;by_cases h3:wd=ifW
   ·rw [if_pos h3] at hM;refine ⟨.inr hM,?_,fun ts h=>?_⟩
    ·rw [HR.out,rdTm_ite nm kk (by rw [HW.out,h3]),hM,h3]
    ·rw [h3,Fo];exact enc_ite kk ts (by rw [h,hM])
   rw [if_neg h3] at hM;exact absurd hM LS
  obtain ⟨kk,Ap⟩:∃ k:Ty,k=.mk []:=⟨_,rfl⟩;obtain ⟨hM23,HM,HE⟩:=hHM kk;have Fa:=mj (mu hsz (mu ah (mu Bj (mu HE HM))));have M20:M<=3:=by omega
  clear hHM hsz ah Bj HE HM hM23 Ap aC Fo;go_wp2_with fail
  clear BD q0 q4;obtain ⟨hsz,ah,Bj,HE,HM⟩:=Fa.out;obtain ⟨wz,Df⟩:=zzM (w3);rw [<- Df] at hsz ah Bj ⊢;clear Df Fa A9;obtain ⟨r0,Ep⟩:=zzM (zD r1);rw [<- Ep] at tL hsz HM;have Fl:=tL;clear Ep tL;obtain ⟨kv,JY⟩:=zzM (Value.pointer none);have Gs:Rep (fun b=>w.heap.size<=b/\b≠ob/\b≠sc) wz (.val (.pointer none)) kv:=zH.2 JY;rw [<- JY] at ah;clear JY;clear hmm;have Ec:sc<ob:=by omega
  have IM:ob<wz.heap.size:=zZ ah;have sC:x_ sc c e ob d M wd nm kv r0 wz 0 wz:=⟨[],r0,.slice none 0 0,[],rfl,by simp,my _,But.refl _ _,hsz,ah,OL _ _ _ _,fun g h=>by simp [Value.ownBlock] at h,zC.2 rfl⟩;have HZ:=mj (mu Bj (mu Gs (mu HE HM)));clear Bj hsz ah Gs HE HM
  go_loopw [84] (fun i wr=>∃ k:Nat,k<=M/\i=.int .i64 k/\x_ sc c e ob d M wd nm kv r0 wz k wr) (fun i _=>M-(intOf i).toNat)
  case atStart=>exact ⟨0,Og _,rfl,sC⟩
  case round =>
   clear sC;rename_i wr;obtain ⟨k,hk,rfl,ts,lk,slv,vs,rC,hp,rL,hb,BC,lg,nM,hZ,tF⟩:=hrel;have F1:=Fl.mono rL;have nw:But (· = sc) w wr:=HZ.out.1.trans' hb (fun i hi e=>by rcases e with e | e;exact e;omega);have HP:=mj (mu hp (mu hb (mu nM (mu hZ (mu tF (mu rC rL))))));clear hp hb nM hZ tF rC rL;have iR:=mj nw;clear nw;by_cases m_:k<M
   ·have LU:(k:Int)<(M:Int):=by omega
    have BM:M-k=(M-k-1)+1:=by omega
    have NN:=mj BM;clear BM;go_wp2_with fail
    rcases kD [32] lk with h4 | ⟨l4,h4⟩
    ·refine (ve BC h4).mono ?_;rintro en w4 ⟨rfl,nS,tK⟩;go_wp2_with fail
     go_ret;refine vy.no ?_ (iR.out.trans nS) tK;have hp:=HP.out.1;rw [NN.out] at hp;rw [HZ.out.2.2.2,eF hp h4.out];rfl
    refine (jh BC h4).mono ?_;rintro en w4 ⟨rfl,nS,tK⟩;have h4l:=h4.le;go_wp2_with fail
    refine (IH'.out l4 w4 tK (F1.mono h4l)).mono ?_;rintro en w5 ⟨vt,r5,rfl,nR,oQ,Aa,og⟩;have sy:=nS.trans nR;have z4:=nS.size;rcases ht:jU d l4 with _ | ⟨t,r5'⟩
    ·obtain rfl:=Aa ht;have HT:=mj ht;clear ht Aa og;go_wp2_with fail
     go_ret;refine vy.no ?_ (iR.out.trans sy) oQ;have hp:=HP.out.1;rw [NN.out] at hp;rw [HZ.out.2.2.2,eE hp h4.out HT.out];rfl
    obtain ⟨rfl,Ce⟩:=og _ _ ht;have HT:=mj ht;clear ht Aa og;obtain ⟨at5,rfl⟩:=qM Ce;have lD:uE ob wd nm kv slv w5:=(sy.block ob (zZ lg) (by omega)).trans lg;obtain ⟨_,_,_,q3,q4,q5⟩:=lD.cells;have q6:=q5 3;have lB:Own w5 54 1 slv k vs:=HP.out.2.2.1.keep fun g o sZ ho=>by rw [sy.block g (zZ ho) (by have:=HP.out.2.2.2.1 g sZ;omega)];exact ho
    have Gq:=mj (mu lB (mu Ce (mu sy oQ)));clear q5 lB Ce sy nS nR tK oQ BC;go_wp2_with (at_builtin;refine zE rfl _ _ 104 rfl 54 (.pointer none) 1 8 Sf Tryz.infoTm rfl (by decide) slv k vs rfl ?c1 _ 1 [.pointer (some ⟨at5,0,none⟩)] rfl ?c2 ?c3 ?c4 ?_)
    case c1=>exact Gq.out.1.keep fun g o sZ ho=>zU ho
    case c2=>exact zq.lit rfl
    case c3=>unfold maxLen;omega
    case c4=>omega
    intro a' c' w6 sh nJ sZ;have AL:uE ob wd nm kv slv w6:=by
     unfold uE;rw [nJ.block ob (by simp;omega) (fun e=>by have:=HP.out.2.2.2.1 ob e;omega)];exact zU lD
    have n_:=x_.next m_ HP.out.2.2.2.2.2.1 HP.out.1 HP.out.2.2.2.2.2.2 HP.out.2.1 lg HP.out.2.2.1 HP.out.2.2.2.1 HP.out.2.2.2.2.1 h4.out HT.out Gq.out.2.2.1 Gq.out.2.2.2 ((Rep.keep fun b o h ho=>⟨by have:=h;omega,ho⟩).1 _ _ Gq.out.2.1) sh nJ (fun g h=>(sZ g h).imp_right fun e=>e.trans (by simp)) Ec IM;obtain ⟨_,_,_,p3,p4,p5⟩:=AL.cells;have p6:=p5 3;clear sZ p5 nJ sh lD AL lg q3 q4 q6;go_wp2_with fail
    go_roundw
    case rel=>exact ⟨k+1,by omega,by go_num,n_⟩
    case measure=>simp [intOf];omega
   ·obtain rfl:k=M:=by omega
    go_wp2_with fail
    rcases kD [41] lk with h4 | ⟨l4,h4⟩
    ·refine (ve BC h4).mono ?_;rintro en w4 ⟨rfl,nS,tK⟩;go_wp2_with fail
     go_ret;refine vy.no ?_ (iR.out.trans nS) tK;have hp:=HP.out.1;rw [Rf,xB] at hp;rw [HZ.out.2.2.2,hp];simp [h4.out]
    refine (jh BC h4).mono ?_;rintro en w4 ⟨rfl,nS,tK⟩;go_wp2_with fail
    go_ret;have hp:=HP.out.1;rw [Rf,xB] at hp;have I8:But (fun i=>i=sc\/i=ob) wz w4:=HP.out.2.1.trans (nS.weak fun i _ e=>.inl e);have Bw:=HZ.out.1.size;have K_:=ul hs;refine vy.yes (t:=cQ wd nm kk ts) (r:=l4) ?_ (iR.out.trans nS) tK ?_
    ·rw [HZ.out.2.2.2,hp];simp [h4.out]
    ·rw [HZ.out.2.2.1 ts HP.out.2.2.2.2.2.1];have IO:uE ob wd nm kv slv w4:=(nS.block ob (zZ lg) (by omega)).trans lg;refine enc_mk FJ IO (Rep.but I8 (fun b hb=>⟨by rintro (e | e) <;> omega,hb.1⟩) HZ.out.2.1) ?_;rw [HP.out.2.2.2.2.2.1];have hz:=HP.out.2.2.2.1;refine (HP.out.2.2.1.keep (w':=w4) fun g o sZ ho=>?_).rep (fun g hg=>?_) ?_
     ·rw [nS.block g (zZ ho) (by have:=hz g sZ;omega)];exact ho
     ·have:=hz g hg;show w.heap.size<=g;omega
     ·exact zW.but nS (fun b hb=>⟨by have:=hb.1;omega,by have:=hb.1;show w.heap.size<=b;omega⟩) HP.out.2.2.2.2.1
theorem term_step (sc:Nat) (c:List Value) (e:TypeId) (d:Nat) (hd:d<=1000) (ih:∀ d',d=d'+1->dF sc c e d'):dF sc c e d:=by
 intro r w hs hr;rcases kD [40] r with h1 | ⟨r1,h1⟩
 ·exact term_word sc c e d hd r w hs hr h1
 ·exact term_open sc c e d hd ih r r1 w hs hr h1
theorem term_any (sc:Nat) (c:List Value) (e:TypeId):∀ (d:Nat),d<=1000->dF sc c e d
 | 0,h=>term_step sc c e 0 h (fun d' e=>by omega)
 | d+1,h=>term_step sc c e (d+1) h (fun d' e=>by obtain rfl:d=d':=by omega
                                                 exact term_any _ _ _ d (by omega))
def xS:Tm->Bs
 | .nm _=>[]
 | .wd w=>w
 | .lam _ _ _=>j_
 | .app _ _=>vi
 | .ite _ _ _=>ifW
def xT:Tm->Bs
 | .nm x=>x
 | .lam x _ _=>x
 | _=>[]
def yD:Tm->Option Ty
 | .lam _ k _=>some k
 | _=>none
def zo:Tm->List Tm
 | .nm _=>[]
 | .wd _=>[]
 | .lam _ _ t=>[t]
 | .app m n=>[m,n]
 | .ite l m n=>[l,m,n]
def yG (ts:List Tm):Nat:=(ts.map zT).sum
def kindN:Option Ty->Nat
 | some k=>1+zJ k
 | none=>0
theorem sizeTm_mk (t:Tm):zT t=1+kindN (yD t)+yG (zo t):=by
 cases t <;> simp [zT,yD,zo,kindN,yG] <;> omega
theorem fB {ts:List Tm} {k:Nat} {t:Tm} (h:ts[k]? = some t):yG (ts.take (k+1))=yG (ts.take k)+zT t:=by
 unfold yG;rw [List.take_add_one,h];simp
theorem bE (ts:List Tm) (k:Nat):yG (ts.take k)<=yG ts:=by
 unfold yG
 conv=>rhs;rw [<- List.take_append_drop k ts,RB,List.sum_append]
 omega
theorem sumTm_mem {ts:List Tm} {t:Tm} (h:t∈ts):zT t<=yG ts:=by
 induction ts with
 | nil=>simp at h
 | cons x xs ih =>
   unfold yG at *;simp only [Ol,List.sum_cons];rcases Om.1 h with rfl | h
   ·omega
   ·have:=ih h;omega
theorem tmParts_len (t:Tm):(zo t).length<=3:=by cases t <;> simp [zo]
theorem jf {F:Nat->Prop} {w:World} {t:Tm} {v:Value} (h:Rep F w (jM t) v) :
 ∃ b kv slv,v=.pointer (some ⟨b,0,none⟩)/\F b/\w.heap[b]? = some (.cells #[str (xS t),str (xT t),kv,slv] 106 (0,0))/\(yD t=none->kv=.pointer none)/\(∀ k,yD t=some k->Rep F w (jT k) kv) /\
   Rep F w (.sl 54 1 (zo t).length ((zo t).map jM)) slv:=by
 have key:∀ (wd nm:Bs) (kd:DV) (n:Nat) (ds:List DV),Rep F w (.ptr 106 [.val (str wd),.val (str nm),kd,.sl 54 1 n ds]) v ->
  ∃ b kv slv,v=.pointer (some ⟨b,0,none⟩)/\F b/\w.heap[b]? = some (.cells #[str wd,str nm,kv,slv] 106 (0,0))/\Rep F w kd kv/\Rep F w (.sl 54 1 n ds) slv:=by
  intro wd nm kd n ds h;rw [jv] at h;obtain ⟨b,c,rfl,hb,hc,hr⟩:=h;simp only [zQ,zC,zH] at hr;obtain ⟨_,_,e1,rfl,_,_,rfl,rfl,kv,_,rfl,h1,slv,_,rfl,h2,rfl⟩:=hr;have:c=#[str wd,str nm,kv,slv]:=by apply Array.ext';simpa using e1
  subst this;exact ⟨b,kv,slv,rfl,hb,hc,h1,h2⟩
 cases t with
 | nm x =>
   obtain ⟨b,kv,slv,h1,h2,h3,h4,h5⟩:=key _ _ _ _ _ h;exact ⟨b,kv,slv,h1,h2,h3,fun _=>zH.1 h4,fun k e=>by simp [yD] at e,h5⟩
 | wd x =>
   obtain ⟨b,kv,slv,h1,h2,h3,h4,h5⟩:=key _ _ _ _ _ h;exact ⟨b,kv,slv,h1,h2,h3,fun _=>zH.1 h4,fun k e=>by simp [yD] at e,h5⟩
 | lam x k t =>
   obtain ⟨b,kv,slv,h1,h2,h3,h4,h5⟩:=key _ _ _ _ _ h;exact ⟨b,kv,slv,h1,h2,h3,fun e=>by simp [yD] at e,fun k e=>by simp [yD] at e;subst e;exact h4,h5⟩
 | app m n =>
   obtain ⟨b,kv,slv,h1,h2,h3,h4,h5⟩:=key _ _ _ _ _ h;exact ⟨b,kv,slv,h1,h2,h3,fun _=>zH.1 h4,fun k e=>by simp [yD] at e,h5⟩
 | ite l m n =>
   obtain ⟨b,kv,slv,h1,h2,h3,h4,h5⟩:=key _ _ _ _ _ h;exact ⟨b,kv,slv,h1,h2,h3,fun _=>zH.1 h4,fun k e=>by simp [yD] at e,h5⟩
def TmAtoms (F:Nat->Prop) (w:World) (t:Tm):Prop:=∀ v,Rep F w (jM t) v ->
 Calls KD 50 #[v] w fun en w'=>en=.returned (.int .i64 (zT t))/\w'=w
theorem tmAtoms_step (F:Nat->Prop) (w:World) (t:Tm) (hl:Lim (zT t)) (ih:∀ t',zT t'<zT t->TmAtoms F w t'):TmAtoms F w t:=by
 intro v hv;obtain ⟨b,kv,slv,rfl,hb,hc,oU,Fq,hs⟩:=jf hv;have c1:w.cell? ⟨b,2,none⟩=some kv:=by simp [GD,hc]
 have c2:w.cell? ⟨b,3,none⟩=some slv:=by simp [GD,hc]
 obtain ⟨a,cap,rfl,hn,hlen,ml⟩:=zP hs;have e1:=sizeTm_mk t;have IH:=mj ih;clear ih hc hv hs;have E1:=mj e1;clear e1;have iU:=hl.le;have hp3:=tmParts_len t;have HL:=mj hlen;clear hlen;have AT:=mj ml;clear ml;have base:Calls KD 50 #[.pointer (some ⟨b,0,none⟩)] w fun en w'=>en=.returned (.int .i64 (1+kindN (yD t)+yG (zo t):Nat))/\w'=w:=by
  have Cw:1+kindN (yD t)+yG (zo t)<=16777216:=by have:=E1.out;omega
  cases hk:yD t with
  | none =>
    obtain rfl:=oU hk;rw [hk] at Cw;clear hk oU Fq;simp only [kindN] at Cw ⊢;go_enter TG,S0;go_wp2_with fail
    go_loop [3,24] (fun n i=>∃ k:Nat,k<=(zo t).length/\i=.int .i64 k/\n=.int .i64 ((1+yG ((zo t).take k):Nat):Int)) (fun _ i=>(zo t).length-(intOf i).toNat)
    case atStart=>exact ⟨0,Og _,rfl,by simp [yG]⟩
    case round =>
     obtain ⟨k,hk,rfl,rfl⟩:=hrel;by_cases m_:k<(zo t).length
     ·obtain ⟨b',o,u,d,rfl,_,nW,hd,hu,hr⟩:=AT.out k m_;rw [OY,N3] at hd;obtain ⟨t',tE,rfl⟩:=hd;have hs:=fB tE;have rL:=bE (zo t) (k+1);have aS:=E1.out;have rj:=sumTm_mem (Oc tE);have IH':=mj (IH.out t' (by omega));have HS:=mj hs;have b1:1+yG ((zo t).take k)+zT t'<=16777216:=by omega
      clear hs tE aS rL rj;obtain ⟨bu,eu⟩:=qM hr;subst eu;go_wp2_with fail
      refine (IH'.out _ hr).mono ?_;rintro en w' ⟨rfl,ew⟩;subst ew;go_wp2_with fail
      go_round
      case rel=>exact ⟨k+1,by omega,by go_num,by rw [HS.out];go_num⟩
      case measure=>simp [intOf];omega
     ·go_wp2_with fail
      go_ret;have:k=(zo t).length:=by omega
      subst this;exact ⟨un (by rw [Oh]),rfl⟩
  | some kk =>
    have oT:=Fq kk hk;rw [hk] at Cw;clear hk oU Fq;simp only [kindN] at Cw ⊢;obtain ⟨kb,ek⟩:∃ ba,kv=.pointer (some ⟨ba,0,none⟩):=by obtain ⟨ba,_,h,_⟩:=zi oT;exact ⟨ba,h⟩
    subst ek;have CK:=mj (uG F w (zJ kk) kk (my _) (show _<=_ by omega) _ oT);clear oT;go_enter TG,S0;go_wp2_with fail
    refine CK.out.mono ?_;rintro en w' ⟨rfl,ew⟩;subst w';go_wp2_with fail
    go_loop [3,24] (fun n i=>∃ k:Nat,k<=(zo t).length/\i=.int .i64 k/\n=.int .i64 ((1+(1+zJ kk)+yG ((zo t).take k):Nat):Int)) (fun _ i=>(zo t).length-(intOf i).toNat)
    case atStart=>exact ⟨0,Og _,rfl,by simp [yG]⟩
    case round =>
     obtain ⟨k,hk,rfl,rfl⟩:=hrel;by_cases m_:k<(zo t).length
     ·obtain ⟨b',o,u,d,rfl,_,nW,hd,hu,hr⟩:=AT.out k m_;rw [OY,N3] at hd;obtain ⟨t',tE,rfl⟩:=hd;have hs:=fB tE;have rL:=bE (zo t) (k+1);have aS:=E1.out;have rj:=sumTm_mem (Oc tE);have IH':=mj (IH.out t' (by omega));have HS:=mj hs;have b1:1+(1+zJ kk)+yG ((zo t).take k)+zT t'<=16777216:=by omega
      clear hs tE aS rL rj;obtain ⟨bu,eu⟩:=qM hr;subst eu;go_wp2_with fail
      refine (IH'.out _ hr).mono ?_;rintro en w' ⟨rfl,ew⟩;subst ew;go_wp2_with fail
      go_round
      case rel=>exact ⟨k+1,by omega,by go_num,by rw [HS.out];go_num⟩
      case measure=>simp [intOf];omega
     ·go_wp2_with fail
      go_ret;have:k=(zo t).length:=by omega
      subst this;exact ⟨un (by rw [Oh]),rfl⟩
 rw [E1.out];exact base
theorem tmAtoms_any (F:Nat->Prop) (w:World) (n:Nat):∀ t,zT t<=n->Lim n->TmAtoms F w t:=by
 induction n with
 | zero=>intro t h _;have:=sizeTm_mk t;omega
 | succ n ih=>exact fun t h hn=>tmAtoms_step F w t (hn.mono h) (fun t' h'=>ih t' (by omega) (hn.mono (by omega)))
theorem textT_atoms (k:Ty):zJ k<=(zN k).length:=by
 have h1:=p9 (zJ k) k [] (by omega);have h2:=dx _ h1;simpa using h2
theorem uj:∀ t:Tm,xY t->zT t<=(kJ t).length
 | .nm x,h=>by
   rw [show kJ (.nm x)=x from by unfold kJ;rw [kx,zu],zT];exact Pv.2 (y9 h).1
 | .wd x,h=>by
   rw [show kJ (.wd x)=x from by unfold kJ;rw [kx,zu],zT];exact Pv.2 (wL h).1
 | .lam x k t,h=>by
   have h1:=uj t h.2;have h2:=textT_atoms k;rw [yF,zT];simp;omega
 | .app m n,h=>by
   have h1:=uj m h.1;have h2:=uj n h.2;rw [yN,zT];simp;omega
 | .ite l m n,h=>by
   have h0:=uj l h.1;have h1:=uj m h.2.1;have h2:=uj n h.2.2;rw [yM,zT];simp;omega
def RTPost (w:World) (o:Option Tm) (en:Ending) (w':World):Prop :=
 ∃ v,en=.returned v/\Below w.heap.size w w'/\(o=none->v=.pointer none)/\(∀ t,o=some t->Rep (w.heap.size<=·) w' (jM t) v)
theorem cA (l:Bs) (w:World) (hl:Lim l.length) :
 Calls KD 17 #[str l] w (RTPost w (qr l)):=by
 have iU:=hl.le;go_enter Tryz.func17,Tryz.ntmps17;go_wp2_with fail
 have aT:qT w.heap.size [] 100 l (w.alloc (.cells #[str l] 100)):=zG _ _;refine (term_any _ _ _ 60 (by omega) l _ aT hl).mono ?_;rintro en w1 ⟨v,r1,rfl,mi,rz,nh,nf⟩;have hb:Below w.heap.size w w1:=((mw w.heap.size w).alloc (my _) _).trans (mi.toBelow (by simp) (fun i hi e=>by omega));rcases ha:jU 60 l with _ | ⟨t,r1'⟩
 ·obtain rfl:=nh ha;have Ha:=mj ha;clear ha nh nf;go_wp2_with fail
  go_ret;exact ⟨_,rfl,hb,fun _=>rfl,fun t h=>by simp [qr,Ha.out] at h⟩
 obtain ⟨rfl,lG⟩:=nf _ _ ha;obtain ⟨ba,rfl⟩:=qM lG;obtain ⟨etx,nC,_⟩:=b_ _ _ _ _ ha;have hsz:=uj t nC;have hlen:=congrArg Pj etx;rw [NZ] at hlen;have aG:zT t<=l.length:=by omega
 have Ha:=mj ha;clear ha nh nf etx nC hsz hlen;have tU:=rz.cell;have hz:w.heap.size<w1.heap.size:=ul rz;cases r1 with
 | cons x xs =>
   have hne:(!(x::xs).isEmpty)=true:=rfl;go_wp2_with fail
   go_ret;exact ⟨_,rfl,hb,fun _=>rfl,fun t h=>by simp [qr,Ha.out] at h⟩
 | nil =>
   go_wp2_with fail
   refine (tmAtoms_any _ w1 (zT t) t (my _) (hl.mono aG) _ lG).mono ?_;rintro en w2 ⟨rfl,e2⟩;subst e2;by_cases Bp:zT t<=60
   ·go_wp2_with fail
    go_ret;have HM:qr l=some t:=by simp [qr,Ha.out,Bp]
    exact ⟨_,rfl,hb,fun h=>by simp [HM] at h,fun t' h=>by rw [HM] at h;simp at h;subst h;exact (Rep.keep fun b o h ho=>⟨by have:=h;simp at this;omega,ho⟩).1 _ _ lG⟩
   ·go_wp2_with fail
    go_ret;have HM:qr l=none:=by simp [qr,Ha.out,Bp]
    exact ⟨_,rfl,hb,fun _=>rfl,fun t' h=>by rw [HM] at h;simp at h⟩

end Go.Proofs.YtpgiohmcggllgaaGreatDoor

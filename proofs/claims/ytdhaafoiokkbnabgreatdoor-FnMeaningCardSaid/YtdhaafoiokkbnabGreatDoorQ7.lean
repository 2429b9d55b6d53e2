/- Walks. -/
import Derived.LaidEql
import Derived.Stop.Asserts
import Derived.RowKitTokens
import Derived.Test.YtdhaafoiokkbnabGreatDoorQ5
set_option linter.unusedVariables false
set_option linter.unusedSimpArgs false
set_option maxHeartbeats 8000000
set_option maxRecDepth 100000
open Go.Proofs.YtdhaafoiokkbnabGreatDoor renaming ev->Qq
open Go.Extern.ReflectliteType renaming method->QP,typeOf->QO
open Go.Proofs.Tryz renaming func119->TE,func135->TF,ntmps119->Th,ntmps135->Ti,prog->No,underlying118->SG,underlying162->PO
open Go.Value renaming oneCell'->OR,ownBlock->OG,slice->Ox
open Go.World renaming cell?->Li,frozen?->OC,ownsRow_nil->Pq,setCell->Qi
open List renaming cons_append->ON,getElem?_append_left->OJ,getElem?_append_right->OF,getElem?_cons_succ->OE,getElem?_drop->PJ,getElem?_eq_some_iff->OB,getElem?_take->PI,length_append->Ov,length_cons->OD,length_take->Pw,mem_cons->OX,not_mem_nil->PR,take_add_one->Pc,take_append_drop->Pj,take_length->OT
open Nat renaming add_sub_cancel_left->PA,min_eq_left->Sd,zero_le->OS
open Option renaming bind_eq_bind->Ow,bind_eq_some_iff->N0,bind_some->Lx,map_eq_some_iff->OA
namespace Go.Proofs.YtdhaafoiokkbnabGreatDoor
open Go.RowKit
def fU (a b:Bs):Bs:=[40,62,32]++a++[32]++b++[41]
theorem arrowText_eq (x y:Ty):fU (zL x) (zL y)=zL (z9 x y):=by
 cases y with
 | mk ys=>unfold fU z9;rw [um];simp [Ty.args]
def composeEnv (x y:Ty) (f:Bd) (zs:List Ty):List Mn:=.bd y f [.op 0 x]::opens 1 zs
mutual
def eta:Ty->Nat->Nat->Bd
 | .mk ts,v,n=>.ask v (jM ts n (n+ts.length)) (.leaf 116) (.leaf 102)
def jM:List Ty->Nat->Nat->List Bd
 | [],_,_=>[]
 | t::ts,v,n=>eta t v n::jM ts (v+1) n
end
theorem ei (t:Ty) (v n:Nat):eta t v n=.ask v (jM t.args n (n+t.args.length)) (.leaf 116) (.leaf 102):=by cases t;rw [eta];rfl
theorem yJ:∀ (ts:List Ty) (v n:Nat),(jM ts v n).length=ts.length
 | [],_,_=>by simp [jM]
 | t::ts,v,n=>by rw [jM,OD,yJ ts,OD]
theorem mZ:∀ (ts:List Ty) (v n k:Nat) (t:Ty),ts[k]? = some t->(jM ts v n)[k]? = some (eta t (v+k) n)
 | [],v,n,k,t,h=>by simp at h
 | a::ts,v,n,k,t,h=>by
   rw [jM];cases k with
   | zero=>simp at h;subst h;simp
   | succ k=>simp only [OE] at *;rw [mZ ts (v+1) n k t h,show v+1+k=v+(k+1) from by omega]
mutual
theorem eta_fit:∀ (t:Ty) (v n:Nat) (hand:List Ty),hand.length=n->hand[v]? = some t->qj (hand++t.args) (eta t v n)
 | .mk ts,v,n,hand,hn,hv=>by
   rw [eta,qj];have rH:=(OB.1 hv).1;refine ⟨.mk ts,by rw [OJ rH];exact hv,?_,by simp [qj],by simp [qj]⟩;refine nD ts n (n+ts.length) (hand++ts) (by simp [hn]) fun j t hj=>?_;subst hn;rw [OF (by omega),PA];exact hj
theorem nD:∀ (ts:List Ty) (v n:Nat) (hand:List Ty),hand.length=n->(∀ j t,ts[j]? = some t->hand[v+j]? = some t)->qU (kD hand ts) (jM ts v n)
 | [],v,n,hand,_,_=>by rw [jM,qU];rfl
 | t::ts,v,n,hand,hn,hv=>by
   rw [jM,qU];refine ⟨hand++t.args,kD hand ts,rfl,eta_fit t v n hand hn (by simpa using hv 0 t rfl),nD ts (v+1) n hand hn fun j t' hj=>?_⟩;rw [show v+1+j=v+(j+1) from by omega];exact hv (j+1) t' (by simpa using hj)
end
mutual
theorem eta_wf:∀ (t:Ty) (v n:Nat),wfB (eta t v n)
 | .mk ts,v,n=>by rw [eta,wfB];exact ⟨etas_wf ts n _,.inl rfl,.inr (.inl rfl)⟩
theorem etas_wf:∀ (ts:List Ty) (v n:Nat),vl (jM ts v n)
 | [],v,n=>by rw [jM];trivial
 | t::ts,v,n=>by rw [jM,vl];exact ⟨eta_wf t v n,etas_wf ts (v+1) n⟩
end
mutual
theorem du:∀ (t:Ty) (v n:Nat),zU (eta t v n)<=3*zJ t/\kr (eta t v n)<=zJ t
 | .mk ts,v,n=>by
   have:=ef ts n (n+ts.length);rw [eta,zU,kr,zJ];simp only [zU,kr] at *;omega
theorem ef:∀ (ts:List Ty) (v n:Nat),zE (jM ts v n)<=3*zt ts/\qK (jM ts v n)<=zt ts
 | [],v,n=>by simp [jM,zE,qK]
 | t::ts,v,n=>by
   have h1:=du t v n;have h2:=ef ts (v+1) n;rw [jM,zE,qK,zt];omega
end
def y5:Bd->Nat
 | .leaf c=>if c=117 then 1 else 2
 | .ask _ ss y n=>4+costs ss+y5 y+y5 n
where costs:List Bd->Nat
 | []=>0
 | s::ss=>1+y5 s+costs ss
mutual
theorem mJ:∀ b:Bd,y5 b+1<=5*zU b
 | .leaf c=>by rw [y5,zU];split <;> omega
 | .ask v ss y n=>by
   have h1:=de ss;have h2:=mJ y;have h3:=mJ n;rw [y5,zU];omega
theorem de:∀ ss:List Bd,y5.costs ss<=5*zE ss
 | []=>by rw [y5.costs];omega
 | s::ss=>by
   have h1:=mJ s;have h2:=de ss;rw [y5.costs,zE];omega
end
theorem ev_bd {d l v n:Nat} {ss:List Bd} {y no b':Bd} {t:Ty} {env e:List Mn} {st:List Gf} (h:env[v]? = some (.bd t b' e)) :
 ev (d+1) (l+1) (.ask v ss y no) env n st=ev d l b' (e++owns env t.args ss) n (⟨y,no,env⟩::st):=by rw [ev.eq_def];simp only [h]
theorem ev_op {d l v n o:Nat} {ss:List Bd} {y no:Bd} {t:Ty} {env:List Mn} {st:List Gf} (h:env[v]? = some (.op o t)) :
 ev (d+1) (l+1) (.ask v ss y no) env n st=(kV (ev d) env n l t.args ss).bind fun x=>(ev d x.2 y env n st).bind fun z=>(ev d z.2 no env n st).bind fun u=>some (.ask o x.1 z.1 u.1,u.2):=by rw [ev.eq_def];simp only [h];rfl
theorem ev_u {d l n:Nat} {env:List Mn} {st:List Gf}:ev (d+1) (l+1) (.leaf 117) env n st=some (.leaf 117,l):=by rw [ev.eq_def];simp
theorem cp {d l n:Nat} {c:UInt8} {env:List Mn}:ev (d+1) (l+1) (.leaf c) env n []=some (.leaf c,l):=by rw [ev.eq_def];simp
theorem bw {d l n:Nat} {c:UInt8} (h:c≠117) {env:List Mn} {f:Gf} {st:List Gf}:ev (d+1) (l+1) (.leaf c) env n (f::st)=ev d l (if c=116 then f.yes else f.no) f.env n st:=by rw [ev.eq_def];simp only [if_neg h]
theorem bD {env:List Mn}:∀ (ts:List Ty) (ss:List Bd) (k:Nat) (t:Ty) (s:Bd),ts[k]? = some t->ss[k]? = some s->(owns env ts ss)[k]? = some (.bd t s env)
 | [],ss,k,t,s,h,_=>by simp at h
 | t'::ts,[],k,t,s,_,h=>by simp at h
 | t'::ts,s'::ss,k,t,s,h1,h2=>by
   rw [owns];cases k with
   | zero=>simp at h1 h2;subst h1;subst h2;rfl
   | succ k=>simp only [OE] at *;exact bD ts ss k t s h1 h2
theorem xP {env:List Mn}:∀ (ts:List Ty) (ss:List Bd),ts.length=ss.length->(owns env ts ss).length=ts.length
 | [],[],_=>by rw [owns]
               ·rfl
               ·intros;contradiction
 | [],s::ss,h=>by simp at h
 | t::ts,[],h=>by simp at h
 | t::ts,s::ss,h=>by rw [owns];simp [xP ts ss (by simpa using h)]
theorem yP:∀ (ts:List Ty) (n k:Nat) (t:Ty),ts[k]? = some t->(opens n ts)[k]? = some (.op (n+k) t)
 | [],n,k,t,h=>by simp at h
 | a::ts,n,k,t,h=>by
   rw [opens];cases k with
   | zero=>simp at h;subst h;rfl
   | succ k=>simp only [OE] at *;rw [yP ts (n+1) k t h,show n+1+k=n+(k+1) from by omega]
theorem z_:∀ (ts:List Ty) (n:Nat),(opens n ts).length=ts.length
 | [],n=>by rw [opens];rfl
 | t::ts,n=>by rw [opens];simp [z_ ts]
structure Copies (env:List Mn) (hand:List Ty):Prop where
 len:env.length=hand.length
 each:∀ i t,hand[i]? = some t->∃ (v:Nat) (e:List Mn),env[i]? = some (Mn.bd t (eta t v e.length) e)/\e[v]? = some (Mn.op i t)
theorem Copies.more {env:List Mn} {hand:List Ty} (h:Copies env hand) (e2:List Mn) (ts:List Ty) :
 Copies (env++owns (e2++opens hand.length ts) ts (jM ts e2.length (e2.length+ts.length))) (hand++ts):=by
 have hl:=h.len;refine ⟨?_,fun i t hi=>?_⟩
 ·rw [Ov,Ov,xP _ _ (yJ _ _ _).symm,hl]
 ·rcases Nat.lt_or_ge i hand.length with rH | lR
  ·rw [OJ rH] at hi;obtain ⟨v,e,h1,h2⟩:=h.each i t hi;exact ⟨v,e,by rw [OJ (by omega)];exact h1,h2⟩
  ·rw [OF lR] at hi;have h1:=mZ ts e2.length (e2.length+ts.length) _ t hi;have h2:=bD (env:=e2++opens hand.length ts) ts _ _ t _ hi h1;have h3:=yP ts hand.length _ t hi;refine ⟨e2.length+(i-hand.length),e2++opens hand.length ts,?_,?_⟩
   ·rw [OF (by omega),hl,h2,Ov,z_]
   ·rw [OF (by omega),PA,h3,show hand.length+(i-hand.length)=i from by omega]
mutual
def dh:Mn->List DV
 | .op o t=>[.val (.int .i64 (o:Nat)),jA t,.val (.pointer none),.val (.slice none 0 0)]
 | .bd _ b e=>[.val (.int .i64 0),.val (.pointer none),k_ b,.sl 165 4 e.length (jZ e)]
def jZ:List Mn->List DV
 | []=>[]
 | m::ms=>dh m++jZ ms
end
theorem wP (m:Mn):(dh m).length=4:=by cases m <;> simp [dh]
theorem dg:∀ ms:List Mn,(jZ ms).length=ms.length*4
 | []=>by simp [jZ]
 | m::ms=>by rw [jZ,Ov,wP,dg ms];simp;omega
theorem uE:∀ (xs ys:List Mn),jZ (xs++ys)=jZ xs++jZ ys
 | [],ys=>by simp [jZ]
 | x::xs,ys=>by simp [jZ,uE xs ys]
theorem encMs_one (m:Mn):jZ [m]=dh m:=by simp [jZ]
theorem zu.lit1 {w:World} {e:TypeId} {sz:Nat} (cs:Array Value) (hn:cs.size=sz) (hc:∀ u∈cs.toList,u.oneCell'=true) (g:Nat) (hg:g=w.heap.size):zu sz (.slice (some ⟨g,0,none⟩) 1 1) 1 cs.toList (w.alloc (.cells cs e)):=by
 subst hg;refine ⟨by simp [hn],hc,.inl ⟨_,_,rfl,fun j u hu=>?_⟩⟩;unfold Addr.add;split
 ·subst j;simp;simpa using hu
 ·simp;simpa using hu
theorem Tryz.infoMn:(No.info? 165).map (fun i=>(i.zero,i.size,i.bytes))=some (some (.agg #[.int .i64 0,.pointer none,.pointer none,.slice none 0 0]),4,48):=by kernel_rfl
def FreshV (w:World) (e:TypeId) (sz n:Nat) (P:World->List Value->Prop) (en:Ending) (w':World):Prop :=
 ∃ a c xs,en=.returned (.slice a n c)/\Own w' e sz (.slice a n c) n xs/\P w' xs/\Below w.heap.size w w'/\∀ g,(Ox a n c).ownBlock=some g->w.heap.size<=g
theorem mh:∀ (ts:List Ty) (n:Nat) (t:Ty),opens n (ts++[t])=opens n ts++[.op (n+ts.length) t]
 | [],n,t=>by simp [opens]
 | a::ts,n,t=>by rw [ON,opens,opens,mh ts (n+1) t,ON,OD,show n+1+ts.length=n+(ts.length+1) from by omega]
theorem cR {ts:List Ty} {n k:Nat} {t:Ty} (h:ts[k]? = some t):opens n (ts.take (k+1))=opens n (ts.take k)++[.op (n+k) t]:=by
 have hk:=(OB.1 h).1;rw [Pc,h];simp only [Option.toList_some];rw [mh,Pw,Sd (by omega)]
theorem e_ {F:Nat->Prop} {w:World} {t:Ty} {v:Value} (h:Rep F w (jA t) v):∃ b,v=.pointer (some ⟨b,0,none⟩):=by
 cases t with
 | mk ts=>rw [jA,jw] at h;obtain ⟨b,c,h,_⟩:=h;exact ⟨b,h⟩
theorem eN (F:Nat->Prop) (n:Nat) (ts:List Ty) (kv:Value) (w:World) (h:Rep F w (.sl 32 1 ts.length (qH ts)) kv) (hl:ts.length<=1000) (hn:n<=1000000) :
 Calls No 100 #[.int .i64 (n:Nat),kv] w (FreshV w 165 4 ts.length fun w' xs=>zW F w' (jZ (opens n ts)) xs):=by
 obtain ⟨ka,kc,e,_,_,rX⟩:=zP h;subst e;have H:=n7 rX;clear rX h;go_enter Tryz.func100,Tryz.ntmps100;go_wp2_with fail
 go_loopw [5,10] (fun o i wr=>∃ k:Nat,k<=ts.length/\i=.int .i64 k/\∃ a c xs,o=.slice a k c/\Own wr 165 4 (.slice a k c) k xs/\zW (fun i=>F i/\i<w.heap.size) wr (jZ (opens n (ts.take k))) xs/\Below w.heap.size w wr/\(∀ g,(Ox a k c).ownBlock=some g->w.heap.size<=g)) (fun _ i _=>ts.length-(intOf i).toNat)
 case atStart=>exact ⟨0,OS _,rfl,none,0,[],rfl,Pq _ _ _ _,by simp [opens,jZ,zC],rZ _ _,fun g h=>by simp [OG] at h⟩
 case round =>
  obtain ⟨k,hk,rfl,a,c,xs,rfl,ho,hr,hb,hf⟩:=hrel;have HO:=n7 ho;have HF:=n7 hf;have HB:=n7 hb;have HR:=n7 hr;clear ho hf hb hr;by_cases rH:k<ts.length
  ·have sS:(k:Int)<(ts.length:Int):=by omega
   obtain ⟨b,o,u,d,e,_,sJ,hd,hc,tq⟩:=H.out k rH;subst e;rw [uv,OA] at hd;obtain ⟨t,ht,rfl⟩:=hd;obtain ⟨ub,rfl⟩:=e_ tq;have q0:=(HB.out.cell (p:=⟨b,o+k,none⟩) sJ).trans hc;have HT:=n7 (n8 ht tq);clear ht tq hc;have LE:IntKind.i64.wrap ((n:Int)+(k:Int))=(n:Int)+(k:Int):=IntWalk.i64_in _ (by omega);clear LE;go_wp2_with (at_builtin;refine zM rfl _ _ 162 rfl 165 (.agg #[.int .i64 0,.pointer none,.pointer none,.slice none 0 0]) 4 48 PO Tryz.infoMn rfl (by decide) (.slice a k c) k xs rfl ?c1 _ 1 [.int .i64 ((n:Int)+(k:Int)),.pointer (some ⟨ub,0,none⟩),.pointer none,.slice none 0 0] rfl ?c2 ?c3 ?c4 ?_)
   case c1=>exact HO.out.alloc _
   case c2=>exact zu.lit1 #[.int .i64 ((n:Int)+(k:Int)),.pointer (some ⟨ub,0,none⟩),.pointer none,.slice none 0 0] rfl (by simp [OR]) _ (by simp)
   case c3=>unfold maxLen;omega
   case c4=>omega
   intro a' c' w7 r_ rP rL;have aC:Below w.heap.size w w7:=by
    have h1:=HB.out;refine (h1.alloc h1.size _).trans (rP.toBelow (by rw [zK];have:=h1.size;omega) fun i hi e=>?_);have:=HF.out i e;omega
   have Au:∀ g,(Ox a' (k+1) c').ownBlock=some g->w.heap.size<=g:=by
    intro g h;rcases rL g h with h | h
    ·exact HF.out g h
    ·have h2:=HB.out.size;omega
   have iq:zW (fun i=>F i/\i<w.heap.size) w7 (jZ (opens n (ts.take (k+1)))) (xs++[.int .i64 ((n:Int)+(k:Int)),.pointer (some ⟨ub,0,none⟩),.pointer none,.slice none 0 0]):=by
    rw [cR HT.out.1,uE,encMs_one];refine zW.append ?_ ?_
    ·exact (Rep.keep fun b o hf ho=>⟨hf,by rw [aC.block b hf.2,<- HB.out.block b hf.2];exact ho⟩).2 _ _ HR.out
    ·rw [dh];refine zQ.2 ⟨_,_,rfl,zH.2 (by rw [Int.natCast_add]),zQ.2 ⟨_,_,rfl,(Rep.keep fun b o hf ho=>⟨⟨hf,zZ ho⟩,by rw [aC.block b (zZ ho)];exact ho⟩).1 _ _ HT.out.2,zQ.2 ⟨_,_,rfl,zH.2 rfl,zQ.2 ⟨_,_,rfl,zH.2 rfl,zC.2 rfl⟩⟩⟩⟩
   have HA:=n7 (n8 r_ (n8 iq (n8 aC Au)));clear r_ iq aC Au rP rL;go_wp2_with fail
   go_roundw
   case rel=>exact ⟨k+1,by omega,by go_num,a',c',_,rfl,HA.out.1,HA.out.2.1,HA.out.2.2.1,HA.out.2.2.2⟩
   case measure=>simp [intOf];omega
  ·obtain rfl:k=ts.length:=by omega
   go_wp2_with fail
   go_ret;have h0:=HR.out;rw [OT] at h0;exact ⟨a,c,xs,rfl,HO.out,(Rep.keep fun b o hf ho=>⟨hf.1,ho⟩).2 _ _ h0,HB.out,HF.out⟩
end Go.Proofs.YtdhaafoiokkbnabGreatDoor
namespace Go.Proofs.YtdhaafoiokkbnabGreatDoor
open Go.RowKit Go.Extern.Stop Go.Stop Go.Extern Go.Extern.Rtype
theorem Tryz.isTypeOf (v:Value) (w:World):(QO #[.iface 237 v]).run No w=.ok (.iface 224 (.agg #[.pointer (some ⟨7,237,none⟩)])) w:=by kernel_rfl
theorem Tryz.callCmp (w:World):Sem.run No (callFunc 170 #[.agg #[.pointer (some ⟨7,237,none⟩)]]) w=.ok (.value (.bool true)) w:=by
 rw [@run_callFunc_extern No 170 _ (QP fun t=>do noPackHeld "Comparable" t;pure (.bool (<- typeInfo t).comparable)) Tryz.func170 (by kernel_rfl) (by kernel_rfl) (by kernel_rfl) (by kernel_rfl)];have h:((QP fun t=>do noPackHeld "Comparable" t;pure (.bool (<- typeInfo t).comparable)) #[.agg #[.pointer (some ⟨7,237,none⟩)]]).run No w=.ok (.bool true) w:=by kernel_rfl
 rw [h];rfl
theorem Tryz.isMethodComparable (v:Value) (w:World):(Go.method 369 224 v "Comparable").run No w=.ok (170,v) w:=by kernel_rfl
theorem Tryz.isComp:(No.info? 237).map (·.comparable)=some true:=by kernel_rfl
theorem Tryz.isSize:(No.info? 239).map (·.size)=some 1:=by kernel_rfl
theorem is_nil (b:Addr) (w:World):Calls No 119 #[.nilIface,.iface 237 (.pointer (some b))] w fun e w'=>e=.returned (.bool false)/\w'=w:=by
 have hn:=run_eql_iface_nil_left (P:=No) w 237 (.pointer (some b)) SG;go_enter TE,Th;go_wp2;go_ret;exact ⟨rfl,rfl⟩
theorem is_same (a:Addr) (w:World) :
 Calls No 119 #[.iface 237 (.pointer (some a)),.iface 237 (.pointer (some a))] w fun e w'=>e=.returned (.bool true)/\w'=w:=by
 obtain ⟨i,hi,M7⟩:=OA.1 Tryz.isComp;obtain ⟨j,hj,hjs⟩:=OA.1 Tryz.isSize;have h8:=@run_callFunc_extern No 137 _ QO Tryz.func137 (by kernel_rfl) (by kernel_rfl) (by kernel_rfl) (by kernel_rfl);have tT:=Tryz.isTypeOf;have cT:=Tryz.callCmp;have mR:=Tryz.isMethodComparable;have Bj:=run_eql_iface_ptr_same (P:=No) w a SG Tryz.underlying237 hi M7 hj;clear hi M7 hj hjs;go_enter TE,Th;go_wp2;refine wp_loop_rounds 1 ?_;rw [rounds_succ];go_wp2;go_ret;exact ⟨rfl,rfl⟩
def xR (w:World):Prop:=∃ a,w.cell? ⟨0,0,none⟩=some (.iface 237 (.pointer (some a)))
theorem xR.but {m:Nat->Prop} {w w':World} (h:xR w) (hb:But m w w') (hm:¬ m 0):xR w':=by
 obtain ⟨a,h⟩:=h;exact ⟨a,(hb.cell (n_ w _ h) hm).trans h⟩
theorem xR.below {w w':World} (h:xR w) (hb:Below w.heap.size w w'):xR w':=h.but (m:=fun _=>False) (But.ofBelow hb) (fun h=>h)
def Apl (w:World) (aa l:Nat):Prop:=w.heap[aa]? = some (.cells #[.int .i64 (l:Nat)] 190 (0,0))
theorem Apl.cell {w:World} {aa l:Nat} (h:Apl w aa l):w.cell? ⟨aa,0,none⟩=some (.int .i64 (l:Nat))/\w.frozen? ⟨aa,0,none⟩=false/\aa<w.heap.size:=by
 unfold Apl at h;exact ⟨by simp [Li,h],by simp [OC,h],zZ h⟩
theorem Apl.below {w w':World} {aa l:Nat} (h:Apl w aa l) (hb:Below w.heap.size w w'):Apl w' aa l:=by unfold Apl;rw [hb.block aa (zZ h)];exact h
theorem Rep.low {F:Nat->Prop} {w:World} {d:DV} {v:Value} (h:Rep F w d v):Rep (fun i=>F i/\i<w.heap.size) w d v:=(Rep.keep fun _ _ hf ho=>⟨⟨hf,zZ ho⟩,ho⟩).1 _ _ h
theorem zW.low {F:Nat->Prop} {w:World} {d:List DV} {v:List Value} (h:zW F w d v):zW (fun i=>F i/\i<w.heap.size) w d v:=(Rep.keep fun _ _ hf ho=>⟨⟨hf,zZ ho⟩,ho⟩).2 _ _ h
theorem Rep.weak {F G:Nat->Prop} {w:World} {d:DV} {v:Value} (h:Rep F w d v) (k:∀ i,F i->G i):Rep G w d v:=(Rep.keep fun _ _ hf ho=>⟨k _ hf,ho⟩).1 _ _ h
def uy (F:Nat->Prop) (w:World) (aa n:Nat):List Gf->Value->Prop
 | [],v=>v=.nilFunc
 | f :: st,v=>∃ (b1 b2 b3 b4 b5:Nat) (bp ev on:Value) (vv:Nat) (ss:List Bd),v=.func (.func 135) #[] #[.pointer (some ⟨b1,0,none⟩),.pointer (some ⟨b2,0,none⟩),.pointer (some ⟨b3,0,none⟩),.pointer (some ⟨b4,0,none⟩),.pointer (some ⟨b5,0,none⟩)] /\
     (F b1/\F b2/\F b3/\F b4/\F b5)/\w.cell? ⟨b1,0,none⟩=some bp/\Rep F w (k_ (.ask vv ss f.yes f.no)) bp/\w.cell? ⟨b2,0,none⟩=some (.pointer (some ⟨aa,0,none⟩))/\w.cell? ⟨b3,0,none⟩=some ev/\Rep F w (.sl 165 4 f.env.length (jZ f.env)) ev/\w.cell? ⟨b4,0,none⟩=some (.int .i64 (n:Nat))/\w.cell? ⟨b5,0,none⟩=some on/\uy F w aa n st on
theorem uy.but {F G:Nat->Prop} {w w':World} {aa n:Nat} {m:Nat->Prop} (hb:But m w w') (hF:∀ i,F i->¬ m i/\G i):∀ (st:List Gf) (v:Value),uy F w aa n st v->uy G w' aa n st v
 | [],v,h=>h
 | f::st,v,h=>by
   obtain ⟨b1,b2,b3,b4,b5,bp,ev,on,vv,ss,e,⟨n1,n2,n3,n4,n5⟩,c1,r1,c2,c3,r3,c4,c5,r5⟩:=h;have k:∀ {b:Nat} {u:Value},F b->w.cell? ⟨b,0,none⟩=some u->w'.cell? ⟨b,0,none⟩=some u:=fun hn hc=>(hb.cell (n_ w _ hc) (hF _ hn).1).trans hc;exact ⟨b1,b2,b3,b4,b5,bp,ev,on,vv,ss,e,⟨(hF _ n1).2,(hF _ n2).2,(hF _ n3).2,(hF _ n4).2,(hF _ n5).2⟩,k n1 c1,r1.but hb hF,k n2 c2,k n3 c3,r3.but hb hF,k n4 c4,k n5 c5,uy.but hb hF st on r5⟩
theorem uy.low {F:Nat->Prop} {w:World} {aa n:Nat}:∀ (st:List Gf) (v:Value),uy F w aa n st v->uy (fun i=>F i/\i<w.heap.size) w aa n st v
 | [],v,h=>h
 | f::st,v,h=>by
   obtain ⟨b1,b2,b3,b4,b5,bp,ev,on,vv,ss,e,⟨n1,n2,n3,n4,n5⟩,c1,r1,c2,c3,r3,c4,c5,r5⟩:=h;have lt:∀ {b:Nat} {u:Value},w.cell? ⟨b,0,none⟩=some u->b<w.heap.size:=fun hc=>n_ w _ hc;exact ⟨b1,b2,b3,b4,b5,bp,ev,on,vv,ss,e,⟨⟨n1,lt c1⟩,⟨n2,lt c2⟩,⟨n3,lt c3⟩,⟨n4,lt c4⟩,⟨n5,lt c5⟩⟩,c1,Rep.low r1,c2,c3,Rep.low r3,c4,c5,uy.low st on r5⟩
mutual
def okM (B:Nat):Mn->Prop
 | .op o t=>zJ t<=15/\o<=B
 | .bd t _ e=>zJ t<=15/\e.length<=B/\xH B e
def xH (B:Nat):List Mn->Prop
 | []=>True
 | m::ms=>okM B m/\xH B ms
end
mutual
theorem okM_mono {B C:Nat} (h:B<=C):∀ m,okM B m->okM C m
 | .op o t,k=>by rw [okM] at *;exact ⟨k.1,by omega⟩
 | .bd t b e,k=>by rw [okM] at *;exact ⟨k.1,by omega,qP h e k.2.2⟩
theorem qP {B C:Nat} (h:B<=C):∀ ms,xH B ms->xH C ms
 | [],_=>by rw [xH];trivial
 | m::ms,k=>by rw [xH] at *;exact ⟨okM_mono h m k.1,qP h ms k.2⟩
end
theorem jg {B:Nat}:∀ (a b:List Mn),xH B a->xH B b->xH B (a++b)
 | [],b,_,h=>h
 | x::a,b,h,k=>by rw [xH] at h;exact ⟨h.1,jg a b h.2 k⟩
theorem bE {B:Nat}:∀ (a:List Mn),xH B a->∀ (k:Nat) (m:Mn),a[k]? = some m->okM B m
 | [],_,k,m,h=>by simp at h
 | x::a,hs,k,m,h=>by
   rw [xH] at hs;cases k with
   | zero=>simp at h;subst h;exact hs.1
   | succ k=>exact bE a hs.2 k m (by simpa using h)
theorem jk {B:Nat}:∀ (ts:List Ty) (n:Nat),(∀ t∈ts,zJ t<=15)->n+ts.length<=B+1->xH B (opens n ts)
 | [],n,_,_=>by rw [opens];trivial
 | t::ts,n,h,hn=>by
   simp only [OD] at hn;rw [opens,xH];exact ⟨by rw [okM];exact ⟨h t (by simp),by omega⟩,jk ts (n+1) (fun x hx=>h x (by simp [hx])) (by omega)⟩
theorem wt {B:Nat} {env:List Mn} (he:xH B env) (hl:env.length<=B):∀ (ts:List Ty) (ss:List Bd),(∀ t∈ts,zJ t<=15)->xH B (owns env ts ss)
 | [],ss,_=>by
   rw [owns]
   ·trivial
   ·intros;contradiction
 | t::ts,[],_=>by
   rw [owns]
   ·trivial
   ·intros;contradiction
 | t::ts,s::ss,h=>by rw [owns,xH];exact ⟨by rw [okM];exact ⟨h t (by simp),hl,he⟩,wt he hl ts ss (fun x hx=>h x (by simp [hx]))⟩
def okGs (B:Nat):List Gf->Prop
 | []=>True
 | f::fs=>f.env.length<=B/\xH B f.env/\okGs B fs
theorem vg {B C:Nat} (h:B<=C):∀ fs,okGs B fs->okGs C fs
 | [],_=>trivial
 | f::fs,k=>⟨by have:=k.1;omega,qP h _ k.2.1,vg h fs k.2.2⟩
theorem kQ {t:Ty} (h:zJ t<=15):(∀ a∈t.args,zJ a<=15)/\t.args.length<=15:=by
 have hm:=qx t;constructor
 ·intro a ha;have key:∀ ts:List Ty,a∈ts->1+zJ a<=zt ts:=by
   intro ts
   induction ts with
   | nil=>intro h;simp at h
   | cons x xs ih =>
     intro h;rcases OX.1 h with rfl | h
     ·simp only [zt];omega
     ·have:=ih h;simp only [zt];omega
  have:=key _ ha;omega
 ·have:=qN t.args;omega
def kO (F:Nat->Prop) (aa:Nat) (o:Option (Bd×Nat)) (w:World) (en:Ending) (w':World):Prop :=
 But (· = aa) w w'/\(o=none->∃ a,en=.returned (.tuple #[.pointer none,.iface 237 (.pointer (some a))])/\w.cell? ⟨0,0,none⟩=some (.iface 237 (.pointer (some a)))) /\
  (∀ out l,o=some (out,l)->∃ v,en=.returned (.tuple #[v,.nilIface])/\Apl w' aa l/\Rep (fun i=>F i\/w.heap.size<=i) w' (k_ out) v)
theorem kO.none {F:Nat->Prop} {aa:Nat} {o:Option (Bd×Nat)} {w w':World} {a:Addr} (ho:o=.none) (hb:But (· = aa) w w') (hc:w.cell? ⟨0,0,none⟩=some (.iface 237 (.pointer (some a)))) :
 kO F aa o w (.returned (.tuple #[.pointer none,.iface 237 (.pointer (some a))])) w' :=
 ⟨hb,fun _=>⟨a,rfl,hc⟩,fun _ _ h=>by rw [ho] at h;simp at h⟩
theorem kO.some {F:Nat->Prop} {aa:Nat} {o:Option (Bd×Nat)} {w w':World} {out:Bd} {l:Nat} {v:Value} (ho:o=.some (out,l)) (hb:But (· = aa) w w') (ha:Apl w' aa l) (hr:Rep (fun i=>F i\/w.heap.size<=i) w' (k_ out) v) :
 kO F aa o w (.returned (.tuple #[v,.nilIface])) w' :=
 ⟨hb,fun h=>by rw [ho] at h;simp at h,fun _ _ h=>by rw [ho] at h;simp at h;obtain ⟨rfl,rfl⟩:=h;exact ⟨v,rfl,ha,hr⟩⟩
structure pm (F:Nat->Prop) (aa l d n:Nat) (H:List Ty) (b:Bd) (env:List Mn) (st:List Gf) (bv ev on:Value) (w:World):Prop where
 glob:xR w
 hF:∀ i,F i->i≠aa
 ng:aa≠0
 apl:Apl w aa l
 ld:l<=d
 d20:d<=20000
 fit:ji H b env st
 hn:H.length=n
 el:env.length+16*d<=1000000
 nl:n+16*d<=1000000
 ok:xH (1000000-16*d) env
 okg:okGs (1000000-16*d) st
 rb:Rep F w (k_ b) bv
 re:Rep F w (.sl 165 4 env.length (jZ env)) ev
 ro:uy F w aa n st on
def pX (d:Nat):Prop:=∀ (F:Nat->Prop) (aa l n:Nat) (H:List Ty) (b:Bd) (env:List Mn) (st:List Gf) (bv ev on:Value) (w:World),pm F aa l d n H b env st bv ev on w ->
 Calls No 118 #[.pointer (some ⟨aa,0,none⟩),bv,ev,.int .i64 (n:Nat),on] w (kO F aa (Qq d l b env n st) w)
theorem after_any (d:Nat) (ih:pX d) (F:Nat->Prop) (aa l n:Nat) (H:List Ty) (f:Gf) (st:List Gf) (b1 b2 b3 b4 b5:Nat) (bp ev on:Value) (vv:Nat) (ss:List Bd) (w:World) (c:UInt8) (hg:xR w) (hF:∀ i,F i->i≠aa) (hng:aa≠0) (ha:Apl w aa l) (Cv:l<=d) (hd:d<=20000)
 (hf:ji H (if c=116 then f.yes else f.no) f.env st) (hn:H.length=n) (Av:f.env.length+16*d<=1000000) (AG:n+16*d<=1000000) (rj:xH (1000000-16*d) f.env) (Ji:okGs (1000000-16*d) st)
 (c1:w.cell? ⟨b1,0,none⟩=some bp) (r1:Rep F w (k_ (.ask vv ss f.yes f.no)) bp) (c2:w.cell? ⟨b2,0,none⟩=some (.pointer (some ⟨aa,0,none⟩))) (c3:w.cell? ⟨b3,0,none⟩=some ev) (r3:Rep F w (.sl 165 4 f.env.length (jZ f.env)) ev)
 (c4:w.cell? ⟨b4,0,none⟩=some (.int .i64 (n:Nat))) (c5:w.cell? ⟨b5,0,none⟩=some on) (r5:uy F w aa n st on) :
 Calls No 135 #[.bool (decide (c=116)),.pointer (some ⟨b1,0,none⟩),.pointer (some ⟨b2,0,none⟩),.pointer (some ⟨b3,0,none⟩),.pointer (some ⟨b4,0,none⟩),.pointer (some ⟨b5,0,none⟩)] w (kO F aa (Qq d l (if c=116 then f.yes else f.no) f.env n st) w):=by
 obtain ⟨bb,sl,yv,nv,rfl,_,rV,_,ry,rn⟩:=uu r1;have q3:w.cell? ⟨bb,3,none⟩=some yv:=by simp [Li,rV]
 have q4:w.cell? ⟨bb,4,none⟩=some nv:=by simp [Li,rV]
 have IH:=n7 ih
 have key:∀ (b:Bd) (bv:Value),ji H b f.env st->Rep F w (k_ b) bv->Calls No 118 #[.pointer (some ⟨aa,0,none⟩),bv,ev,.int .i64 (n:Nat),on] w (kO F aa (Qq d l b f.env n st) w) :=
  fun b bv hf hr=>IH.out F aa l n H b f.env st bv ev on w ⟨hg,hF,hng,ha,Cv,hd,hf,hn,Av,AG,rj,Ji,hr,r3,r5⟩
 by_cases hc:c=116
 ·rw [if_pos hc] at hf ⊢;rw [decide_eq_true hc];have K0:=key _ _ hf ry;generalize Qq d l f.yes f.env n st=o at *;have K:=n7 K0;clear key K0 hf ry rn r1 r3 r5 rV IH ih rj Ji hg hF ha hn hc;go_enter TF,Ti;go_wp2_with fail
  (with_reducible refine K.out.mono ?_);rintro en w1 ⟨rW,sU,sY⟩
  cases o with
  | none =>
    obtain ⟨a,rfl,hc⟩:=sU rfl;have HB:=n7 (n8 rW hc);clear rW sU sY hc;go_wp2_with fail
    go_ret2
    exact kO.none rfl HB.out.1 HB.out.2
  | some x =>
    obtain ⟨v,rfl,ha,hr⟩:=sY x.1 x.2 rfl;have HB:=n7 (n8 rW (n8 ha hr));clear rW sU sY ha hr;go_wp2_with fail
    go_ret2
    exact kO.some rfl HB.out.1 HB.out.2.1 HB.out.2.2
 ·rw [if_neg hc] at hf ⊢;rw [decide_eq_false hc];have K0:=key _ _ hf rn;generalize Qq d l f.no f.env n st=o at *;have K:=n7 K0;clear key K0 hf ry rn r1 r3 r5 rV IH ih rj Ji hg hF ha hn hc;go_enter TF,Ti;go_wp2_with fail
  (with_reducible refine K.out.mono ?_);rintro en w1 ⟨rW,sU,sY⟩
  cases o with
  | none =>
    obtain ⟨a,rfl,hc⟩:=sU rfl;have HB:=n7 (n8 rW hc);clear rW sU sY hc;go_wp2_with fail
    go_ret2
    exact kO.none rfl HB.out.1 HB.out.2
  | some x =>
    obtain ⟨v,rfl,ha,hr⟩:=sY x.1 x.2 rfl;have HB:=n7 (n8 rW (n8 ha hr));clear rW sU sY ha hr;go_wp2_with fail
    go_ret2
    exact kO.some rfl HB.out.1 HB.out.2.1 HB.out.2.2
theorem vp {F:Nat->Prop} {w:World}:∀ (ms:List Mn) (us:List Value),zW F w (jZ ms) us->∀ u∈us,u.oneCell'=true
 | [],us,h,u,hu=>by rw [jZ,zC] at h;subst h;simp at hu
 | m::ms,us,h,u,hu=>by
   rw [jZ] at h;obtain ⟨h1,h2⟩:=h.split;rw [wP] at h1 h2;rw [<- Pj 4 us] at hu;rcases List.mem_append.1 hu with hu | hu
   ·cases m with
    | op o t =>
      simp only [dh,zQ,zC,zH] at h1;obtain ⟨_,_,e,rfl,kv,_,rfl,hk,_,_,rfl,rfl,_,_,rfl,rfl,rfl⟩:=h1;rw [e] at hu;obtain ⟨kb,rfl⟩:=e_ hk;simp only [OX,PR,or_false] at hu;rcases hu with rfl | rfl | rfl | rfl <;> rfl
    | bd t b en =>
      simp only [dh,zQ,zC,zH] at h1;obtain ⟨_,_,e,rfl,_,_,rfl,rfl,bv,_,rfl,hk,sv,_,rfl,hs,rfl⟩:=h1;rw [e] at hu;obtain ⟨kb,rfl⟩:=zd hk;rw [zh] at hs;obtain ⟨_,a,c,rfl,_⟩:=hs;simp only [OX,PR,or_false] at hu;rcases hu with rfl | rfl | rfl | rfl <;> rfl
   ·exact vp ms _ h2 u hu
theorem mean_at {F:Nat->Prop} {w:World} {env:List Mn} {ev:Value} (h:Rep F w (.sl 165 4 env.length (jZ env)) ev) {v:Nat} {m:Mn} (hc:env[v]? = some m) :
 ∃ b o cap x0 x1 x2 x3,ev=.slice (some ⟨b,o,none⟩) env.length cap/\F b/\b<w.heap.size/\w.cell? ⟨b,o+v*4,none⟩=some x0/\w.cell? ⟨b,o+v*4+1,none⟩=some x1/\w.cell? ⟨b,o+v*4+2,none⟩=some x2/\w.cell? ⟨b,o+v*4+3,none⟩=some x3/\zW F w (dh m) [x0,x1,x2,x3]:=by
 have hv:=(OB.1 hc).1;rw [zh] at h;obtain ⟨hl,a,cap,rfl,hn,hz,h⟩:=h;rcases h with h0 | ⟨b,o,cs,fr,rfl,hb,hcs,hr⟩
 ·omega
 have Cj:jZ env=jZ (env.take v)++(dh m++jZ (env.drop (v+1))):=by
  have e:env=env.take v++m::env.drop (v+1):=by
   have:env[v]=m:=(OB.1 hc).2;rw [<- this,List.getElem_cons_drop,Pj]
  conv=>lhs;rw [e]
  rw [uE,jZ]
 rw [Cj] at hr;have h2:=hr.split.2;rw [dg,Pw,Sd (by omega)] at h2;have h3:=h2.split.1;rw [wP] at h3;have hlen:=h3.length;rw [wP] at hlen;obtain ⟨x0,x1,x2,x3,e1⟩:∃ x0 x1 x2 x3,(((cs.toList.drop o).take (env.length*4)).drop (v*4)).take 4=[x0,x1,x2,x3]:=by
  match hq:(((cs.toList.drop o).take (env.length*4)).drop (v*4)).take 4,hlen with
  | [a,b,c,d],_=>exact ⟨a,b,c,d,rfl⟩
 rw [e1] at h3;have get:∀ (j:Nat) (u':Value),j<4->[x0,x1,x2,x3][j]? = some u'->w.cell? ⟨b,o+v*4+j,none⟩=some u':=by
  intro j u' hj h;rw [<- e1,PI,if_pos hj,PJ,PI,if_pos (by omega),PJ] at h;simp only [Li,hcs];simpa [Nat.add_assoc] using h
 exact ⟨b,o,cap,x0,x1,x2,x3,rfl,hb,zZ hcs,get 0 _ (by omega) rfl,get 1 _ (by omega) rfl,get 2 _ (by omega) rfl,get 3 _ (by omega) rfl,h3⟩
theorem fx (f:Nat->Bd->List Mn->Nat->List Gf->Option (Bd×Nat)) (env:List Mn) (n:Nat) (t:Ty) (s:Bd):∀ (ts:List Ty) (ss:List Bd) (l:Nat),ts.length=ss.length ->
 kV f env n l (ts++[t]) (ss++[s])=(kV f env n l ts ss).bind fun x=>(f x.2 s (env++opens n t.args) (n+t.args.length) []).bind fun y=>some (x.1++[y.1],y.2)
 | [],[],l,_=>by
   simp only [List.nil_append,kV,Ow,Lx]
 | [],s'::ss,l,h=>by simp at h
 | t'::ts,[],l,h=>by simp at h
 | t'::ts,s'::ss,l,h=>by
   simp only [ON,kV,Ow];cases h1:f l s' (env++opens n t'.args) (n+t'.args.length) [] with
   | none=>rfl
   | some x =>
     simp only [Lx];rw [fx f env n t s ts ss x.2 (by simpa using h)];cases h2:kV f env n x.2 ts ss with
     | none=>rfl
     | some y =>
       simp only [Lx];cases h3:f y.2 s (env++opens n t.args) (n+t.args.length) [] with
       | none=>rfl
       | some z=>rfl
theorem evSubs_take {f:Nat->Bd->List Mn->Nat->List Gf->Option (Bd×Nat)} {env:List Mn} {n l k:Nat} {ts:List Ty} {ss:List Bd} {t:Ty} {s:Bd} (ht:ts[k]? = some t) (hs:ss[k]? = some s) :
 kV f env n l (ts.take (k+1)) (ss.take (k+1))=(kV f env n l (ts.take k) (ss.take k)).bind fun x=>(f x.2 s (env++opens n t.args) (n+t.args.length) []).bind fun y=>some (x.1++[y.1],y.2):=by
 have h1:=(OB.1 ht).1;have h2:=(OB.1 hs).1;rw [Pc,Pc,ht,hs];exact fx f env n t s _ _ l (by rw [Pw,Pw];omega)
theorem fp {f:Nat->Bd->List Mn->Nat->List Gf->Option (Bd×Nat)} {env:List Mn} {n:Nat}:∀ (k:Nat) (ts:List Ty) (ss:List Bd) (l:Nat),kV f env n l (ts.take k) (ss.take k)=none->kV f env n l ts ss=none
 | 0,ts,ss,l,h=>by simp [kV] at h
 | k+1,[],ss,l,h=>by simp [kV] at h
 | k+1,t::ts,[],l,h=>by simp [kV] at h
 | k+1,t::ts,s::ss,l,h=>by
   simp only [List.take_succ_cons,kV,Ow] at h ⊢;cases h1:f l s (env++opens n t.args) (n+t.args.length) [] with
   | none=>rfl
   | some x =>
     rw [h1] at h;simp only [Lx] at h ⊢;cases h2:kV f env n x.2 (ts.take k) (ss.take k) with
     | none=>rw [fp k ts ss x.2 h2];rfl
     | some y=>rw [h2] at h;simp at h
theorem fg {d:Nat} (ih:∀ (l:Nat) (b:Bd) (env:List Mn) (n:Nat) (st:List Gf) (r:Bd) (l':Nat),Qq d l b env n st=some (r,l')->l'<=l) {env:List Mn} {n:Nat} :
 ∀ (ts:List Ty) (ss:List Bd) (l:Nat) (xs:List Bd) (l':Nat),kV (Qq d) env n l ts ss=some (xs,l')->l'<=l
 | [],ss,l,xs,l',h=>by simp [kV] at h;omega
 | t::ts,[],l,xs,l',h=>by simp [kV] at h;omega
 | t::ts,s::ss,l,xs,l',h=>by
   simp only [kV,Ow,N0,Prod.exists] at h;obtain ⟨x,l1,h1,ys,l2,h2,h3⟩:=h;simp at h3;have k1:=ih _ _ _ _ _ _ _ h1;have k2:=fg ih ts ss _ _ _ h2;omega
theorem ev_left (d:Nat):∀ (l:Nat) (b:Bd) (env:List Mn) (n:Nat) (st:List Gf) (r:Bd) (l':Nat),Qq d l b env n st=some (r,l')->l'<=l:=by
 induction d with
 | zero=>intro l b env n st r l' h;simp [Qq] at h
 | succ d ih =>
   intro l b env n st r l' h;cases l with
   | zero=>rw [ev.eq_def] at h;simp at h
   | succ l =>
     cases b with
     | leaf c =>
       by_cases hc:c=117
       ·subst hc;rw [ev_u] at h;simp at h;omega
       ·cases st with
        | nil=>rw [cp] at h;simp at h;omega
        | cons f st=>rw [bw hc] at h;have:=ih _ _ _ _ _ _ _ h;omega
     | ask v ss y no =>
       cases hv:env[v]? with
       | none=>rw [ev.eq_def] at h;simp [hv] at h
       | some m =>
         cases m with
         | bd t b' e=>rw [ev_bd hv] at h;have:=ih _ _ _ _ _ _ _ h;omega
         | op o t =>
           rw [ev_op hv] at h;simp only [N0,Prod.exists] at h;obtain ⟨xs,l1,h1,x,l2,h2,z,l3,h3,h4⟩:=h;simp at h4;have k1:=fg ih _ _ _ _ _ h1;have k2:=ih _ _ _ _ _ _ _ h2;have k3:=ih _ _ _ _ _ _ _ h3;omega
theorem pL (xs:List Bd) (x:Bd):jU (xs++[x])=jU xs++[k_ x]:=by
 induction xs with
 | nil=>simp [jU]
 | cons y ys ih=>simp [jU,ih]
structure KInv (F:Nat->Prop) (aa l n d o:Nat) (env:List Mn) (ts:List Ty) (ss:List Bd) (kv:Value) (w:World) (k lk:Nat) (outs:List Bd) (sv:Value) (us:List Value) (wr:World):Prop where
 evk:kV (Qq d) env n l (ts.take k) (ss.take k)=some (outs,lk)
 ol:outs.length=k
 but:But (· = aa) w wr
 zw:w.heap.size+2<=wr.heap.size
 apl:Apl wr aa lk
 lkl:lk<=l
 box:wr.heap[w.heap.size]? = some (.cells #[.int .i64 (o:Nat),kv,.pointer none,.slice none 0 0] 165 (0,0))
 blk:wr.heap[w.heap.size+1]? = some (.cells #[str [],.int .i64 (o:Nat),sv,.pointer none,.pointer none] 68 (0,0))
 own:Own wr 33 1 sv k us
 rep:zW (fun i=>((F i/\i<w.heap.size)\/w.heap.size+2<=i)/\sv.ownBlock≠some i) wr (jU outs) us
 fr:∀ g,sv.ownBlock=some g->w.heap.size+2<=g
theorem pz {w:World} {P:Nat} {a b c d e:Value} {T:TypeId} (h:w.heap[P]? = some (.cells #[a,b,c,d,e] T (0,0))):w.cell? ⟨P,0,none⟩=some a/\w.cell? ⟨P,1,none⟩=some b/\w.cell? ⟨P,2,none⟩=some c/\w.cell? ⟨P,3,none⟩=some d/\w.cell? ⟨P,4,none⟩=some e/\(∀ o,w.frozen? ⟨P,o,none⟩=false) :=
 ⟨by simp [Li,h],by simp [Li,h],by simp [Li,h],by simp [Li,h],by simp [Li,h],fun o=>by simp [OC,h]⟩
theorem kR {w:World} {P:Nat} {a b c d:Value} {T:TypeId} (h:w.heap[P]? = some (.cells #[a,b,c,d] T (0,0))):w.cell? ⟨P,0,none⟩=some a/\w.cell? ⟨P,1,none⟩=some b/\w.cell? ⟨P,2,none⟩=some c/\w.cell? ⟨P,3,none⟩=some d :=
 ⟨by simp [Li,h],by simp [Li,h],by simp [Li,h],by simp [Li,h]⟩
theorem Own.src {w:World} {e:TypeId} {sz n:Nat} {v:Value} {xs:List Value} (h:Own w e sz v n xs) (hc:∀ u∈xs,u.oneCell'=true):zu sz v n xs w:=by
 refine ⟨h.1,hc,?_⟩;rcases h.2 with ⟨e,h0⟩ | ⟨g,cap,cur,e,_,hg,_,_,_,ht⟩
 ·exact .inr ⟨e,h0⟩
 ·refine .inl ⟨_,cap,e,fun j u hj=>?_⟩;rw [<- ht,PI] at hj;split at hj
  ·unfold Addr.add;split
   ·subst j;simp only [Li,hg];simpa using hj
   ·simp only [Li,hg];simpa using hj
  ·simp at hj
structure KeptPre (F:Nat->Prop) (aa l d n o vv:Nat) (H:List Ty) (t:Ty) (ss:List Bd) (y no:Bd) (env:List Mn) (st:List Gf) (bv kv ev on:Value) (w:World):Prop where
 glob:xR w
 hF:∀ i,F i->i≠aa
 ng:aa≠0
 apl:Apl w aa l
 ld:l<=d
 d20:d<=20000
 hlen:ss.length=t.args.length
 at15:zJ t<=15
 sub:∀ (k:Nat) (a:Ty) (s:Bd),t.args[k]? = some a->ss[k]? = some s->ji (H++a.args) s (env++opens H.length a.args) []
 fy:ji H y env st
 fn:ji H no env st
 hn:H.length=n
 el:env.length+16*(d+1)<=1000000
 nl:n+16*(d+1)<=1000000
 ok:xH (1000000-16*(d+1)) env
 okg:okGs (1000000-16*(d+1)) st
 rb:Rep F w (k_ (.ask vv ss y no)) bv
 rk:Rep F w (jA t) kv
 re:Rep F w (.sl 165 4 env.length (jZ env)) ev
 ro:uy F w aa n (⟨y,no,env⟩::st) on
def x6 (d l n o:Nat) (t:Ty) (ss:List Bd) (y no:Bd) (env:List Mn) (st:List Gf):Option (Bd×Nat) :=
 (kV (Qq d) env n l t.args ss).bind fun x=>(Qq d x.2 y env n st).bind fun z=>(Qq d z.2 no env n st).bind fun u=>some (.ask o x.1 z.1 u.1,u.2)
theorem kept_any (d:Nat) (ih:pX d) (F:Nat->Prop) (aa l n o vv:Nat) (H:List Ty) (t:Ty) (ss:List Bd) (y no:Bd) (env:List Mn) (st:List Gf) (bv kv ev on:Value) (w:World) (h:KeptPre F aa l d n o vv H t ss y no env st bv kv ev on w) :
 Calls No 136 #[.pointer (some ⟨aa,0,none⟩),bv,.agg #[.int .i64 (o:Nat),kv,.pointer none,.slice none 0 0],ev,.int .i64 (n:Nat),on] w (kO F aa (x6 d l n o t ss y no env st) w):=by
 have HP:=n7 h;have IH:=n7 ih;obtain ⟨bb,sl,yv,nv,e,Ah,rV,tN,_,_⟩:=uu h.rb;subst e;obtain ⟨kb,ks,e,hkF,ij,BG⟩:=zc h.rk;subst e;obtain ⟨sa,sc,e,_,_,ES⟩:=zP tN;subst e;obtain ⟨ka,kc,e,_,_,BH⟩:=zP BG;subst e;obtain ⟨exs,Fh,oz⟩:=zu.ofRep h.re (vp env);obtain ⟨ea,ec,e⟩:=oz.slice;subst e;obtain ⟨b1,b2,b3,b4,b5,bp,ev5,on5,vv5,ss5,e,⟨n1,n2,n3,n4,n5⟩,c1,r1,c2,c3,r3,c4,c5,r5⟩:=h.ro;subst e;have Jt:ss.length<=15:=by rw [h.hlen];exact (kQ h.at15).2
 have hl16':t.args.length<=15:=(kQ h.at15).2;have NC:=n7 h.hlen;have AG:=h.nl;have Av:=h.el;have hbaa:=h.hF _ Ah;have hkaa:=h.hF _ hkF;have sJ:=zZ rV;have aQ:=zZ ij;have Ie:=h.apl.cell.2.2;have AZ:w.cell? ⟨bb,2,none⟩=some (.slice sa ss.length sc):=by simp [Li,rV]
 have DB:w.cell? ⟨kb,0,none⟩=some (.slice ka t.args.length kc):=by simp [Li,ij]
 have HA:=n7 (n8 ES (n8 BH (n8 Fh oz)));have HC:=n7 (n8 (n8 n1 (n8 n2 (n8 n3 (n8 n4 n5)))) (n8 c1 (n8 r1 (n8 c2 (n8 c3 (n8 r3 (n8 c4 (n8 c5 r5))))))));clear h ih rV tN ij BG ES BH Fh oz n1 n2 n3 n4 n5 c1 r1 c2 c3 r3 c4 c5 r5 Ah hkF;go_enter Tryz.func136,Tryz.ntmps136;go_wp2_with fail
 go_loopw [31] (fun i wr=>∃ (k lk:Nat) (outs:List Bd) (sv:Value) (us:List Value),k<=ss.length/\i=.int .i64 k/\KInv F aa l n d o env t.args ss (.pointer (some ⟨kb,0,none⟩)) w k lk outs sv us wr) (fun i _=>ss.length-(intOf i).toNat)
 case atStart =>
  refine ⟨0,l,[],.slice none 0 0,[],OS _,rfl,?_⟩;have aB:Below w.heap.size w ((w.alloc (.cells #[.int .i64 (o:Nat),.pointer (some ⟨kb,0,none⟩),.pointer none,.slice none 0 0] 165)).alloc (.cells #[str [],.int .i64 (o:Nat),.slice none 0 0,.pointer none,.pointer none] 68)):=((rZ _ _).alloc (n9 _) _).alloc (by rw [zK];omega) _;refine { evk:=by simp [kV],ol:=rfl,but:=But.ofBelow aB,zw:=by simp,apl:=HP.out.apl.below aB,lkl:=n9 _,box:=zY (zG _ _),blk:=?_,own:=Pq _ _ _ _,rep:=by simp [jU,zC],fr:=fun g hg=>by simp [OG] at hg };have:=zG (w.alloc (.cells #[.int .i64 (o:Nat),.pointer (some ⟨kb,0,none⟩),.pointer none,.slice none 0 0] 165)) (.cells #[str [],.int .i64 (o:Nat),.slice none 0 0,.pointer none,.pointer none] 68);rwa [zK] at this
 case round =>
  rename_i wr;obtain ⟨k,lk,outs,sv,us,hk,rfl,rD⟩:=hrel;have HI:=n7 rD;clear rD;by_cases rH:k<ss.length
  ·have sS:(k:Int)<(ss.length:Int):=by omega
   have hlta:k<t.args.length:=by have:=NC.out;omega
   have hlta':(k:Int)<(t.args.length:Int):=by omega
   obtain ⟨sb,so,u,d1,e,BS,FW,CQ,aH,tq⟩:=HA.out.1 k rH;subst e;rw [xE,OA] at CQ;obtain ⟨s,hs,rfl⟩:=CQ;obtain ⟨ub,rfl⟩:=zd tq;obtain ⟨B2,DT,u2,d2,e,FF,Hf,DF,iZ,sT⟩:=HA.out.2.1 k hlta;subst e;rw [uv,OA] at DF;obtain ⟨a,ha,rfl⟩:=DF;obtain ⟨kab,s2,rfl,hF3,My,Jd⟩:=zc sT;obtain ⟨a3,k3,rfl⟩:∃ a3 k3,s2=.slice a3 a.args.length k3:=by have h:=Jd;rw [zh] at h;obtain ⟨_,a,c,e,_⟩:=h;exact ⟨a,c,e⟩
   have B7:zJ a<=15:=(kQ HP.out.at15).1 a (List.mem_of_getElem? ha);have AA:=(kQ B7).2;have kF:∀ {b:Nat} {j:Nat} {x:Value},F b->w.cell? ⟨b,j,none⟩=some x->wr.cell? ⟨b,j,none⟩=some x:=fun hb hc=>(HI.out.but.cell (n_ w _ hc) (HP.out.hF _ hb)).trans hc;have q0:=kF BS aH;have q1:wr.cell? ⟨kb,0,none⟩=some (.slice (some ⟨B2,DT,none⟩) t.args.length kc):=(HI.out.but.cell aQ hkaa).trans DB;have q2:=kF FF iZ;have q3:wr.cell? ⟨kab,0,none⟩=some (.slice a3 a.args.length k3):=kF hF3 (by simp [Li,My]);obtain ⟨x0,x1,x2,x3⟩:=kR HI.out.box;have sE:zu 4 (.slice ea env.length ec) env.length exs wr:=bV HI.out.but (fun b hb=>HP.out.hF b hb) HP.out.re HA.out.2.2.2;have HK:=n7 (n8 hs (n8 tq (n8 ha (n8 Jd sE))));have Cd:=HI.out.zw;clear hs tq ha sT Jd My sE kF aH iZ BS FF hF3 DB AZ;go_wp2_with (at_builtin;refine zM rfl _ _ 162 rfl 165 (.agg #[.int .i64 0,.pointer none,.pointer none,.slice none 0 0]) 4 48 PO Tryz.infoMn rfl (by decide) (.slice none 0 0) 0 [] rfl ?a1 _ env.length exs rfl ?a2 ?a3 ?a4 ?_)
   case a1=>exact Pq _ _ _ _
   case a2=>exact HK.out.2.2.2.2
   case a3=>unfold maxLen;omega
   case a4=>omega
   intro a6 c6 w6 F2 rC F7;have lU:Below wr.heap.size wr w6:=rC.toBelow (n9 _) (fun i _ e=>by simp [OG] at e);have H_:∀ g,(Ox a6 env.length c6).ownBlock=some g->wr.heap.size<=g:=fun g hg=>by
    rcases F7 g hg with h | h
    ·simp [OG] at h
    ·omega
   have LX:Rep (fun i=>F i/\i<w.heap.size) w6 (.sl 32 1 a.args.length (qH a.args)) (.slice a3 a.args.length k3) :=
    Rep.below lU (fun _ h=>h) ((Rep.low HK.out.2.2.2.1).but HI.out.but (fun b hb=>⟨HP.out.hF b hb.1,hb⟩))
   have C7:=n7 (eN (fun i=>F i/\i<w.heap.size) n a.args (.slice a3 a.args.length k3) w6 LX (by omega) (by omega));have H6:=n7 (n8 F2 (n8 lU H_));clear F2 rC F7 lU H_ LX x0 x1 x2 x3 q0 q1 q2 q3;go_wp2_with fail
   (with_reducible refine C7.out.mono ?_);rintro en w7 ⟨a7,c7,xs7,rfl,r_,iq,rP,Au⟩
   clear C7;have L8:Own w7 165 4 (.slice a6 env.length c6) env.length exs:=H6.out.1.keep fun g o hg hh=>by rw [rP.block g (zZ hh)];exact hh
   have Eo:=r_.src (vp _ _ iq);have Nh:Below wr.heap.size wr w7:=zzT H6.out.2.1 rP;have H7:=n7 (n8 L8 (n8 Eo (n8 iq Nh)));clear L8 Eo iq Nh r_ rP Au;go_wp2_with (at_builtin;refine zM rfl _ _ 162 rfl 165 (.agg #[.int .i64 0,.pointer none,.pointer none,.slice none 0 0]) 4 48 PO Tryz.infoMn rfl (by decide) (.slice a6 env.length c6) env.length exs rfl ?e1 _ a.args.length xs7 rfl ?e2 ?e3 ?e4 ?_)
   case e1=>exact H7.out.1
   case e2=>exact H7.out.2.1
   case e3=>unfold maxLen;omega
   case e4=>omega
   intro a8 c8 w8 Ht sP MK;have hz67:=H7.out.2.2.2.size;have GK:Below wr.heap.size wr w8:=H7.out.2.2.2.trans (sP.toBelow hz67 fun i hi e=>by have:=H6.out.2.2 i e;omega);have iR:∀ g,(Ox a8 (env.length+a.args.length) c8).ownBlock=some g->wr.heap.size<=g:=fun g hg=>by
    rcases MK g hg with h | h
    ·exact H6.out.2.2 g h
    ·omega
   have A9:But (· = aa) w w8:=HI.out.but.trans (But.ofBelow GK);have NI:∀ i,(((F i/\i<w.heap.size)\/w.heap.size+2<=i)/\sv.ownBlock≠some i)->i≠aa:=fun i hi=>by
    rcases hi.1 with hi | hi
    ·exact HP.out.hF i hi.1
    ·omega
   have Gn:∀ i,i<w.heap.size->sv.ownBlock≠some i:=fun i hi e=>by have:=HI.out.fr i e;omega
   have LC:∀ i,sv.ownBlock=some i->i<wr.heap.size:=fun i e=>HI.out.own.lt e;have lowB:∀ {dv:DV} {v:Value},Rep F w dv v->Rep (fun i=>((F i/\i<w.heap.size)\/w.heap.size+2<=i)/\sv.ownBlock≠some i) w8 dv v:=fun h=>(Rep.low h).but A9 (fun b hb=>⟨HP.out.hF b hb.1,.inl hb,Gn b hb.2⟩);have LZ:Rep (fun i=>((F i/\i<w.heap.size)\/w.heap.size+2<=i)/\sv.ownBlock≠some i) w8 (.sl 165 4 (env++opens n a.args).length (jZ (env++opens n a.args))) (.slice a8 (env.length+a.args.length) c8):=by
    rw [Ov,z_,uE];refine Ht.rep (fun g hg=>⟨.inr (by have:=iR g hg;omega),fun e=>by have:=iR g hg;have:=LC g e;omega⟩) (zW.append ?_ ?_)
    ·exact (zW.low HA.out.2.2.1).but A9 (fun b hb=>⟨HP.out.hF b hb.1,.inl hb,Gn b hb.2⟩)
    ·refine (Rep.keep fun b o hf hh=>⟨⟨.inl hf,Gn b hf.2⟩,?_⟩).2 _ _ H7.out.2.2.1;rw [sP.block b (zZ hh) (fun e=>by have:=H6.out.2.2 b e;have:=hf.2;omega)];exact hh
   have rM:pm (fun i=>((F i/\i<w.heap.size)\/w.heap.size+2<=i)/\sv.ownBlock≠some i) aa lk d (n+a.args.length) (H++a.args) s (env++opens n a.args) [] (.pointer (some ⟨ub,0,none⟩)) (.slice a8 (env.length+a.args.length) c8) .nilFunc w8 :=
    { glob:=HP.out.glob.but A9 (fun e=>HP.out.ng e.symm),hF:=NI,ng:=HP.out.ng,apl:=HI.out.apl.below GK,ld:=rJ HI.out.lkl HP.out.ld,d20:=HP.out.d20,
      fit:=by have:=HP.out.sub k a s HK.out.2.2.1 HK.out.1;rwa [HP.out.hn] at this,hn:=by rw [Ov,HP.out.hn],el:=by rw [Ov,z_];omega,nl:=by omega,
      ok:=jg _ _ (qP (by omega) _ HP.out.ok) (jk _ _ (kQ B7).1 (by omega)),okg:=trivial,rb:=lowB HK.out.2.1,re:=LZ,ro:=rfl }
   have C9:=IH.out _ aa lk (n+a.args.length) (H++a.args) s (env++opens n a.args) [] (.pointer (some ⟨ub,0,none⟩)) (.slice a8 (env.length+a.args.length) c8) .nilFunc w8 rM;rw [Int.natCast_add] at C9;have tY:=evSubs_take (f:=Qq d) (env:=env) (n:=n) (l:=l) HK.out.2.2.1 HK.out.1;rw [HI.out.evk] at tY;simp only [Lx] at tY;generalize hev:Qq d lk s (env++opens n a.args) (n+a.args.length) []=oev at *;have C9':=n7 C9;have H8:=n7 (n8 GK (n8 A9 (n8 tY hev)));clear C9 rM LZ NI GK iR A9 sP MK Ht tY hev lowB Gn LC;go_wp2_with fail
   (with_reducible refine C9'.out.mono ?_);rintro en w9 ⟨sh,Cu,Cf⟩
   cases oev with
   | none =>
     obtain ⟨NV,rfl,Fq⟩:=Cu rfl;have lM:x6 d l n o t ss y no env st=none:=by
      have:=H8.out.2.2.1;simp only [Option.bind_none] at this;unfold x6;rw [fp (k+1) _ _ _ this];rfl
     have Fk:w.cell? ⟨0,0,none⟩=some (.iface 237 (.pointer (some NV))):=by
      obtain ⟨a0,h0⟩:=HP.out.glob;have:=(H8.out.2.1.cell (n_ w _ h0) (fun e=>HP.out.ng e.symm)).trans h0;rw [this] at Fq;rw [h0];exact Fq
     have HF:=n7 (n8 lM (n8 (H8.out.2.1.trans sh) Fk));clear lM Fk sh Cu Cf Fq;go_wp2_with fail
     go_ret2
     exact kO.none HF.out.1 HF.out.2.1 HF.out.2.2
   | some x =>
     obtain ⟨v,rfl,ha9,Co⟩:=Cf x.1 x.2 rfl;obtain ⟨vb,rfl⟩:=zd Co;obtain ⟨B0,BZ,e⟩:=HI.out.own.slice;subst e;have hz8:=H8.out.1.size;have hz9:=sh.size;have J3:w9.heap[w.heap.size+1]? = some (.cells #[str [],.int .i64 (o:Nat),.slice B0 k BZ,.pointer none,.pointer none] 68 (0,0)):=by
      rw [sh.block _ (by omega) (by omega),H8.out.1.block _ (by omega)];exact HI.out.blk
     have N1:w9.heap[w.heap.size]? = some (.cells #[.int .i64 (o:Nat),.pointer (some ⟨kb,0,none⟩),.pointer none,.slice none 0 0] 165 (0,0)):=by
      rw [sh.block _ (by omega) (by omega),H8.out.1.block _ (by omega)];exact HI.out.box
     have Le:Own w9 33 1 (.slice B0 k BZ) k us:=HI.out.own.keep fun g o hg hh=>by
      have h1:=HI.out.fr g hg;have h2:=zZ hh;rw [sh.block g (by omega) (by omega),H8.out.1.block g h2];exact hh
     have hll:=ev_left _ _ _ _ _ _ _ _ (H8.out.2.2.2);have GA:=HI.out.lkl;obtain ⟨y0,y1,y2,y3,y4,yf⟩:=pz J3;have H9:=n7 (n8 sh (n8 ha9 (n8 Co (n8 J3 (n8 N1 Le)))));clear sh Cu Cf ha9 Co J3 N1 Le y0 y1 y3 y4 yf;go_wp2_with (at_builtin;refine zM rfl _ _ 66 rfl 33 (.pointer none) 1 8 Tryz.underlying66 Tryz.infoB rfl (by decide) (.slice B0 k BZ) k us rfl ?f1 _ 1 [.pointer (some ⟨vb,0,none⟩)] rfl ?f2 ?f3 ?f4 ?_)
     case f1=>exact H9.out.2.2.2.2.2.alloc _
     case f2=>exact zu.lit1 #[.pointer (some ⟨vb,0,none⟩)] rfl (by simp [OR]) _ (by simp)
     case f3=>unfold maxLen;omega
     case f4=>omega
     intro Gc GW Al Mc ie MP;have hz10:=ie.size;rw [zK] at hz10;have Bf:∀ i,(Ox B0 k BZ).ownBlock=some i->w.heap.size+2<=i/\i<wr.heap.size:=fun i e=>⟨HI.out.fr i e,HI.out.own.lt e⟩;have FK:Al.heap[w.heap.size+1]? = some (.cells #[str [],.int .i64 (o:Nat),.slice B0 k BZ,.pointer none,.pointer none] 68 (0,0)):=by
      rw [ie.block _ (by rw [zK];omega) (fun e=>by have:=Bf _ e;omega),Below.heap_alloc _ _ _ (by omega)];exact H9.out.2.2.2.1
     obtain ⟨y0,y1,y2,y3,y4,yf⟩:=pz FK;have yf2:=yf 2;have DX:∀ (g:Nat) (ob:Obj),g≠w.heap.size+1->Al.heap[g]? = some ob->(Al.setCell ⟨w.heap.size+1,2,none⟩ (.slice Gc (k+1) GW)).heap[g]? = some ob:=fun g ob hg hh=>by
      rw [rK _ _ _ _ (by show g≠w.heap.size+1;exact hg)];exact hh
     have past:∀ (g:Nat) (ob:Obj),(Ox B0 k BZ).ownBlock≠some g->w9.heap[g]? = some ob->Al.heap[g]? = some ob:=fun g ob hg hh=>by
      rw [ie.block g (by rw [zK];have:=zZ hh;omega) hg,Below.heap_alloc _ _ _ (zZ hh)];exact hh
     have rD:KInv F aa l n d o env t.args ss (.pointer (some ⟨kb,0,none⟩)) w (k+1) x.2 (outs++[x.1]) (.slice Gc (k+1) GW) (us++[.pointer (some ⟨vb,0,none⟩)]) (Al.setCell ⟨w.heap.size+1,2,none⟩ (.slice Gc (k+1) GW)):=by
      have DE:∀ g,(Ox Gc (k+1) GW).ownBlock=some g->(Ox B0 k BZ).ownBlock=some g\/w9.heap.size<g:=fun g hg=>by
       rcases MP g hg with h | h
       ·exact .inl h
       ·exact .inr (by omega)
      refine { evk:=H8.out.2.2.1,ol:=by rw [Ov,HI.out.ol];rfl,but:=?_,zw:=by simp [Qi];omega,apl:=?_,lkl:=by omega,box:=?_,blk:=?_,own:=?_,rep:=?_,fr:=fun g hg=>?_ }
      ·have h1:But (· = aa) w Al:=((H8.out.2.1.trans H9.out.1).alloc _).trans' ie fun i hi e=>by have:=Bf i e;omega
       exact h1.setCell (p:=⟨w.heap.size+1,2,none⟩) (.inr (by show w.heap.size<=w.heap.size+1;omega)) _
      ·exact DX _ _ (by omega) (past _ _ (fun e=>by have:=Bf _ e;omega) H9.out.2.1)
      ·exact DX _ _ (by omega) (past _ _ (fun e=>by have:=Bf _ e;omega) H9.out.2.2.2.2.1)
      ·rw [zg FK];rfl
      ·exact Mc.keep fun g ob hg hh=>DX _ _ (by
        rcases DE g hg with h | h
        ·have:=Bf g h;omega
        ·omega) hh
      ·rw [pL];refine zW.append ?_ (zW.one ?_)
       ·refine (Rep.keep fun b ob hf hh=>?_).2 _ _ HI.out.rep;have hb:=zZ hh;have hne:b≠aa/\b≠w.heap.size+1:=by
         rcases hf.1 with h | h
         ·exact ⟨HP.out.hF b h.1,by omega⟩
         ·omega
        refine ⟨⟨hf.1,fun e=>?_⟩,DX _ _ hne.2 (past _ _ hf.2 ?_)⟩
        ·rcases DE b e with h | h
         ·exact hf.2 h
         ·omega
        ·rw [H9.out.1.block b (by omega) hne.1,H8.out.1.block b hb];exact hh
       ·refine (Rep.keep fun b ob hf hh=>?_).1 _ _ H9.out.2.2.1;have hf:(((F b/\b<w.heap.size)\/w.heap.size+2<=b)/\(Ox B0 k BZ).ownBlock≠some b)\/w8.heap.size<=b:=hf;have hb:=zZ hh;have LD:(Ox B0 k BZ).ownBlock≠some b:=by
         rcases hf with h | h
         ·exact h.2
         ·intro e;have:=Bf b e;omega
        have Bh:((F b/\b<w.heap.size)\/w.heap.size+2<=b):=by
         rcases hf with h | h
         ·exact h.1
         ·exact .inr (by omega)
        refine ⟨⟨Bh,fun e=>?_⟩,DX _ _ (by rcases Bh with h | h <;> omega) (past _ _ LD hh)⟩;rcases DE b e with h | h
        ·exact LD h
        ·omega
      ·rcases DE g hg with h | h
       ·exact (Bf g h).1
       ·omega
     have HN:=n7 rD;clear rD DX past FK y0 y1 y3 y4 yf Mc ie MP Bf;go_wp2_with fail
     go_roundw
     case rel=>exact ⟨k+1,x.2,outs++[x.1],.slice Gc (k+1) GW,us++[.pointer (some ⟨vb,0,none⟩)],by omega,by go_num,HN.out⟩
     case measure=>simp [intOf];omega
  ·obtain rfl:k=ss.length:=by omega
   have sB:=HI.out.evk;rw [OT,List.take_of_length_le (by have:=NC.out;omega)] at sB
   have AFT:Hid (∀ (X:World) (l':Nat),But (· = aa) w X->Apl X aa l'->l'<=l ->
    Calls No 135 #[.bool true,.pointer (some ⟨b1,0,none⟩),.pointer (some ⟨b2,0,none⟩),.pointer (some ⟨b3,0,none⟩),.pointer (some ⟨b4,0,none⟩),.pointer (some ⟨b5,0,none⟩)] X (kO (fun i=>F i/\i<w.heap.size) aa (Qq d l' y env n st) X) /\
    Calls No 135 #[.bool false,.pointer (some ⟨b1,0,none⟩),.pointer (some ⟨b2,0,none⟩),.pointer (some ⟨b3,0,none⟩),.pointer (some ⟨b4,0,none⟩),.pointer (some ⟨b5,0,none⟩)] X (kO (fun i=>F i/\i<w.heap.size) aa (Qq d l' no env n st) X)):=by
    show ∀ (X:World) (l':Nat),_->_;intro X l' oV haX hlX;obtain ⟨⟨n1,n2,n3,n4,n5⟩,c1,r1,c2,c3,r3,c4,c5,r5⟩:=HC.out;have kX:∀ {b:Nat} {x:Value},F b->w.cell? ⟨b,0,none⟩=some x->X.cell? ⟨b,0,none⟩=some x:=fun hb hc=>(oV.cell (n_ w _ hc) (HP.out.hF _ hb)).trans hc;have iM:∀ b,(F b/\b<w.heap.size)->¬ (b=aa)/\(F b/\b<w.heap.size):=fun b hb=>⟨HP.out.hF b hb.1,hb⟩
    have key:=fun c hf=>after_any d IH.out (fun i=>F i/\i<w.heap.size) aa l' n H ⟨y,no,env⟩ st b1 b2 b3 b4 b5 bp ev5 on5 vv5 ss5 X c (HP.out.glob.but oV (fun e=>HP.out.ng e.symm)) (fun i hi=>HP.out.hF i hi.1) HP.out.ng haX (by have:=HP.out.ld;omega) HP.out.d20
     hf HP.out.hn (by show env.length+_<=_;omega) (by omega) (qP (by omega) _ HP.out.ok) (vg (by omega) _ HP.out.okg)
     (kX n1 c1) ((Rep.low r1).but oV iM) (kX n2 c2) (kX n3 c3) ((Rep.low r3).but oV iM) (kX n4 c4) (kX n5 c5) (uy.but oV iM _ _ (uy.low _ _ r5))
    exact ⟨key 116 HP.out.fy,key 102 HP.out.fn⟩
   have GA:=HI.out.lkl;have C1:=n7 (AFT.out wr lk HI.out.but HI.out.apl GA).1;have Cd:=HI.out.zw;obtain ⟨B0,BZ,e⟩:=HI.out.own.slice;subst e;have HFU:=n7 sB;clear sB;generalize MZ:Qq d lk y env n st=o1 at *;have HE1:=n7 MZ;clear MZ;go_wp2_with fail
   (with_reducible refine C1.out.mono ?_);rintro en w1 ⟨rW,sU,sY⟩
   clear C1;cases o1 with
   | none =>
     obtain ⟨NV,rfl,Fq⟩:=sU rfl;have lM:x6 d l n o t ss y no env st=none:=by
      unfold x6;rw [HFU.out];simp only [Lx];rw [HE1.out];rfl
     have Fk:w.cell? ⟨0,0,none⟩=some (.iface 237 (.pointer (some NV))):=by
      obtain ⟨a0,h0⟩:=HP.out.glob;have:=(HI.out.but.cell (n_ w _ h0) (fun e=>HP.out.ng e.symm)).trans h0;rw [this] at Fq;rw [h0];exact Fq
     have Am:=rW.size;have Ej:w1.heap[w.heap.size+1]? = some (.cells #[str [],.int .i64 (o:Nat),.slice B0 ss.length BZ,.pointer none,.pointer none] 68 (0,0)):=by
      rw [rW.block _ (by omega) (by omega)];exact HI.out.blk
     obtain ⟨_,_,_,y3,_,yf⟩:=pz Ej;have yf3:=yf 3;clear yf;have Ah:But (· = aa) w (w1.setCell ⟨w.heap.size+1,3,none⟩ (.pointer none)):=(HI.out.but.trans rW).setCell (p:=⟨w.heap.size+1,3,none⟩) (.inr (by show w.heap.size<=w.heap.size+1;omega)) _;have HF:=n7 (n8 lM (n8 Ah Fk));clear lM Fk rW sU sY Fq Ah Ej;go_wp2_with fail
     go_ret2
     exact kO.none HF.out.1 HF.out.2.1 HF.out.2.2
   | some z =>
     obtain ⟨v1,rfl,Eu,tX⟩:=sY z.1 z.2 rfl;obtain ⟨zb,rfl⟩:=zd tX;have hl1:=ev_left _ _ _ _ _ _ _ _ HE1.out;have Am:=rW.size;have Ej:w1.heap[w.heap.size+1]? = some (.cells #[str [],.int .i64 (o:Nat),.slice B0 ss.length BZ,.pointer none,.pointer none] 68 (0,0)):=by
      rw [rW.block _ (by omega) (by omega)];exact HI.out.blk
     obtain ⟨_,_,_,y3,_,yf⟩:=pz Ej;have yf3:=yf 3;clear yf;obtain ⟨W2,sC⟩:=zzN (w1.setCell ⟨w.heap.size+1,3,none⟩ (.pointer (some ⟨zb,0,none⟩)));have rY:But (· = aa) w W2:=by rw [<- sC];exact (HI.out.but.trans rW).setCell (p:=⟨w.heap.size+1,3,none⟩) (.inr (by show w.heap.size<=w.heap.size+1;omega)) _
     have Bw:∀ (g:Nat) (ob:Obj),g≠w.heap.size+1->w1.heap[g]? = some ob->W2.heap[g]? = some ob:=fun g ob hg hh=>by
      rw [<- sC,rK _ _ _ _ (by show g≠w.heap.size+1;exact hg)];exact hh
     have N2:W2.heap[w.heap.size+1]? = some (.cells #[str [],.int .i64 (o:Nat),.slice B0 ss.length BZ,.pointer (some ⟨zb,0,none⟩),.pointer none] 68 (0,0)):=by
      rw [<- sC,zg Ej];rfl
     have oU:Apl W2 aa z.2:=Bw _ _ (by omega) Eu;have C2:=n7 (AFT.out W2 z.2 rY oU (by omega)).2;have tg:W2.heap.size=w1.heap.size:=by rw [<- sC];simp [Qi]
     have Aj:=n7 tg;clear tg;have tx:Rep (fun i=>(F i/\i<w.heap.size)\/wr.heap.size<=i) W2 (k_ z.1) (.pointer (some ⟨zb,0,none⟩)):=(Rep.keep fun b ob hf hh=>⟨hf,Bw _ _ (by rcases hf with h | h <;> omega) hh⟩).1 _ _ tX;have Lf:Own W2 33 1 (.slice B0 ss.length BZ) ss.length us:=HI.out.own.keep fun g ob hg hh=>by
      have h1:=HI.out.fr g hg;exact Bw _ _ (by omega) (by rw [rW.block g (zZ hh) (by omega)];exact hh)
     have La:zW (fun i=>((F i/\i<w.heap.size)\/w.heap.size+2<=i)/\i≠aa) W2 (jU outs) us:=(Rep.keep fun b ob hf hh=>by
      have hne:b≠aa/\b≠w.heap.size+1:=by
       rcases hf.1 with h | h
       ·exact ⟨HP.out.hF b h.1,by omega⟩
       ·omega
      exact ⟨⟨hf.1,hne.1⟩,Bw _ _ hne.2 (by rw [rW.block b (zZ hh) hne.1];exact hh)⟩).2 _ _ HI.out.rep
     generalize MY:Qq d z.2 no env n st=o2 at *;have H2:=n7 (n8 rY (n8 N2 (n8 tx (n8 Lf (n8 La (n8 MY sC))))));clear rY N2 tx Lf La MY sC Bw rW sU sY Eu tX Ej oU;go_wp2_with fail
     rw [H2.out.2.2.2.2.2.2];(with_reducible refine C2.out.mono ?_);rintro en w3 ⟨rE,Bg,An⟩;clear C2;have ig:=rE.size;have Kn:=Aj.out;have GX:w3.heap[w.heap.size+1]? = some (.cells #[str [],.int .i64 (o:Nat),.slice B0 ss.length BZ,.pointer (some ⟨zb,0,none⟩),.pointer none] 68 (0,0)):=by
      rw [rE.block _ (by omega) (by omega)];exact H2.out.2.1
     clear Kn;obtain ⟨_,_,_,_,y4,yf⟩:=pz GX;have yf4:=yf 4;clear yf;cases o2 with
     | none =>
       obtain ⟨NV,rfl,Fq⟩:=Bg rfl;have lM:x6 d l n o t ss y no env st=none:=by
        unfold x6;rw [HFU.out];simp only [Lx];rw [HE1.out];simp only [Lx];rw [H2.out.2.2.2.2.2.1];rfl
       have Fk:w.cell? ⟨0,0,none⟩=some (.iface 237 (.pointer (some NV))):=by
        obtain ⟨a0,h0⟩:=HP.out.glob;have:=(H2.out.1.cell (n_ w _ h0) (fun e=>HP.out.ng e.symm)).trans h0;rw [this] at Fq;rw [h0];exact Fq
       have Ah:But (· = aa) w (w3.setCell ⟨w.heap.size+1,4,none⟩ (.pointer none)):=(H2.out.1.trans rE).setCell (p:=⟨w.heap.size+1,4,none⟩) (.inr (by show w.heap.size<=w.heap.size+1;omega)) _;have HF:=n7 (n8 lM (n8 Ah Fk));clear lM Fk rE Bg An Fq Ah GX;go_wp2_with fail
       go_ret2
       exact kO.none HF.out.1 HF.out.2.1 HF.out.2.2
     | some q =>
       obtain ⟨v3,rfl,Nx,lw⟩:=An q.1 q.2 rfl;obtain ⟨qb,rfl⟩:=zd lw;have Ho:x6 d l n o t ss y no env st=some (.ask o outs z.1 q.1,q.2):=by
        unfold x6;rw [HFU.out];simp only [Lx];rw [HE1.out];simp only [Lx];rw [H2.out.2.2.2.2.2.1];rfl
       have Ah:But (· = aa) w (w3.setCell ⟨w.heap.size+1,4,none⟩ (.pointer (some ⟨qb,0,none⟩))):=(H2.out.1.trans rE).setCell (p:=⟨w.heap.size+1,4,none⟩) (.inr (by show w.heap.size<=w.heap.size+1;omega)) _;have pastF:∀ (g:Nat) (ob:Obj),g≠w.heap.size+1->w3.heap[g]? = some ob->(w3.setCell ⟨w.heap.size+1,4,none⟩ (.pointer (some ⟨qb,0,none⟩))).heap[g]? = some ob:=fun g ob hg hh=>by
        rw [rK _ _ _ _ (by show g≠w.heap.size+1;exact hg)];exact hh
       have blkF:(w3.setCell ⟨w.heap.size+1,4,none⟩ (.pointer (some ⟨qb,0,none⟩))).heap[w.heap.size+1]? = some (.cells #[str [],.int .i64 (o:Nat),.slice B0 ss.length BZ,.pointer (some ⟨zb,0,none⟩),.pointer (some ⟨qb,0,none⟩)] 68 (0,0)):=by
        rw [zg GX];rfl
       have haF:Apl (w3.setCell ⟨w.heap.size+1,4,none⟩ (.pointer (some ⟨qb,0,none⟩))) aa q.2:=pastF _ _ (by omega) Nx;have Kn:=Aj.out
       have stay:∀ (b:Nat) (ob:Obj),b≠aa->b≠w.heap.size+1->W2.heap[b]? = some ob->(w3.setCell ⟨w.heap.size+1,4,none⟩ (.pointer (some ⟨qb,0,none⟩))).heap[b]? = some ob:=fun b ob h1 h2 hh =>
        pastF _ _ h2 (by rw [rE.block b (zZ hh) h1];exact hh)
       have E3:Rep (fun i=>F i\/w.heap.size<=i) (w3.setCell ⟨w.heap.size+1,4,none⟩ (.pointer (some ⟨qb,0,none⟩))) (k_ (.ask o outs z.1 q.1)) (.pointer (some ⟨w.heap.size+1,0,none⟩)):=by
        rw [k_,jw];refine ⟨_,_,rfl,.inr (by omega),blkF,?_⟩;simp only [zQ,zC,zH];have Ad:=HI.out.ol;refine ⟨_,_,rfl,rfl,_,_,rfl,rfl,_,_,rfl,?_,_,_,rfl,?_,_,_,rfl,?_,rfl⟩
        ·rw [Ad];refine Own.rep (xs:=us) (H2.out.2.2.2.1.keep fun g ob hg hh=>stay _ _ (by have:=HI.out.fr g hg;omega) (by have:=HI.out.fr g hg;omega) hh) (fun g hg=>.inr (by have:=HI.out.fr g hg;omega)) ?_;refine (Rep.keep fun b ob hf hh=>⟨?_,stay _ _ hf.2 (by rcases hf.1 with h | h <;> omega) hh⟩).2 _ _ H2.out.2.2.2.2.1;rcases hf.1 with h | h
         ·exact .inl h.1
         ·exact .inr (by omega)
        ·refine (Rep.keep fun b ob hf hh=>⟨?_,stay _ _ ?_ (by rcases hf with h | h <;> omega) hh⟩).1 _ _ H2.out.2.2.1
         ·rcases hf with h | h
          ·exact .inl h.1
          ·exact .inr (by omega)
         ·rcases hf with h | h
          ·exact HP.out.hF b h.1
          ·omega
        ·refine (Rep.keep fun b ob hf hh=>⟨?_,pastF _ _ ?_ hh⟩).1 _ _ lw
         ·rcases hf with h | h
          ·exact .inl h.1
          ·exact .inr (by omega)
         ·rcases hf with h | h <;> omega
       have HF:=n7 (n8 Ho (n8 Ah (n8 haF E3)));clear Ho Ah haF E3 stay blkF pastF rE Bg An Nx lw GX Kn;go_wp2_with fail
       go_ret2
       exact kO.some HF.out.1 HF.out.2.1 HF.out.2.2.1 HF.out.2.2.2
end Go.Proofs.YtdhaafoiokkbnabGreatDoor

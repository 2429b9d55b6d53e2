/- Walks of functions that the statement reaches, and plain words. No conditions. -/
import Derived.LaidEql
import Derived.Stop.Asserts
import Derived.RowKitTokens
import Derived.Test.YtepgfdhkkjfmhacGreatDoorQ5
set_option linter.unusedVariables false
set_option linter.unusedSimpArgs false
set_option maxHeartbeats 8000000
namespace Go.Proofs.YtepgfdhkkjfmhacGreatDoor
open Go.RowKit
mutual
def xu:Mn->List DV
 | .op o t=>[.val (.int .i64 (o:Nat)),qj t,.val (.pointer none),.val (.slice none 0 0)]
 | .bd _ b e=>[.val (.int .i64 0),.val (.pointer none),kD b,.sl 148 4 e.length (kM e)]
def kM:List Mn->List DV
 | []=>[]
 | m::ms=>xu m++kM ms
end
theorem vc (m:Mn):(xu m).length=4:=by cases m <;> simp [xu]
theorem xv:∀ ms:List Mn,(kM ms).length=ms.length*4
 | []=>by simp [kM]
 | m::ms=>by rw [kM,List.length_append,vc,xv ms];simp;omega
theorem jV:∀ (xs ys:List Mn),kM (xs++ys)=kM xs++kM ys
 | [],ys=>by simp [kM]
 | x::xs,ys=>by simp [kM,jV xs ys]
theorem encMs_one (m:Mn):kM [m]=xu m:=by simp [kM]
theorem zS.lit1 {w:World} {e:TypeId} {sz:Nat} (cs:Array Value) (hn:cs.size=sz) (hc:∀ u∈cs.toList,u.oneCell'=true) (g:Nat) (hg:g=w.heap.size):zS sz (.slice (some ⟨g,0,none⟩) 1 1) 1 cs.toList (w.alloc (.cells cs e)):=by
 subst hg
 refine ⟨by simp [hn],hc,.inl ⟨_,_,rfl,fun j u hu=>?_⟩⟩
 unfold Addr.add
 split
 ·subst j;simp;simpa using hu
 ·simp;simpa using hu
theorem Tryz.infoMn:(Tryz.prog.info? 148).map (fun i=>(i.zero,i.size,i.bytes))=some (some (.agg #[.int .i64 0,.pointer none,.pointer none,.slice none 0 0]),4,48):=by kernel_rfl
def FreshV (w:World) (e:TypeId) (sz n:Nat) (P:World->List Value->Prop) (en:Ending) (w':World):Prop :=
 ∃ a c xs,en=.returned (.slice a n c)/\Own w' e sz (.slice a n c) n xs/\P w' xs/\Below w.heap.size w w'/\∀ g,(Value.slice a n c).ownBlock=some g->w.heap.size<=g
theorem gX:∀ (ts:List Ty) (n:Nat) (t:Ty),zq n (ts++[t])=zq n ts++[.op (n+ts.length) t]
 | [],n,t=>by simp [zq]
 | a::ts,n,t=>by rw [List.cons_append,zq,zq,gX ts (n+1) t,List.cons_append,List.length_cons,show n+1+ts.length=n+(ts.length+1) from by omega]
theorem y7 {ts:List Ty} {n k:Nat} {t:Ty} (h:ts[k]? = some t):zq n (ts.take (k+1))=zq n (ts.take k)++[.op (n+k) t]:=by
 have hk:=(List.getElem?_eq_some_iff.1 h).1
 rw [List.take_add_one,h]
 simp only [Option.toList_some]
 rw [gX,List.length_take,Nat.min_eq_left (by omega)]
theorem jh {F:Nat->Prop} {w:World} {t:Ty} {v:Value} (h:Rep F w (qj t) v):∃ b,v=.pointer (some ⟨b,0,none⟩):=by
 cases t with
 | mk ts=>rw [qj,jU] at h;obtain ⟨b,c,h,_⟩:=h;exact ⟨b,h⟩
set_option maxRecDepth 100000 in
theorem wV (F:Nat->Prop) (n:Nat) (ts:List Ty) (kv:Value) (w:World) (h:Rep F w (.sl 53 1 ts.length (kZ ts)) kv) (hl:ts.length<=1000) (hn:n<=1000000) :
 Calls Tryz.prog 88 #[.int .i64 (n:Nat),kv] w (FreshV w 148 4 ts.length fun w' xs=>zH F w' (kM (zq n ts)) xs):=by
 obtain ⟨ka,kc,e,_,_,bJ⟩:=zE h
 subst e
 have H:=gl bJ;clear bJ h
 go_enter Tryz.func88,Tryz.ntmps88
 go_wp2_with fail
 go_loopw [5,10] (fun o i wr=>∃ k:Nat,k<=ts.length/\i=.int .i64 k/\∃ a c xs,o=.slice a k c/\Own wr 148 4 (.slice a k c) k xs/\zH (fun i=>F i/\i<w.heap.size) wr (kM (zq n (ts.take k))) xs/\Below w.heap.size w wr/\(∀ g,(Value.slice a k c).ownBlock=some g->w.heap.size<=g)) (fun _ i _=>ts.length-(intOf i).toNat)
 case atStart=>exact ⟨0,Nat.zero_le _,rfl,none,0,[],rfl,World.ownsRow_nil _ _ _ _,by simp [zq,kM,zB],hG _ _,fun g h=>by simp [Value.ownBlock] at h⟩
 case round =>
  obtain ⟨k,hk,rfl,a,c,xs,rfl,ho,hr,hb,hf⟩:=hrel
  have HO:=gl ho;have HF:=gl hf;have HB:=gl hb;have HR:=gl hr
  clear ho hf hb hr
  by_cases bY:k<ts.length
  ·have cz:(k:Int)<(ts.length:Int):=by omega
   obtain ⟨b,o,u,d,e,_,f7,hd,hc,be⟩:=H.out k bY
   subst e
   rw [vS,Option.map_eq_some_iff] at hd
   obtain ⟨t,ht,rfl⟩:=hd
   obtain ⟨ub,rfl⟩:=jh be
   have q0:=(HB.out.cell (p:=⟨b,o+k,none⟩) f7).trans hc
   have HT:=gl (go ht be);clear ht be hc
   have rJ:IntKind.i64.wrap ((n:Int)+(k:Int))=(n:Int)+(k:Int):=IntWalk.i64_in _ (by omega)
   clear rJ
   go_wp2_with (at_builtin;refine zP rfl _ _ 145 rfl 148 (.agg #[.int .i64 0,.pointer none,.pointer none,.slice none 0 0]) 4 48 Tryz.underlying145 Tryz.infoMn rfl (by decide) (.slice a k c) k xs rfl ?c1 _ 1 [.int .i64 ((n:Int)+(k:Int)),.pointer (some ⟨ub,0,none⟩),.pointer none,.slice none 0 0] rfl ?c2 ?c3 ?c4 ?_)
   case c1=>exact HO.out.alloc _
   case c2=>exact zS.lit1 #[.int .i64 ((n:Int)+(k:Int)),.pointer (some ⟨ub,0,none⟩),.pointer none,.slice none 0 0] rfl (by simp [Value.oneCell']) _ (by simp)
   case c3=>unfold maxLen;omega
   case c4=>omega
   intro a' c' w7 bI bV bH
   have bq:Below w.heap.size w w7:=by
    have h1:=HB.out
    refine (h1.alloc h1.size _).trans (bV.toBelow (by rw [zK];have:=h1.size;omega) fun i hi e=>?_)
    have:=HF.out i e;omega
   have cu:∀ g,(Value.slice a' (k+1) c').ownBlock=some g->w.heap.size<=g:=by
    intro g h
    rcases bH g h with h | h
    ·exact HF.out g h
    ·have h2:=HB.out.size
     omega
   have dE:zH (fun i=>F i/\i<w.heap.size) w7 (kM (zq n (ts.take (k+1)))) (xs++[.int .i64 ((n:Int)+(k:Int)),.pointer (some ⟨ub,0,none⟩),.pointer none,.slice none 0 0]):=by
    rw [y7 HT.out.1,jV,encMs_one]
    refine zH.append ?_ ?_
    ·exact (Rep.keep fun b o hf ho=>⟨hf,by rw [bq.block b hf.2,<- HB.out.block b hf.2];exact ho⟩).2 _ _ HR.out
    ·rw [xu]
     refine zQ.2 ⟨_,_,rfl,zF.2 (by rw [Int.natCast_add]),zQ.2 ⟨_,_,rfl,(Rep.keep fun b o hf ho=>⟨⟨hf,zZ ho⟩,by rw [bq.block b (zZ ho)];exact ho⟩).1 _ _ HT.out.2,zQ.2 ⟨_,_,rfl,zF.2 rfl,zQ.2 ⟨_,_,rfl,zF.2 rfl,zB.2 rfl⟩⟩⟩⟩
   have HA:=gl (go bI (go dE (go bq cu)));clear bI dE bq cu bV bH
   go_wp2_with fail
   go_roundw
   case rel=>exact ⟨k+1,by omega,by go_num,a',c',_,rfl,HA.out.1,HA.out.2.1,HA.out.2.2.1,HA.out.2.2.2⟩
   case measure=>simp [intOf];omega
  ·obtain rfl:k=ts.length:=by omega
   go_wp2_with fail
   go_ret
   have h0:=HR.out
   rw [List.take_length] at h0
   exact ⟨a,c,xs,rfl,HO.out,(Rep.keep fun b o hf ho=>⟨hf.1,ho⟩).2 _ _ h0,HB.out,HF.out⟩
end Go.Proofs.YtepgfdhkkjfmhacGreatDoor
namespace Go.Proofs.YtepgfdhkkjfmhacGreatDoor
open Go.RowKit Go.Extern.Stop Go.Stop Go.Extern Go.Extern.Rtype
theorem Tryz.isTypeOf (v:Value) (w:World):(Extern.ReflectliteType.typeOf #[.iface 315 v]).run Tryz.prog w=.ok (.iface 276 (.agg #[.pointer (some ⟨9,315,none⟩)])) w:=by kernel_rfl
theorem Tryz.callCmp (w:World):Sem.run Tryz.prog (callFunc 239 #[.agg #[.pointer (some ⟨9,315,none⟩)]]) w=.ok (.value (.bool true)) w:=by
 rw [@run_callFunc_extern Tryz.prog 239 _ (Extern.ReflectliteType.method fun t=>do noPackHeld "Comparable" t;pure (.bool (<- typeInfo t).comparable)) Tryz.func239 (by kernel_rfl) (by kernel_rfl) (by kernel_rfl) (by kernel_rfl)]
 have h:((Extern.ReflectliteType.method fun t=>do noPackHeld "Comparable" t;pure (.bool (<- typeInfo t).comparable)) #[.agg #[.pointer (some ⟨9,315,none⟩)]]).run Tryz.prog w=.ok (.bool true) w:=by kernel_rfl
 rw [h];rfl
theorem Tryz.isMethodComparable (v:Value) (w:World):(Go.method 449 276 v "Comparable").run Tryz.prog w=.ok (239,v) w:=by kernel_rfl
theorem Tryz.isComp:(Tryz.prog.info? 315).map (·.comparable)=some true:=by kernel_rfl
theorem Tryz.isSize:(Tryz.prog.info? 317).map (·.size)=some 1:=by kernel_rfl
theorem is_nil (b:Addr) (w:World):Calls Tryz.prog 118 #[.nilIface,.iface 315 (.pointer (some b))] w fun e w'=>e=.returned (.bool false)/\w'=w:=by
 have hn:=run_eql_iface_nil_left (P:=Tryz.prog) w 315 (.pointer (some b)) Tryz.underlying69
 go_enter Tryz.func118,Tryz.ntmps118
 go_wp2
 go_ret
 exact ⟨rfl,rfl⟩
set_option maxRecDepth 100000 in
theorem is_same (a:Addr) (w:World) :
 Calls Tryz.prog 118 #[.iface 315 (.pointer (some a)),.iface 315 (.pointer (some a))] w fun e w'=>e=.returned (.bool true)/\w'=w:=by
 obtain ⟨i,hi,BP⟩:=Option.map_eq_some_iff.1 Tryz.isComp
 obtain ⟨j,hj,hjs⟩:=Option.map_eq_some_iff.1 Tryz.isSize
 have h8:=@run_callFunc_extern Tryz.prog 153 _ Extern.ReflectliteType.typeOf Tryz.func153 (by kernel_rfl) (by kernel_rfl) (by kernel_rfl) (by kernel_rfl)
 have tT:=Tryz.isTypeOf
 have cT:=Tryz.callCmp
 have mR:=Tryz.isMethodComparable
 have n_:=run_eql_iface_ptr_same (P:=Tryz.prog) w a Tryz.underlying69 Tryz.underlying315 hi BP hj
 clear hi BP hj hjs
 go_enter Tryz.func118,Tryz.ntmps118
 go_wp2
 refine wp_loop_rounds 1 ?_
 rw [rounds_succ]
 go_wp2
 go_ret
 exact ⟨rfl,rfl⟩
def ju (w:World):Prop:=∃ a,w.cell? ⟨0,0,none⟩=some (.iface 315 (.pointer (some a)))
theorem ju.but {m:Nat->Prop} {w w':World} (h:ju w) (hb:But m w w') (hm:¬ m 0):ju w':=by
 obtain ⟨a,h⟩:=h
 exact ⟨a,(hb.cell (hU w _ h) hm).trans h⟩
theorem ju.below {w w':World} (h:ju w) (hb:Below w.heap.size w w'):ju w':=h.but (m:=fun _=>False) (But.ofBelow hb) (fun h=>h)
def Apl (w:World) (aa l:Nat):Prop:=w.heap[aa]? = some (.cells #[.int .i64 (l:Nat)] 178 (0,0))
theorem Apl.cell {w:World} {aa l:Nat} (h:Apl w aa l):w.cell? ⟨aa,0,none⟩=some (.int .i64 (l:Nat))/\w.frozen? ⟨aa,0,none⟩=false/\aa<w.heap.size:=by
 unfold Apl at h
 exact ⟨by simp [World.cell?,h],by simp [World.frozen?,h],zZ h⟩
theorem Apl.below {w w':World} {aa l:Nat} (h:Apl w aa l) (hb:Below w.heap.size w w'):Apl w' aa l:=by unfold Apl;rw [hb.block aa (zZ h)];exact h
theorem Rep.low {F:Nat->Prop} {w:World} {d:DV} {v:Value} (h:Rep F w d v):Rep (fun i=>F i/\i<w.heap.size) w d v:=(Rep.keep fun _ _ hf ho=>⟨⟨hf,zZ ho⟩,ho⟩).1 _ _ h
theorem zH.low {F:Nat->Prop} {w:World} {d:List DV} {v:List Value} (h:zH F w d v):zH (fun i=>F i/\i<w.heap.size) w d v:=(Rep.keep fun _ _ hf ho=>⟨⟨hf,zZ ho⟩,ho⟩).2 _ _ h
theorem Rep.weak {F G:Nat->Prop} {w:World} {d:DV} {v:Value} (h:Rep F w d v) (k:∀ i,F i->G i):Rep G w d v:=(Rep.keep fun _ _ hf ho=>⟨k _ hf,ho⟩).1 _ _ h
def jC (F:Nat->Prop) (w:World) (aa n:Nat):List Gf->Value->Prop
 | [],v=>v=.nilFunc
 | f :: st,v=>∃ (b1 b2 b3 b4 b5:Nat) (bp ev on:Value) (vv:Nat) (ss:List Bd),v=.func (.func 151) #[] #[.pointer (some ⟨b1,0,none⟩),.pointer (some ⟨b2,0,none⟩),.pointer (some ⟨b3,0,none⟩),.pointer (some ⟨b4,0,none⟩),.pointer (some ⟨b5,0,none⟩)] /\
     (F b1/\F b2/\F b3/\F b4/\F b5)/\w.cell? ⟨b1,0,none⟩=some bp/\Rep F w (kD (.ask vv ss f.yes f.no)) bp/\w.cell? ⟨b2,0,none⟩=some (.pointer (some ⟨aa,0,none⟩))/\w.cell? ⟨b3,0,none⟩=some ev/\Rep F w (.sl 148 4 f.env.length (kM f.env)) ev/\w.cell? ⟨b4,0,none⟩=some (.int .i64 (n:Nat))/\w.cell? ⟨b5,0,none⟩=some on/\jC F w aa n st on
theorem jC.but {F G:Nat->Prop} {w w':World} {aa n:Nat} {m:Nat->Prop} (hb:But m w w') (hF:∀ i,F i->¬ m i/\G i):∀ (st:List Gf) (v:Value),jC F w aa n st v->jC G w' aa n st v
 | [],v,h=>h
 | f::st,v,h=>by
   obtain ⟨b1,b2,b3,b4,b5,bp,ev,on,vv,ss,e,⟨n1,n2,n3,n4,n5⟩,c1,r1,c2,c3,r3,c4,c5,r5⟩:=h
   have k:∀ {b:Nat} {u:Value},F b->w.cell? ⟨b,0,none⟩=some u->w'.cell? ⟨b,0,none⟩=some u:=fun hn hc=>(hb.cell (hU w _ hc) (hF _ hn).1).trans hc
   exact ⟨b1,b2,b3,b4,b5,bp,ev,on,vv,ss,e,⟨(hF _ n1).2,(hF _ n2).2,(hF _ n3).2,(hF _ n4).2,(hF _ n5).2⟩,k n1 c1,r1.but hb hF,k n2 c2,k n3 c3,r3.but hb hF,k n4 c4,k n5 c5,jC.but hb hF st on r5⟩
theorem jC.low {F:Nat->Prop} {w:World} {aa n:Nat}:∀ (st:List Gf) (v:Value),jC F w aa n st v->jC (fun i=>F i/\i<w.heap.size) w aa n st v
 | [],v,h=>h
 | f::st,v,h=>by
   obtain ⟨b1,b2,b3,b4,b5,bp,ev,on,vv,ss,e,⟨n1,n2,n3,n4,n5⟩,c1,r1,c2,c3,r3,c4,c5,r5⟩:=h
   have lt:∀ {b:Nat} {u:Value},w.cell? ⟨b,0,none⟩=some u->b<w.heap.size:=fun hc=>hU w _ hc
   exact ⟨b1,b2,b3,b4,b5,bp,ev,on,vv,ss,e,⟨⟨n1,lt c1⟩,⟨n2,lt c2⟩,⟨n3,lt c3⟩,⟨n4,lt c4⟩,⟨n5,lt c5⟩⟩,c1,Rep.low r1,c2,c3,Rep.low r3,c4,c5,jC.low st on r5⟩
mutual
def okM (B:Nat):Mn->Prop
 | .op o t=>zY t<=15/\o<=B
 | .bd t _ e=>zY t<=15/\e.length<=B/\jo B e
def jo (B:Nat):List Mn->Prop
 | []=>True
 | m::ms=>okM B m/\jo B ms
end
mutual
theorem okM_mono {B C:Nat} (h:B<=C):∀ m,okM B m->okM C m
 | .op o t,k=>by rw [okM] at *;exact ⟨k.1,by omega⟩
 | .bd t b e,k=>by rw [okM] at *;exact ⟨k.1,by omega,ze h e k.2.2⟩
theorem ze {B C:Nat} (h:B<=C):∀ ms,jo B ms->jo C ms
 | [],_=>by rw [jo];trivial
 | m::ms,k=>by rw [jo] at *;exact ⟨okM_mono h m k.1,ze h ms k.2⟩
end
theorem qJ {B:Nat}:∀ (a b:List Mn),jo B a->jo B b->jo B (a++b)
 | [],b,_,h=>h
 | x::a,b,h,k=>by rw [jo] at h;exact ⟨h.1,qJ a b h.2 k⟩
theorem yj {B:Nat}:∀ (a:List Mn),jo B a->∀ (k:Nat) (m:Mn),a[k]? = some m->okM B m
 | [],_,k,m,h=>by simp at h
 | x::a,hs,k,m,h=>by
   rw [jo] at hs
   cases k with
   | zero=>simp at h;subst h;exact hs.1
   | succ k=>exact yj a hs.2 k m (by simpa using h)
theorem qZ {B:Nat}:∀ (ts:List Ty) (n:Nat),(∀ t∈ts,zY t<=15)->n+ts.length<=B+1->jo B (zq n ts)
 | [],n,_,_=>by rw [zq];trivial
 | t::ts,n,h,hn=>by
   simp only [List.length_cons] at hn
   rw [zq,jo];exact ⟨by rw [okM];exact ⟨h t (by simp),by omega⟩,qZ ts (n+1) (fun x hx=>h x (by simp [hx])) (by omega)⟩
theorem uP {B:Nat} {env:List Mn} (he:jo B env) (hl:env.length<=B):∀ (ts:List Ty) (ss:List Bd),(∀ t∈ts,zY t<=15)->jo B (kL env ts ss)
 | [],ss,_=>by
   rw [kL]
   ·trivial
   ·intros;contradiction
 | t::ts,[],_=>by
   rw [kL]
   ·trivial
   ·intros;contradiction
 | t::ts,s::ss,h=>by rw [kL,jo];exact ⟨by rw [okM];exact ⟨h t (by simp),hl,he⟩,uP he hl ts ss (fun x hx=>h x (by simp [hx]))⟩
def okGs (B:Nat):List Gf->Prop
 | []=>True
 | f::fs=>f.env.length<=B/\jo B f.env/\okGs B fs
theorem qt {B C:Nat} (h:B<=C):∀ fs,okGs B fs->okGs C fs
 | [],_=>trivial
 | f::fs,k=>⟨by have:=k.1;omega,ze h _ k.2.1,qt h fs k.2.2⟩
theorem zj {t:Ty} (h:zY t<=15):(∀ a∈t.args,zY a<=15)/\t.args.length<=15:=by
 have hm:=kN t
 constructor
 ·intro a ha
  have key:∀ ts:List Ty,a∈ts->1+zY a<=zk ts:=by
   intro ts
   induction ts with
   | nil=>intro h;simp at h
   | cons x xs ih =>
     intro h
     rcases List.mem_cons.1 h with rfl | h
     ·simp only [zk];omega
     ·have:=ih h;simp only [zk];omega
  have:=key _ ha;omega
 ·have:=zl t.args;omega
def zx (F:Nat->Prop) (aa:Nat) (o:Option (Bd×Nat)) (w:World) (en:Ending) (w':World):Prop :=
 But (· = aa) w w'/\(o=none->∃ a,en=.returned (.tuple #[.pointer none,.iface 315 (.pointer (some a))])/\w.cell? ⟨0,0,none⟩=some (.iface 315 (.pointer (some a)))) /\
  (∀ out l,o=some (out,l)->∃ v,en=.returned (.tuple #[v,.nilIface])/\Apl w' aa l/\Rep (fun i=>F i\/w.heap.size<=i) w' (kD out) v)
theorem zx.none {F:Nat->Prop} {aa:Nat} {o:Option (Bd×Nat)} {w w':World} {a:Addr} (ho:o=.none) (hb:But (· = aa) w w') (hc:w.cell? ⟨0,0,none⟩=some (.iface 315 (.pointer (some a)))) :
 zx F aa o w (.returned (.tuple #[.pointer none,.iface 315 (.pointer (some a))])) w' :=
 ⟨hb,fun _=>⟨a,rfl,hc⟩,fun _ _ h=>by rw [ho] at h;simp at h⟩
theorem zx.some {F:Nat->Prop} {aa:Nat} {o:Option (Bd×Nat)} {w w':World} {out:Bd} {l:Nat} {v:Value} (ho:o=.some (out,l)) (hb:But (· = aa) w w') (ha:Apl w' aa l) (hr:Rep (fun i=>F i\/w.heap.size<=i) w' (kD out) v) :
 zx F aa o w (.returned (.tuple #[v,.nilIface])) w' :=
 ⟨hb,fun h=>by rw [ho] at h;simp at h,fun _ _ h=>by rw [ho] at h;simp at h;obtain ⟨rfl,rfl⟩:=h;exact ⟨v,rfl,ha,hr⟩⟩
structure ui (F:Nat->Prop) (aa l d n:Nat) (H:List Ty) (b:Bd) (env:List Mn) (st:List Gf) (bv ev on:Value) (w:World):Prop where
 glob:ju w
 hF:∀ i,F i->i≠aa
 ng:aa≠0
 apl:Apl w aa l
 ld:l<=d
 d20:d<=20000
 fit:kn H b env st
 hn:H.length=n
 el:env.length+16*d<=1000000
 nl:n+16*d<=1000000
 ok:jo (1000000-16*d) env
 okg:okGs (1000000-16*d) st
 rb:Rep F w (kD b) bv
 re:Rep F w (.sl 148 4 env.length (kM env)) ev
 ro:jC F w aa n st on
def uT (d:Nat):Prop:=∀ (F:Nat->Prop) (aa l n:Nat) (H:List Ty) (b:Bd) (env:List Mn) (st:List Gf) (bv ev on:Value) (w:World),ui F aa l d n H b env st bv ev on w ->
 Calls Tryz.prog 117 #[.pointer (some ⟨aa,0,none⟩),bv,ev,.int .i64 (n:Nat),on] w (zx F aa (Go.Proofs.YtepgfdhkkjfmhacGreatDoor.ev d l b env n st) w)
theorem after_any (d:Nat) (ih:uT d) (F:Nat->Prop) (aa l n:Nat) (H:List Ty) (f:Gf) (st:List Gf) (b1 b2 b3 b4 b5:Nat) (bp ev on:Value) (vv:Nat) (ss:List Bd) (w:World) (c:UInt8) (hg:ju w) (hF:∀ i,F i->i≠aa) (hng:aa≠0) (ha:Apl w aa l) (mu:l<=d) (hd:d<=20000)
 (hf:kn H (if c=116 then f.yes else f.no) f.env st) (hn:H.length=n) (ez:f.env.length+16*d<=1000000) (fb:n+16*d<=1000000) (cW:jo (1000000-16*d) f.env) (lK:okGs (1000000-16*d) st)
 (c1:w.cell? ⟨b1,0,none⟩=some bp) (r1:Rep F w (kD (.ask vv ss f.yes f.no)) bp) (c2:w.cell? ⟨b2,0,none⟩=some (.pointer (some ⟨aa,0,none⟩))) (c3:w.cell? ⟨b3,0,none⟩=some ev) (r3:Rep F w (.sl 148 4 f.env.length (kM f.env)) ev)
 (c4:w.cell? ⟨b4,0,none⟩=some (.int .i64 (n:Nat))) (c5:w.cell? ⟨b5,0,none⟩=some on) (r5:jC F w aa n st on) :
 Calls Tryz.prog 151 #[.bool (decide (c=116)),.pointer (some ⟨b1,0,none⟩),.pointer (some ⟨b2,0,none⟩),.pointer (some ⟨b3,0,none⟩),.pointer (some ⟨b4,0,none⟩),.pointer (some ⟨b5,0,none⟩)] w (zx F aa (Go.Proofs.YtepgfdhkkjfmhacGreatDoor.ev d l (if c=116 then f.yes else f.no) f.env n st) w):=by
 obtain ⟨bb,sl,yv,nv,rfl,_,bD,_,ry,rn⟩:=vL r1
 have q3:w.cell? ⟨bb,3,none⟩=some yv:=by simp [World.cell?,bD]
 have q4:w.cell? ⟨bb,4,none⟩=some nv:=by simp [World.cell?,bD]
 have IH:=gl ih
 have key:∀ (b:Bd) (bv:Value),kn H b f.env st->Rep F w (kD b) bv->Calls Tryz.prog 117 #[.pointer (some ⟨aa,0,none⟩),bv,ev,.int .i64 (n:Nat),on] w (zx F aa (Go.Proofs.YtepgfdhkkjfmhacGreatDoor.ev d l b f.env n st) w) :=
  fun b bv hf hr=>IH.out F aa l n H b f.env st bv ev on w ⟨hg,hF,hng,ha,mu,hd,hf,hn,ez,fb,cW,lK,hr,r3,r5⟩
 by_cases hc:c=116
 ·rw [if_pos hc] at hf ⊢
  rw [decide_eq_true hc]
  have K0:=key _ _ hf ry
  generalize Go.Proofs.YtepgfdhkkjfmhacGreatDoor.ev d l f.yes f.env n st=o at *
  have K:=gl K0
  clear key K0 hf ry rn r1 r3 r5 bD IH ih cW lK hg hF ha hn hc
  go_enter Tryz.func151,Tryz.ntmps151
  go_wp2_with fail
  (with_reducible refine K.out.mono ?_)
  rintro en w1 ⟨bQ,b8,cQ⟩
  cases o with
  | none =>
    obtain ⟨a,rfl,hc⟩:=b8 rfl
    have HB:=gl (go bQ hc);clear bQ b8 cQ hc
    go_wp2_with fail
    go_ret2
    exact zx.none rfl HB.out.1 HB.out.2
  | some x =>
    obtain ⟨v,rfl,ha,hr⟩:=cQ x.1 x.2 rfl
    have HB:=gl (go bQ (go ha hr));clear bQ b8 cQ ha hr
    go_wp2_with fail
    go_ret2
    exact zx.some rfl HB.out.1 HB.out.2.1 HB.out.2.2
 ·rw [if_neg hc] at hf ⊢
  rw [decide_eq_false hc]
  have K0:=key _ _ hf rn
  generalize Go.Proofs.YtepgfdhkkjfmhacGreatDoor.ev d l f.no f.env n st=o at *
  have K:=gl K0
  clear key K0 hf ry rn r1 r3 r5 bD IH ih cW lK hg hF ha hn hc
  go_enter Tryz.func151,Tryz.ntmps151
  go_wp2_with fail
  (with_reducible refine K.out.mono ?_)
  rintro en w1 ⟨bQ,b8,cQ⟩
  cases o with
  | none =>
    obtain ⟨a,rfl,hc⟩:=b8 rfl
    have HB:=gl (go bQ hc);clear bQ b8 cQ hc
    go_wp2_with fail
    go_ret2
    exact zx.none rfl HB.out.1 HB.out.2
  | some x =>
    obtain ⟨v,rfl,ha,hr⟩:=cQ x.1 x.2 rfl
    have HB:=gl (go bQ (go ha hr));clear bQ b8 cQ ha hr
    go_wp2_with fail
    go_ret2
    exact zx.some rfl HB.out.1 HB.out.2.1 HB.out.2.2
theorem qr {F:Nat->Prop} {w:World}:∀ (ms:List Mn) (us:List Value),zH F w (kM ms) us->∀ u∈us,u.oneCell'=true
 | [],us,h,u,hu=>by rw [kM,zB] at h;subst h;simp at hu
 | m::ms,us,h,u,hu=>by
   rw [kM] at h
   obtain ⟨h1,h2⟩:=h.split
   rw [vc] at h1 h2
   rw [<- List.take_append_drop 4 us] at hu
   rcases List.mem_append.1 hu with hu | hu
   ·cases m with
    | op o t =>
      simp only [xu,zQ,zB,zF] at h1
      obtain ⟨_,_,e,rfl,kv,_,rfl,hk,_,_,rfl,rfl,_,_,rfl,rfl,rfl⟩:=h1
      rw [e] at hu
      obtain ⟨kb,rfl⟩:=jh hk
      simp only [List.mem_cons,List.not_mem_nil,or_false] at hu
      rcases hu with rfl | rfl | rfl | rfl <;> rfl
    | bd t b en =>
      simp only [xu,zQ,zB,zF] at h1
      obtain ⟨_,_,e,rfl,_,_,rfl,rfl,bv,_,rfl,hk,sv,_,rfl,hs,rfl⟩:=h1
      rw [e] at hu
      obtain ⟨kb,rfl⟩:=zy hk
      rw [zp] at hs
      obtain ⟨_,a,c,rfl,_⟩:=hs
      simp only [List.mem_cons,List.not_mem_nil,or_false] at hu
      rcases hu with rfl | rfl | rfl | rfl <;> rfl
   ·exact qr ms _ h2 u hu
theorem mean_at {F:Nat->Prop} {w:World} {env:List Mn} {ev:Value} (h:Rep F w (.sl 148 4 env.length (kM env)) ev) {v:Nat} {m:Mn} (hc:env[v]? = some m) :
 ∃ b o cap x0 x1 x2 x3,ev=.slice (some ⟨b,o,none⟩) env.length cap/\F b/\b<w.heap.size/\w.cell? ⟨b,o+v*4,none⟩=some x0/\w.cell? ⟨b,o+v*4+1,none⟩=some x1/\w.cell? ⟨b,o+v*4+2,none⟩=some x2/\w.cell? ⟨b,o+v*4+3,none⟩=some x3/\zH F w (xu m) [x0,x1,x2,x3]:=by
 have hv:=(List.getElem?_eq_some_iff.1 hc).1
 rw [zp] at h
 obtain ⟨hl,a,cap,rfl,hn,hz,h⟩:=h
 rcases h with h0 | ⟨b,o,cs,fr,rfl,hb,hcs,hr⟩
 ·omega
 have mT:kM env=kM (env.take v)++(xu m++kM (env.drop (v+1))):=by
  have e:env=env.take v++m::env.drop (v+1):=by
   have:env[v]=m:=(List.getElem?_eq_some_iff.1 hc).2
   rw [<- this,List.getElem_cons_drop,List.take_append_drop]
  conv=>lhs;rw [e]
  rw [jV,kM]
 rw [mT] at hr
 have h2:=hr.split.2
 rw [xv,List.length_take,Nat.min_eq_left (by omega)] at h2
 have h3:=h2.split.1
 rw [vc] at h3
 have hlen:=h3.length
 rw [vc] at hlen
 obtain ⟨x0,x1,x2,x3,e1⟩:∃ x0 x1 x2 x3,(((cs.toList.drop o).take (env.length*4)).drop (v*4)).take 4=[x0,x1,x2,x3]:=by
  match hq:(((cs.toList.drop o).take (env.length*4)).drop (v*4)).take 4,hlen with
  | [a,b,c,d],_=>exact ⟨a,b,c,d,rfl⟩
 rw [e1] at h3
 have get:∀ (j:Nat) (u':Value),j<4->[x0,x1,x2,x3][j]? = some u'->w.cell? ⟨b,o+v*4+j,none⟩=some u':=by
  intro j u' hj h
  rw [<- e1,List.getElem?_take,if_pos hj,List.getElem?_drop,List.getElem?_take,if_pos (by omega),List.getElem?_drop] at h
  simp only [World.cell?,hcs]
  simpa [Nat.add_assoc] using h
 exact ⟨b,o,cap,x0,x1,x2,x3,rfl,hb,zZ hcs,get 0 _ (by omega) rfl,get 1 _ (by omega) rfl,get 2 _ (by omega) rfl,get 3 _ (by omega) rfl,h3⟩
theorem we (f:Nat->Bd->List Mn->Nat->List Gf->Option (Bd×Nat)) (env:List Mn) (n:Nat) (t:Ty) (s:Bd):∀ (ts:List Ty) (ss:List Bd) (l:Nat),ts.length=ss.length ->
 zt f env n l (ts++[t]) (ss++[s])=(zt f env n l ts ss).bind fun x=>(f x.2 s (env++zq n t.args) (n+t.args.length) []).bind fun y=>some (x.1++[y.1],y.2)
 | [],[],l,_=>by
   simp only [List.nil_append,zt,Option.bind_eq_bind,Option.bind_some]
 | [],s'::ss,l,h=>by simp at h
 | t'::ts,[],l,h=>by simp at h
 | t'::ts,s'::ss,l,h=>by
   simp only [List.cons_append,zt,Option.bind_eq_bind]
   cases h1:f l s' (env++zq n t'.args) (n+t'.args.length) [] with
   | none=>rfl
   | some x =>
     simp only [Option.bind_some]
     rw [we f env n t s ts ss x.2 (by simpa using h)]
     cases h2:zt f env n x.2 ts ss with
     | none=>rfl
     | some y =>
       simp only [Option.bind_some]
       cases h3:f y.2 s (env++zq n t.args) (n+t.args.length) [] with
       | none=>rfl
       | some z=>rfl
theorem evSubs_take {f:Nat->Bd->List Mn->Nat->List Gf->Option (Bd×Nat)} {env:List Mn} {n l k:Nat} {ts:List Ty} {ss:List Bd} {t:Ty} {s:Bd} (ht:ts[k]? = some t) (hs:ss[k]? = some s) :
 zt f env n l (ts.take (k+1)) (ss.take (k+1))=(zt f env n l (ts.take k) (ss.take k)).bind fun x=>(f x.2 s (env++zq n t.args) (n+t.args.length) []).bind fun y=>some (x.1++[y.1],y.2):=by
 have h1:=(List.getElem?_eq_some_iff.1 ht).1
 have h2:=(List.getElem?_eq_some_iff.1 hs).1
 rw [List.take_add_one,List.take_add_one,ht,hs]
 exact we f env n t s _ _ l (by rw [List.length_take,List.length_take];omega)
theorem wl {f:Nat->Bd->List Mn->Nat->List Gf->Option (Bd×Nat)} {env:List Mn} {n:Nat}:∀ (k:Nat) (ts:List Ty) (ss:List Bd) (l:Nat),zt f env n l (ts.take k) (ss.take k)=none->zt f env n l ts ss=none
 | 0,ts,ss,l,h=>by simp [zt] at h
 | k+1,[],ss,l,h=>by simp [zt] at h
 | k+1,t::ts,[],l,h=>by simp [zt] at h
 | k+1,t::ts,s::ss,l,h=>by
   simp only [List.take_succ_cons,zt,Option.bind_eq_bind] at h ⊢
   cases h1:f l s (env++zq n t.args) (n+t.args.length) [] with
   | none=>rfl
   | some x =>
     rw [h1] at h
     simp only [Option.bind_some] at h ⊢
     cases h2:zt f env n x.2 (ts.take k) (ss.take k) with
     | none=>rw [wl k ts ss x.2 h2];rfl
     | some y=>rw [h2] at h;simp at h
theorem wo {d:Nat} (ih:∀ (l:Nat) (b:Bd) (env:List Mn) (n:Nat) (st:List Gf) (r:Bd) (l':Nat),Go.Proofs.YtepgfdhkkjfmhacGreatDoor.ev d l b env n st=some (r,l')->l'<=l) {env:List Mn} {n:Nat} :
 ∀ (ts:List Ty) (ss:List Bd) (l:Nat) (xs:List Bd) (l':Nat),zt (Go.Proofs.YtepgfdhkkjfmhacGreatDoor.ev d) env n l ts ss=some (xs,l')->l'<=l
 | [],ss,l,xs,l',h=>by simp [zt] at h;omega
 | t::ts,[],l,xs,l',h=>by simp [zt] at h;omega
 | t::ts,s::ss,l,xs,l',h=>by
   simp only [zt,Option.bind_eq_bind,Option.bind_eq_some_iff,Prod.exists] at h
   obtain ⟨x,l1,h1,ys,l2,h2,h3⟩:=h
   simp at h3
   have k1:=ih _ _ _ _ _ _ _ h1
   have k2:=wo ih ts ss _ _ _ h2
   omega
theorem ev_left (d:Nat):∀ (l:Nat) (b:Bd) (env:List Mn) (n:Nat) (st:List Gf) (r:Bd) (l':Nat),Go.Proofs.YtepgfdhkkjfmhacGreatDoor.ev d l b env n st=some (r,l')->l'<=l:=by
 induction d with
 | zero=>intro l b env n st r l' h;simp [Go.Proofs.YtepgfdhkkjfmhacGreatDoor.ev] at h
 | succ d ih =>
   intro l b env n st r l' h
   cases l with
   | zero=>rw [ev.eq_def] at h;simp at h
   | succ l =>
     cases b with
     | leaf c =>
       by_cases hc:c=117
       ·subst hc;rw [ev_u] at h;simp at h;omega
       ·cases st with
        | nil=>rw [ev_end] at h;simp at h;omega
        | cons f st=>rw [ev_back hc] at h;have:=ih _ _ _ _ _ _ _ h;omega
     | ask v ss y no =>
       cases hv:env[v]? with
       | none=>rw [ev.eq_def] at h;simp [hv] at h
       | some m =>
         cases m with
         | bd t b' e=>rw [ev_bd hv] at h;have:=ih _ _ _ _ _ _ _ h;omega
         | op o t =>
           rw [ev_op hv] at h
           simp only [Option.bind_eq_some_iff,Prod.exists] at h
           obtain ⟨xs,l1,h1,x,l2,h2,z,l3,h3,h4⟩:=h
           simp at h4
           have k1:=wo ih _ _ _ _ _ h1
           have k2:=ih _ _ _ _ _ _ _ h2
           have k3:=ih _ _ _ _ _ _ _ h3
           omega
theorem encBs_snoc (xs:List Bd) (x:Bd):qh (xs++[x])=qh xs++[kD x]:=by
 induction xs with
 | nil=>simp [qh]
 | cons y ys ih=>simp [qh,ih]
structure KInv (F:Nat->Prop) (aa l n d o:Nat) (env:List Mn) (ts:List Ty) (ss:List Bd) (kv:Value) (w:World) (k lk:Nat) (kU:List Bd) (sv:Value) (us:List Value) (wr:World):Prop where
 evk:zt (Go.Proofs.YtepgfdhkkjfmhacGreatDoor.ev d) env n l (ts.take k) (ss.take k)=some (kU,lk)
 ol:kU.length=k
 but:But (· = aa) w wr
 zw:w.heap.size+2<=wr.heap.size
 apl:Apl wr aa lk
 lkl:lk<=l
 box:wr.heap[w.heap.size]? = some (.cells #[.int .i64 (o:Nat),kv,.pointer none,.slice none 0 0] 148 (0,0))
 blk:wr.heap[w.heap.size+1]? = some (.cells #[str [],.int .i64 (o:Nat),sv,.pointer none,.pointer none] 121 (0,0))
 own:Own wr 79 1 sv k us
 rep:zH (fun i=>((F i/\i<w.heap.size)\/w.heap.size+2<=i)/\sv.ownBlock≠some i) wr (qh kU) us
 fr:∀ g,sv.ownBlock=some g->w.heap.size+2<=g
theorem gz {w:World} {P:Nat} {a b c d e:Value} {T:TypeId} (h:w.heap[P]? = some (.cells #[a,b,c,d,e] T (0,0))):w.cell? ⟨P,0,none⟩=some a/\w.cell? ⟨P,1,none⟩=some b/\w.cell? ⟨P,2,none⟩=some c/\w.cell? ⟨P,3,none⟩=some d/\w.cell? ⟨P,4,none⟩=some e/\(∀ o,w.frozen? ⟨P,o,none⟩=false) :=
 ⟨by simp [World.cell?,h],by simp [World.cell?,h],by simp [World.cell?,h],by simp [World.cell?,h],by simp [World.cell?,h],fun o=>by simp [World.frozen?,h]⟩
theorem qO {w:World} {P:Nat} {a b c d:Value} {T:TypeId} (h:w.heap[P]? = some (.cells #[a,b,c,d] T (0,0))):w.cell? ⟨P,0,none⟩=some a/\w.cell? ⟨P,1,none⟩=some b/\w.cell? ⟨P,2,none⟩=some c/\w.cell? ⟨P,3,none⟩=some d :=
 ⟨by simp [World.cell?,h],by simp [World.cell?,h],by simp [World.cell?,h],by simp [World.cell?,h]⟩
theorem Own.src {w:World} {e:TypeId} {sz n:Nat} {v:Value} {xs:List Value} (h:Own w e sz v n xs) (hc:∀ u∈xs,u.oneCell'=true):zS sz v n xs w:=by
 refine ⟨h.1,hc,?_⟩
 rcases h.2 with ⟨e,h0⟩ | ⟨g,cap,cur,e,_,hg,_,_,_,ht⟩
 ·exact .inr ⟨e,h0⟩
 ·refine .inl ⟨_,cap,e,fun j u hj=>?_⟩
  rw [<- ht,List.getElem?_take] at hj
  split at hj
  ·unfold Addr.add
   split
   ·subst j;simp only [World.cell?,hg];simpa using hj
   ·simp only [World.cell?,hg];simpa using hj
  ·simp at hj
structure KeptPre (F:Nat->Prop) (aa l d n o vv:Nat) (H:List Ty) (t:Ty) (ss:List Bd) (y no:Bd) (env:List Mn) (st:List Gf) (bv kv ev on:Value) (w:World):Prop where
 glob:ju w
 hF:∀ i,F i->i≠aa
 ng:aa≠0
 apl:Apl w aa l
 ld:l<=d
 d20:d<=20000
 hlen:ss.length=t.args.length
 at15:zY t<=15
 sub:∀ (k:Nat) (a:Ty) (s:Bd),t.args[k]? = some a->ss[k]? = some s->kn (H++a.args) s (env++zq H.length a.args) []
 fy:kn H y env st
 fn:kn H no env st
 hn:H.length=n
 el:env.length+16*(d+1)<=1000000
 nl:n+16*(d+1)<=1000000
 ok:jo (1000000-16*(d+1)) env
 okg:okGs (1000000-16*(d+1)) st
 rb:Rep F w (kD (.ask vv ss y no)) bv
 rk:Rep F w (qj t) kv
 re:Rep F w (.sl 148 4 env.length (kM env)) ev
 ro:jC F w aa n (⟨y,no,env⟩::st) on
def vR (d l n o:Nat) (t:Ty) (ss:List Bd) (y no:Bd) (env:List Mn) (st:List Gf):Option (Bd×Nat) :=
 (zt (Go.Proofs.YtepgfdhkkjfmhacGreatDoor.ev d) env n l t.args ss).bind fun x=>(Go.Proofs.YtepgfdhkkjfmhacGreatDoor.ev d x.2 y env n st).bind fun z=>(Go.Proofs.YtepgfdhkkjfmhacGreatDoor.ev d z.2 no env n st).bind fun u=>some (.ask o x.1 z.1 u.1,u.2)
set_option maxRecDepth 100000 in
theorem kept_any (d:Nat) (ih:uT d) (F:Nat->Prop) (aa l n o vv:Nat) (H:List Ty) (t:Ty) (ss:List Bd) (y no:Bd) (env:List Mn) (st:List Gf) (bv kv ev on:Value) (w:World) (h:KeptPre F aa l d n o vv H t ss y no env st bv kv ev on w) :
 Calls Tryz.prog 152 #[.pointer (some ⟨aa,0,none⟩),bv,.agg #[.int .i64 (o:Nat),kv,.pointer none,.slice none 0 0],ev,.int .i64 (n:Nat),on] w (zx F aa (vR d l n o t ss y no env st) w):=by
 have HP:=gl h
 have IH:=gl ih
 obtain ⟨bb,sl,yv,nv,e,eA,bD,nD,_,_⟩:=vL h.rb
 subst e
 obtain ⟨kb,ks,e,oL,cb,tK⟩:=z8 h.rk
 subst e
 obtain ⟨sa,sc,e,_,_,rW⟩:=zE nD
 subst e
 obtain ⟨ka,kc,e,_,_,eO⟩:=zE tK
 subst e
 obtain ⟨exs,sW,eX⟩:=zS.ofRep h.re (qr env)
 obtain ⟨ea,ec,e⟩:=eX.slice
 subst e
 obtain ⟨b1,b2,b3,b4,b5,bp,ev5,on5,vv5,ss5,e,⟨n1,n2,n3,n4,n5⟩,c1,r1,c2,c3,r3,c4,c5,r5⟩:=h.ro
 subst e
 have hl16:ss.length<=15:=by rw [h.hlen];exact (zj h.at15).2
 have hl16':t.args.length<=15:=(zj h.at15).2
 have Cd:=gl h.hlen
 have fb:=h.nl
 have ez:=h.el
 have hbaa:=h.hF _ eA
 have hkaa:=h.hF _ oL
 have f7:=zZ bD
 have lH:=zZ cb
 have haw:=h.apl.cell.2.2
 have mz:w.cell? ⟨bb,2,none⟩=some (.slice sa ss.length sc):=by simp [World.cell?,bD]
 have ni:w.cell? ⟨kb,0,none⟩=some (.slice ka t.args.length kc):=by simp [World.cell?,cb]
 have HA:=gl (go rW (go eO (go sW eX)))
 have HC:=gl (go (go n1 (go n2 (go n3 (go n4 n5)))) (go c1 (go r1 (go c2 (go c3 (go r3 (go c4 (go c5 r5))))))))
 clear h ih bD nD cb tK rW eO sW eX n1 n2 n3 n4 n5 c1 r1 c2 c3 r3 c4 c5 r5 eA oL
 go_enter Tryz.func152,Tryz.ntmps152
 go_wp2_with fail
 go_loopw [31] (fun i wr=>∃ (k lk:Nat) (kU:List Bd) (sv:Value) (us:List Value),k<=ss.length/\i=.int .i64 k/\KInv F aa l n d o env t.args ss (.pointer (some ⟨kb,0,none⟩)) w k lk kU sv us wr) (fun i _=>ss.length-(intOf i).toNat)
 case atStart =>
  refine ⟨0,l,[],.slice none 0 0,[],Nat.zero_le _,rfl,?_⟩
  have cE:Below w.heap.size w ((w.alloc (.cells #[.int .i64 (o:Nat),.pointer (some ⟨kb,0,none⟩),.pointer none,.slice none 0 0] 148)).alloc (.cells #[str [],.int .i64 (o:Nat),.slice none 0 0,.pointer none,.pointer none] 121)):=((hG _ _).alloc (g_ _) _).alloc (by rw [zK];omega) _
  refine { evk:=by simp [zt],ol:=rfl,but:=But.ofBelow cE,zw:=by simp,apl:=HP.out.apl.below cE,lkl:=g_ _,box:=zV (zR _ _),blk:=?_,own:=World.ownsRow_nil _ _ _ _,rep:=by simp [qh,zB],fr:=fun g hg=>by simp [Value.ownBlock] at hg }
  have:=zR (w.alloc (.cells #[.int .i64 (o:Nat),.pointer (some ⟨kb,0,none⟩),.pointer none,.slice none 0 0] 148)) (.cells #[str [],.int .i64 (o:Nat),.slice none 0 0,.pointer none,.pointer none] 121)
  rwa [zK] at this
 case round =>
  rename_i wr
  obtain ⟨k,lk,kU,sv,us,hk,rfl,bw⟩:=hrel
  have HI:=gl bw;clear bw
  by_cases bY:k<ss.length
  ·have cz:(k:Int)<(ss.length:Int):=by omega
   have hlta:k<t.args.length:=by have:=Cd.out;omega
   have hlta':(k:Int)<(t.args.length:Int):=by omega
   obtain ⟨sb,so,u,d1,e,mQ,aj,fx,ca,be⟩:=HA.out.1 k bY
   subst e
   rw [yR,Option.map_eq_some_iff] at fx
   obtain ⟨s,hs,rfl⟩:=fx
   obtain ⟨ub,rfl⟩:=zy be
   obtain ⟨ip,Aj,u2,d2,e,o7,hw2,hd2,e9,c_⟩:=HA.out.2.1 k hlta
   subst e
   rw [vS,Option.map_eq_some_iff] at hd2
   obtain ⟨a,ha,rfl⟩:=hd2
   obtain ⟨kab,s2,rfl,hF3,Bq,i9⟩:=z8 c_
   obtain ⟨a3,k3,rfl⟩:∃ a3 k3,s2=.slice a3 a.args.length k3:=by have h:=i9;rw [zp] at h;obtain ⟨_,a,c,e,_⟩:=h;exact ⟨a,c,e⟩
   have haa:zY a<=15:=(zj HP.out.at15).1 a (List.mem_of_getElem? ha)
   have e_:=(zj haa).2
   have kF:∀ {b:Nat} {j:Nat} {x:Value},F b->w.cell? ⟨b,j,none⟩=some x->wr.cell? ⟨b,j,none⟩=some x:=fun hb hc=>(HI.out.but.cell (hU w _ hc) (HP.out.hF _ hb)).trans hc
   have q0:=kF mQ ca
   have q1:wr.cell? ⟨kb,0,none⟩=some (.slice (some ⟨ip,Aj,none⟩) t.args.length kc):=(HI.out.but.cell lH hkaa).trans ni
   have q2:=kF o7 e9
   have q3:wr.cell? ⟨kab,0,none⟩=some (.slice a3 a.args.length k3):=kF hF3 (by simp [World.cell?,Bq])
   obtain ⟨x0,x1,x2,x3⟩:=qO HI.out.box
   have cX:zS 4 (.slice ea env.length ec) env.length exs wr:=yk HI.out.but (fun b hb=>HP.out.hF b hb) HP.out.re HA.out.2.2.2
   have HK:=gl (go hs (go be (go ha (go i9 cX))))
   have tD:=HI.out.zw
   clear hs be ha c_ i9 Bq cX kF ca e9 mQ o7 hF3 ni mz
   go_wp2_with (at_builtin;refine zP rfl _ _ 145 rfl 148 (.agg #[.int .i64 0,.pointer none,.pointer none,.slice none 0 0]) 4 48 Tryz.underlying145 Tryz.infoMn rfl (by decide) (.slice none 0 0) 0 [] rfl ?a1 _ env.length exs rfl ?a2 ?a3 ?a4 ?_)
   case a1=>exact World.ownsRow_nil _ _ _ _
   case a2=>exact HK.out.2.2.2.2
   case a3=>unfold maxLen;omega
   case a4=>omega
   intro a6 c6 w6 iY bP iC
   have dN:Below wr.heap.size wr w6:=bP.toBelow (g_ _) (fun i _ e=>by simp [Value.ownBlock] at e)
   have mG:∀ g,(Value.slice a6 env.length c6).ownBlock=some g->wr.heap.size<=g:=fun g hg=>by
    rcases iC g hg with h | h
    ·simp [Value.ownBlock] at h
    ·omega
   have AH:Rep (fun i=>F i/\i<w.heap.size) w6 (.sl 53 1 a.args.length (kZ a.args)) (.slice a3 a.args.length k3) :=
    Rep.below dN (fun _ h=>h) ((Rep.low HK.out.2.2.2.1).but HI.out.but (fun b hb=>⟨HP.out.hF b hb.1,hb⟩))
   have C7:=gl (wV (fun i=>F i/\i<w.heap.size) n a.args (.slice a3 a.args.length k3) w6 AH (by omega) (by omega))
   have H6:=gl (go iY (go dN mG));clear iY bP iC dN mG AH x0 x1 x2 x3 q0 q1 q2 q3
   go_wp2_with fail
   (with_reducible refine C7.out.mono ?_)
   rintro en w7 ⟨a7,c7,xs7,rfl,bI,dE,bV,cu⟩
   clear C7
   have AX:Own w7 148 4 (.slice a6 env.length c6) env.length exs:=H6.out.1.keep fun g o hg hh=>by rw [bV.block g (zZ hh)];exact hh
   have nc:=bI.src (qr _ _ dE)
   have B3:Below wr.heap.size wr w7:=zzT H6.out.2.1 bV
   have H7:=gl (go AX (go nc (go dE B3)));clear AX nc dE B3 bI bV cu
   go_wp2_with (at_builtin;refine zP rfl _ _ 145 rfl 148 (.agg #[.int .i64 0,.pointer none,.pointer none,.slice none 0 0]) 4 48 Tryz.underlying145 Tryz.infoMn rfl (by decide) (.slice a6 env.length c6) env.length exs rfl ?e1 _ a.args.length xs7 rfl ?e2 ?e3 ?e4 ?_)
   case e1=>exact H7.out.1
   case e2=>exact H7.out.2.1
   case e3=>unfold maxLen;omega
   case e4=>omega
   intro a8 c8 w8 rA cF hg8
   have hz67:=H7.out.2.2.2.size
   have aQ:Below wr.heap.size wr w8:=H7.out.2.2.2.trans (cF.toBelow hz67 fun i hi e=>by have:=H6.out.2.2 i e;omega)
   have lS:∀ g,(Value.slice a8 (env.length+a.args.length) c8).ownBlock=some g->wr.heap.size<=g:=fun g hg=>by
    rcases hg8 g hg with h | h
    ·exact H6.out.2.2 g h
    ·omega
   have sL:But (· = aa) w w8:=HI.out.but.trans (But.ofBelow aQ)
   have Cf:∀ i,(((F i/\i<w.heap.size)\/w.heap.size+2<=i)/\sv.ownBlock≠some i)->i≠aa:=fun i hi=>by
    rcases hi.1 with hi | hi
    ·exact HP.out.hF i hi.1
    ·omega
   have tS:∀ i,i<w.heap.size->sv.ownBlock≠some i:=fun i hi e=>by have:=HI.out.fr i e;omega
   have Av:∀ i,sv.ownBlock=some i->i<wr.heap.size:=fun i e=>HI.out.own.lt e
   have lowB:∀ {dv:DV} {v:Value},Rep F w dv v->Rep (fun i=>((F i/\i<w.heap.size)\/w.heap.size+2<=i)/\sv.ownBlock≠some i) w8 dv v:=fun h=>(Rep.low h).but sL (fun b hb=>⟨HP.out.hF b hb.1,.inl hb,tS b hb.2⟩)
   have AI:Rep (fun i=>((F i/\i<w.heap.size)\/w.heap.size+2<=i)/\sv.ownBlock≠some i) w8 (.sl 148 4 (env++zq n a.args).length (kM (env++zq n a.args))) (.slice a8 (env.length+a.args.length) c8):=by
    rw [List.length_append,kJ,jV]
    refine rA.rep (fun g hg=>⟨.inr (by have:=lS g hg;omega),fun e=>by have:=lS g hg;have:=Av g e;omega⟩) (zH.append ?_ ?_)
    ·exact (zH.low HA.out.2.2.1).but sL (fun b hb=>⟨HP.out.hF b hb.1,.inl hb,tS b hb.2⟩)
    ·refine (Rep.keep fun b o hf hh=>⟨⟨.inl hf,tS b hf.2⟩,?_⟩).2 _ _ H7.out.2.2.1
     rw [cF.block b (zZ hh) (fun e=>by have:=H6.out.2.2 b e;have:=hf.2;omega)];exact hh
   have bG:ui (fun i=>((F i/\i<w.heap.size)\/w.heap.size+2<=i)/\sv.ownBlock≠some i) aa lk d (n+a.args.length) (H++a.args) s (env++zq n a.args) [] (.pointer (some ⟨ub,0,none⟩)) (.slice a8 (env.length+a.args.length) c8) .nilFunc w8 :=
    { glob:=HP.out.glob.but sL (fun e=>HP.out.ng e.symm),hF:=Cf,ng:=HP.out.ng,apl:=HI.out.apl.below aQ,ld:=h_ HI.out.lkl HP.out.ld,d20:=HP.out.d20,
      fit:=by have:=HP.out.sub k a s HK.out.2.2.1 HK.out.1;rwa [HP.out.hn] at this,hn:=by rw [List.length_append,HP.out.hn],el:=by rw [List.length_append,kJ];omega,nl:=by omega,
      ok:=qJ _ _ (ze (by omega) _ HP.out.ok) (qZ _ _ (zj haa).1 (by omega)),okg:=trivial,rb:=lowB HK.out.2.1,re:=AI,ro:=rfl }
   have C9:=IH.out _ aa lk (n+a.args.length) (H++a.args) s (env++zq n a.args) [] (.pointer (some ⟨ub,0,none⟩)) (.slice a8 (env.length+a.args.length) c8) .nilFunc w8 bG
   rw [Int.natCast_add] at C9
   have b7:=evSubs_take (f:=Go.Proofs.YtepgfdhkkjfmhacGreatDoor.ev d) (env:=env) (n:=n) (l:=l) HK.out.2.2.1 HK.out.1
   rw [HI.out.evk] at b7
   simp only [Option.bind_some] at b7
   generalize hev:Go.Proofs.YtepgfdhkkjfmhacGreatDoor.ev d lk s (env++zq n a.args) (n+a.args.length) []=oev at *
   have C9':=gl C9
   have H8:=gl (go aQ (go sL (go b7 hev)));clear C9 bG AI Cf aQ lS sL cF hg8 rA b7 hev lowB tS Av
   go_wp2_with fail
   (with_reducible refine C9'.out.mono ?_)
   rintro en w9 ⟨cB,tp,tM⟩
   cases oev with
   | none =>
     obtain ⟨Cl,rfl,sE⟩:=tp rfl
     have du:vR d l n o t ss y no env st=none:=by
      have:=H8.out.2.2.1
      simp only [Option.bind_none] at this
      unfold vR
      rw [wl (k+1) _ _ _ this];rfl
     have sH:w.cell? ⟨0,0,none⟩=some (.iface 315 (.pointer (some Cl))):=by
      obtain ⟨a0,h0⟩:=HP.out.glob
      have:=(H8.out.2.1.cell (hU w _ h0) (fun e=>HP.out.ng e.symm)).trans h0
      rw [this] at sE
      rw [h0];exact sE
     have HF:=gl (go du (go (H8.out.2.1.trans cB) sH));clear du sH cB tp tM sE
     go_wp2_with fail
     go_ret2
     exact zx.none HF.out.1 HF.out.2.1 HF.out.2.2
   | some x =>
     obtain ⟨v,rfl,ha9,tL⟩:=tM x.1 x.2 rfl
     obtain ⟨vb,rfl⟩:=zy tL
     obtain ⟨mX,mY,e⟩:=HI.out.own.slice
     subst e
     have hz8:=H8.out.1.size
     have hz9:=cB.size
     have oK:w9.heap[w.heap.size+1]? = some (.cells #[str [],.int .i64 (o:Nat),.slice mX k mY,.pointer none,.pointer none] 121 (0,0)):=by
      rw [cB.block _ (by omega) (by omega),H8.out.1.block _ (by omega)];exact HI.out.blk
     have Cn:w9.heap[w.heap.size]? = some (.cells #[.int .i64 (o:Nat),.pointer (some ⟨kb,0,none⟩),.pointer none,.slice none 0 0] 148 (0,0)):=by
      rw [cB.block _ (by omega) (by omega),H8.out.1.block _ (by omega)];exact HI.out.box
     have Af:Own w9 79 1 (.slice mX k mY) k us:=HI.out.own.keep fun g o hg hh=>by
      have h1:=HI.out.fr g hg
      have h2:=zZ hh
      rw [cB.block g (by omega) (by omega),H8.out.1.block g h2];exact hh
     have hll:=ev_left _ _ _ _ _ _ _ _ (H8.out.2.2.2)
     have ri:=HI.out.lkl
     obtain ⟨y0,y1,y2,y3,y4,yf⟩:=gz oK
     have H9:=gl (go cB (go ha9 (go tL (go oK (go Cn Af)))));clear cB tp tM ha9 tL oK Cn Af y0 y1 y3 y4 yf
     go_wp2_with (at_builtin;refine zP rfl _ _ 119 rfl 79 (.pointer none) 1 8 Tryz.underlying119 Tryz.infoB rfl (by decide) (.slice mX k mY) k us rfl ?f1 _ 1 [.pointer (some ⟨vb,0,none⟩)] rfl ?f2 ?f3 ?f4 ?_)
     case f1=>exact H9.out.2.2.2.2.2.alloc _
     case f2=>exact zS.lit1 #[.pointer (some ⟨vb,0,none⟩)] rfl (by simp [Value.oneCell']) _ (by simp)
     case f3=>unfold maxLen;omega
     case f4=>omega
     intro aT aR iv A0 sA BC
     have hz10:=sA.size
     rw [zK] at hz10
     have hsv:∀ i,(Value.slice mX k mY).ownBlock=some i->w.heap.size+2<=i/\i<wr.heap.size:=fun i e=>⟨HI.out.fr i e,HI.out.own.lt e⟩
     have sf:iv.heap[w.heap.size+1]? = some (.cells #[str [],.int .i64 (o:Nat),.slice mX k mY,.pointer none,.pointer none] 121 (0,0)):=by
      rw [sA.block _ (by rw [zK];omega) (fun e=>by have:=hsv _ e;omega),Below.heap_alloc _ _ _ (by omega)];exact H9.out.2.2.2.1
     obtain ⟨y0,y1,y2,y3,y4,yf⟩:=gz sf
     have yf2:=yf 2
     have nE:∀ (g:Nat) (ob:Obj),g≠w.heap.size+1->iv.heap[g]? = some ob->(iv.setCell ⟨w.heap.size+1,2,none⟩ (.slice aT (k+1) aR)).heap[g]? = some ob:=fun g ob hg hh=>by
      rw [hH _ _ _ _ (by show g≠w.heap.size+1;exact hg)];exact hh
     have past:∀ (g:Nat) (ob:Obj),(Value.slice mX k mY).ownBlock≠some g->w9.heap[g]? = some ob->iv.heap[g]? = some ob:=fun g ob hg hh=>by
      rw [sA.block g (by rw [zK];have:=zZ hh;omega) hg,Below.heap_alloc _ _ _ (zZ hh)];exact hh
     have bw:KInv F aa l n d o env t.args ss (.pointer (some ⟨kb,0,none⟩)) w (k+1) x.2 (kU++[x.1]) (.slice aT (k+1) aR) (us++[.pointer (some ⟨vb,0,none⟩)]) (iv.setCell ⟨w.heap.size+1,2,none⟩ (.slice aT (k+1) aR)):=by
      have nJ:∀ g,(Value.slice aT (k+1) aR).ownBlock=some g->(Value.slice mX k mY).ownBlock=some g\/w9.heap.size<g:=fun g hg=>by
       rcases BC g hg with h | h
       ·exact .inl h
       ·exact .inr (by omega)
      refine { evk:=H8.out.2.2.1,ol:=by rw [List.length_append,HI.out.ol];rfl,but:=?_,zw:=by simp [World.setCell];omega,apl:=?_,lkl:=by omega,box:=?_,blk:=?_,own:=?_,rep:=?_,fr:=fun g hg=>?_ }
      ·have h1:But (· = aa) w iv:=((H8.out.2.1.trans H9.out.1).alloc _).trans' sA fun i hi e=>by have:=hsv i e;omega
       exact h1.setCell (p:=⟨w.heap.size+1,2,none⟩) (.inr (by show w.heap.size<=w.heap.size+1;omega)) _
      ·exact nE _ _ (by omega) (past _ _ (fun e=>by have:=hsv _ e;omega) H9.out.2.1)
      ·exact nE _ _ (by omega) (past _ _ (fun e=>by have:=hsv _ e;omega) H9.out.2.2.2.2.1)
      ·rw [zI sf];rfl
      ·exact A0.keep fun g ob hg hh=>nE _ _ (by
        rcases nJ g hg with h | h
        ·have:=hsv g h;omega
        ·omega) hh
      ·rw [encBs_snoc]
       refine zH.append ?_ (zH.one ?_)
       ·refine (Rep.keep fun b ob hf hh=>?_).2 _ _ HI.out.rep
        have hb:=zZ hh
        have hne:b≠aa/\b≠w.heap.size+1:=by
         rcases hf.1 with h | h
         ·exact ⟨HP.out.hF b h.1,by omega⟩
         ·omega
        refine ⟨⟨hf.1,fun e=>?_⟩,nE _ _ hne.2 (past _ _ hf.2 ?_)⟩
        ·rcases nJ b e with h | h
         ·exact hf.2 h
         ·omega
        ·rw [H9.out.1.block b (by omega) hne.1,H8.out.1.block b hb];exact hh
       ·refine (Rep.keep fun b ob hf hh=>?_).1 _ _ H9.out.2.2.1
        have hf:(((F b/\b<w.heap.size)\/w.heap.size+2<=b)/\(Value.slice mX k mY).ownBlock≠some b)\/w8.heap.size<=b:=hf
        have hb:=zZ hh
        have Aw:(Value.slice mX k mY).ownBlock≠some b:=by
         rcases hf with h | h
         ·exact h.2
         ·intro e;have:=hsv b e;omega
        have tQ:((F b/\b<w.heap.size)\/w.heap.size+2<=b):=by
         rcases hf with h | h
         ·exact h.1
         ·exact .inr (by omega)
        refine ⟨⟨tQ,fun e=>?_⟩,nE _ _ (by rcases tQ with h | h <;> omega) (past _ _ Aw hh)⟩
        rcases nJ b e with h | h
        ·exact Aw h
        ·omega
      ·rcases nJ g hg with h | h
       ·exact (hsv g h).1
       ·omega
     have HN:=gl bw;clear bw nE past sf y0 y1 y3 y4 yf A0 sA BC hsv
     go_wp2_with fail
     go_roundw
     case rel=>exact ⟨k+1,x.2,kU++[x.1],.slice aT (k+1) aR,us++[.pointer (some ⟨vb,0,none⟩)],by omega,by go_num,HN.out⟩
     case measure=>simp [intOf];omega
  ·obtain rfl:k=ss.length:=by omega
   have sY:=HI.out.evk
   rw [List.take_length,List.take_of_length_le (by have:=Cd.out;omega)] at sY
   have AFT:Hid (∀ (X:World) (l':Nat),But (· = aa) w X->Apl X aa l'->l'<=l ->
    Calls Tryz.prog 151 #[.bool true,.pointer (some ⟨b1,0,none⟩),.pointer (some ⟨b2,0,none⟩),.pointer (some ⟨b3,0,none⟩),.pointer (some ⟨b4,0,none⟩),.pointer (some ⟨b5,0,none⟩)] X (zx (fun i=>F i/\i<w.heap.size) aa (Go.Proofs.YtepgfdhkkjfmhacGreatDoor.ev d l' y env n st) X) /\
    Calls Tryz.prog 151 #[.bool false,.pointer (some ⟨b1,0,none⟩),.pointer (some ⟨b2,0,none⟩),.pointer (some ⟨b3,0,none⟩),.pointer (some ⟨b4,0,none⟩),.pointer (some ⟨b5,0,none⟩)] X (zx (fun i=>F i/\i<w.heap.size) aa (Go.Proofs.YtepgfdhkkjfmhacGreatDoor.ev d l' no env n st) X)):=by
    show ∀ (X:World) (l':Nat),_->_
    intro X l' dR haX hlX
    obtain ⟨⟨n1,n2,n3,n4,n5⟩,c1,r1,c2,c3,r3,c4,c5,r5⟩:=HC.out
    have kX:∀ {b:Nat} {x:Value},F b->w.cell? ⟨b,0,none⟩=some x->X.cell? ⟨b,0,none⟩=some x:=fun hb hc=>(dR.cell (hU w _ hc) (HP.out.hF _ hb)).trans hc
    have ct:∀ b,(F b/\b<w.heap.size)->¬ (b=aa)/\(F b/\b<w.heap.size):=fun b hb=>⟨HP.out.hF b hb.1,hb⟩
    have key:=fun c hf=>after_any d IH.out (fun i=>F i/\i<w.heap.size) aa l' n H ⟨y,no,env⟩ st b1 b2 b3 b4 b5 bp ev5 on5 vv5 ss5 X c (HP.out.glob.but dR (fun e=>HP.out.ng e.symm)) (fun i hi=>HP.out.hF i hi.1) HP.out.ng haX (by have:=HP.out.ld;omega) HP.out.d20
     hf HP.out.hn (by show env.length+_<=_;omega) (by omega) (ze (by omega) _ HP.out.ok) (qt (by omega) _ HP.out.okg)
     (kX n1 c1) ((Rep.low r1).but dR ct) (kX n2 c2) (kX n3 c3) ((Rep.low r3).but dR ct) (kX n4 c4) (kX n5 c5) (jC.but dR ct _ _ (jC.low _ _ r5))
    exact ⟨key 116 HP.out.fy,key 102 HP.out.fn⟩
   have ri:=HI.out.lkl
   have C1:=gl (AFT.out wr lk HI.out.but HI.out.apl ri).1
   have tD:=HI.out.zw
   obtain ⟨mX,mY,e⟩:=HI.out.own.slice
   subst e
   have HFU:=gl sY;clear sY
   generalize BJ:Go.Proofs.YtepgfdhkkjfmhacGreatDoor.ev d lk y env n st=o1 at *
   have HE1:=gl BJ;clear BJ
   go_wp2_with fail
   (with_reducible refine C1.out.mono ?_)
   rintro en w1 ⟨bQ,b8,cQ⟩
   clear C1
   cases o1 with
   | none =>
     obtain ⟨Cl,rfl,sE⟩:=b8 rfl
     have du:vR d l n o t ss y no env st=none:=by
      unfold vR
      rw [HFU.out];simp only [Option.bind_some];rw [HE1.out];rfl
     have sH:w.cell? ⟨0,0,none⟩=some (.iface 315 (.pointer (some Cl))):=by
      obtain ⟨a0,h0⟩:=HP.out.glob
      have:=(HI.out.but.cell (hU w _ h0) (fun e=>HP.out.ng e.symm)).trans h0
      rw [this] at sE
      rw [h0];exact sE
     have d6:=bQ.size
     have nu:w1.heap[w.heap.size+1]? = some (.cells #[str [],.int .i64 (o:Nat),.slice mX ss.length mY,.pointer none,.pointer none] 121 (0,0)):=by
      rw [bQ.block _ (by omega) (by omega)];exact HI.out.blk
     obtain ⟨_,_,_,y3,_,yf⟩:=gz nu
     have yf3:=yf 3;clear yf
     have eA:But (· = aa) w (w1.setCell ⟨w.heap.size+1,3,none⟩ (.pointer none)):=(HI.out.but.trans bQ).setCell (p:=⟨w.heap.size+1,3,none⟩) (.inr (by show w.heap.size<=w.heap.size+1;omega)) _
     have HF:=gl (go du (go eA sH));clear du sH bQ b8 cQ sE eA nu
     go_wp2_with fail
     go_ret2
     exact zx.none HF.out.1 HF.out.2.1 HF.out.2.2
   | some z =>
     obtain ⟨v1,rfl,ha1,cK⟩:=cQ z.1 z.2 rfl
     obtain ⟨zb,rfl⟩:=zy cK
     have Bn:=ev_left _ _ _ _ _ _ _ _ HE1.out
     have d6:=bQ.size
     have nu:w1.heap[w.heap.size+1]? = some (.cells #[str [],.int .i64 (o:Nat),.slice mX ss.length mY,.pointer none,.pointer none] 121 (0,0)):=by
      rw [bQ.block _ (by omega) (by omega)];exact HI.out.blk
     obtain ⟨_,_,_,y3,_,yf⟩:=gz nu
     have yf3:=yf 3;clear yf
     obtain ⟨W2,cC⟩:=zzN (w1.setCell ⟨w.heap.size+1,3,none⟩ (.pointer (some ⟨zb,0,none⟩)))
     have bZ:But (· = aa) w W2:=by rw [<- cC];exact (HI.out.but.trans bQ).setCell (p:=⟨w.heap.size+1,3,none⟩) (.inr (by show w.heap.size<=w.heap.size+1;omega)) _
     have fh:∀ (g:Nat) (ob:Obj),g≠w.heap.size+1->w1.heap[g]? = some ob->W2.heap[g]? = some ob:=fun g ob hg hh=>by
      rw [<- cC,hH _ _ _ _ (by show g≠w.heap.size+1;exact hg)];exact hh
     have Co:W2.heap[w.heap.size+1]? = some (.cells #[str [],.int .i64 (o:Nat),.slice mX ss.length mY,.pointer (some ⟨zb,0,none⟩),.pointer none] 121 (0,0)):=by
      rw [<- cC,zI nu];rfl
     have nU:Apl W2 aa z.2:=fh _ _ (by omega) ha1
     have C2:=gl (AFT.out W2 z.2 bZ nU (by omega)).2
     have cG:W2.heap.size=w1.heap.size:=by rw [<- cC];simp [World.setCell]
     have HZ2:=gl cG;clear cG
     have cH:Rep (fun i=>(F i/\i<w.heap.size)\/wr.heap.size<=i) W2 (kD z.1) (.pointer (some ⟨zb,0,none⟩)):=(Rep.keep fun b ob hf hh=>⟨hf,fh _ _ (by rcases hf with h | h <;> omega) hh⟩).1 _ _ cK
     have Ag:Own W2 79 1 (.slice mX ss.length mY) ss.length us:=HI.out.own.keep fun g ob hg hh=>by
      have h1:=HI.out.fr g hg
      exact fh _ _ (by omega) (by rw [bQ.block g (zZ hh) (by omega)];exact hh)
     have Ae:zH (fun i=>((F i/\i<w.heap.size)\/w.heap.size+2<=i)/\i≠aa) W2 (qh kU) us:=(Rep.keep fun b ob hf hh=>by
      have hne:b≠aa/\b≠w.heap.size+1:=by
       rcases hf.1 with h | h
       ·exact ⟨HP.out.hF b h.1,by omega⟩
       ·omega
      exact ⟨⟨hf.1,hne.1⟩,fh _ _ hne.2 (by rw [bQ.block b (zZ hh) hne.1];exact hh)⟩).2 _ _ HI.out.rep
     generalize BI:Go.Proofs.YtepgfdhkkjfmhacGreatDoor.ev d z.2 no env n st=o2 at *
     have H2:=gl (go bZ (go Co (go cH (go Ag (go Ae (go BI cC))))));clear bZ Co cH Ag Ae BI cC fh bQ b8 cQ ha1 cK nu nU
     go_wp2_with fail
     rw [H2.out.2.2.2.2.2.2]
     (with_reducible refine C2.out.mono ?_)
     rintro en w3 ⟨bU,tZ,aO⟩
     clear C2
     have cn:=bU.size
     have oC:=HZ2.out
     have aS:w3.heap[w.heap.size+1]? = some (.cells #[str [],.int .i64 (o:Nat),.slice mX ss.length mY,.pointer (some ⟨zb,0,none⟩),.pointer none] 121 (0,0)):=by
      rw [bU.block _ (by omega) (by omega)];exact H2.out.2.1
     clear oC
     obtain ⟨_,_,_,_,y4,yf⟩:=gz aS
     have yf4:=yf 4;clear yf
     cases o2 with
     | none =>
       obtain ⟨Cl,rfl,sE⟩:=tZ rfl
       have du:vR d l n o t ss y no env st=none:=by
        unfold vR
        rw [HFU.out];simp only [Option.bind_some];rw [HE1.out];simp only [Option.bind_some];rw [H2.out.2.2.2.2.2.1];rfl
       have sH:w.cell? ⟨0,0,none⟩=some (.iface 315 (.pointer (some Cl))):=by
        obtain ⟨a0,h0⟩:=HP.out.glob
        have:=(H2.out.1.cell (hU w _ h0) (fun e=>HP.out.ng e.symm)).trans h0
        rw [this] at sE
        rw [h0];exact sE
       have eA:But (· = aa) w (w3.setCell ⟨w.heap.size+1,4,none⟩ (.pointer none)):=(H2.out.1.trans bU).setCell (p:=⟨w.heap.size+1,4,none⟩) (.inr (by show w.heap.size<=w.heap.size+1;omega)) _
       have HF:=gl (go du (go eA sH));clear du sH bU tZ aO sE eA aS
       go_wp2_with fail
       go_ret2
       exact zx.none HF.out.1 HF.out.2.1 HF.out.2.2
     | some q =>
       obtain ⟨v3,rfl,ha3,rT⟩:=aO q.1 q.2 rfl
       obtain ⟨qb,rfl⟩:=zy rT
       have ar:vR d l n o t ss y no env st=some (.ask o kU z.1 q.1,q.2):=by
        unfold vR
        rw [HFU.out];simp only [Option.bind_some];rw [HE1.out];simp only [Option.bind_some];rw [H2.out.2.2.2.2.2.1];rfl
       have eA:But (· = aa) w (w3.setCell ⟨w.heap.size+1,4,none⟩ (.pointer (some ⟨qb,0,none⟩))):=(H2.out.1.trans bU).setCell (p:=⟨w.heap.size+1,4,none⟩) (.inr (by show w.heap.size<=w.heap.size+1;omega)) _
       have pastF:∀ (g:Nat) (ob:Obj),g≠w.heap.size+1->w3.heap[g]? = some ob->(w3.setCell ⟨w.heap.size+1,4,none⟩ (.pointer (some ⟨qb,0,none⟩))).heap[g]? = some ob:=fun g ob hg hh=>by
        rw [hH _ _ _ _ (by show g≠w.heap.size+1;exact hg)];exact hh
       have blkF:(w3.setCell ⟨w.heap.size+1,4,none⟩ (.pointer (some ⟨qb,0,none⟩))).heap[w.heap.size+1]? = some (.cells #[str [],.int .i64 (o:Nat),.slice mX ss.length mY,.pointer (some ⟨zb,0,none⟩),.pointer (some ⟨qb,0,none⟩)] 121 (0,0)):=by
        rw [zI aS];rfl
       have haF:Apl (w3.setCell ⟨w.heap.size+1,4,none⟩ (.pointer (some ⟨qb,0,none⟩))) aa q.2:=pastF _ _ (by omega) ha3
       have oC:=HZ2.out
       have stay:∀ (b:Nat) (ob:Obj),b≠aa->b≠w.heap.size+1->W2.heap[b]? = some ob->(w3.setCell ⟨w.heap.size+1,4,none⟩ (.pointer (some ⟨qb,0,none⟩))).heap[b]? = some ob:=fun b ob h1 h2 hh =>
        pastF _ _ h2 (by rw [bU.block b (zZ hh) h1];exact hh)
       have rS:Rep (fun i=>F i\/w.heap.size<=i) (w3.setCell ⟨w.heap.size+1,4,none⟩ (.pointer (some ⟨qb,0,none⟩))) (kD (.ask o kU z.1 q.1)) (.pointer (some ⟨w.heap.size+1,0,none⟩)):=by
        rw [kD,jU]
        refine ⟨_,_,rfl,.inr (by omega),blkF,?_⟩
        simp only [zQ,zB,zF]
        have eJ:=HI.out.ol
        refine ⟨_,_,rfl,rfl,_,_,rfl,rfl,_,_,rfl,?_,_,_,rfl,?_,_,_,rfl,?_,rfl⟩
        ·rw [eJ]
         refine Own.rep (xs:=us) (H2.out.2.2.2.1.keep fun g ob hg hh=>stay _ _ (by have:=HI.out.fr g hg;omega) (by have:=HI.out.fr g hg;omega) hh) (fun g hg=>.inr (by have:=HI.out.fr g hg;omega)) ?_
         refine (Rep.keep fun b ob hf hh=>⟨?_,stay _ _ hf.2 (by rcases hf.1 with h | h <;> omega) hh⟩).2 _ _ H2.out.2.2.2.2.1
         rcases hf.1 with h | h
         ·exact .inl h.1
         ·exact .inr (by omega)
        ·refine (Rep.keep fun b ob hf hh=>⟨?_,stay _ _ ?_ (by rcases hf with h | h <;> omega) hh⟩).1 _ _ H2.out.2.2.1
         ·rcases hf with h | h
          ·exact .inl h.1
          ·exact .inr (by omega)
         ·rcases hf with h | h
          ·exact HP.out.hF b h.1
          ·omega
        ·refine (Rep.keep fun b ob hf hh=>⟨?_,pastF _ _ ?_ hh⟩).1 _ _ rT
         ·rcases hf with h | h
          ·exact .inl h.1
          ·exact .inr (by omega)
         ·rcases hf with h | h <;> omega
       have HF:=gl (go ar (go eA (go haF rS)));clear ar eA haF rS stay blkF pastF bU tZ aO ha3 rT aS oC
       go_wp2_with fail
       go_ret2
       exact zx.some HF.out.1 HF.out.2.1 HF.out.2.2.1 HF.out.2.2.2
end Go.Proofs.YtepgfdhkkjfmhacGreatDoor

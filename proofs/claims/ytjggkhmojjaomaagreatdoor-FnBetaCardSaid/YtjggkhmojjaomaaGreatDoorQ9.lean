/- Walks of functions that the statement reaches, and plain words. No conditions. -/
import Derived.LaidEql
import Derived.Stop.Asserts
import Derived.RowKitTokens
import Derived.Deep.Cut
import Derived.Test.YtjggkhmojjaomaaGreatDoorQ7
set_option linter.unusedVariables false
set_option linter.unusedSimpArgs false
set_option maxHeartbeats 8000000
namespace Go.Proofs.YtjggkhmojjaomaaGreatDoor
open Go.RowKit
mutual
def b7:Mn->List DV
 | .op o t=>[.val (.int .i64 (o:Nat)),jS t,.val (.pointer none),.val (.slice none 0 0)]
 | .bd _ b e=>[.val (.int .i64 0),.val (.pointer none),qK b,.sl 156 4 e.length (qv e)]
def qv:List Mn->List DV
 | []=>[]
 | m::ms=>b7 m++qv ms
end
theorem xR (m:Mn):(b7 m).length=4:=by cases m <;> simp [b7]
theorem b6:∀ ms:List Mn,(qv ms).length=ms.length*4
 | []=>by simp [qv]
 | m::ms=>by rw [qv,List.length_append,xR,b6 ms];simp;omega
theorem vc:∀ (xs ys:List Mn),qv (xs++ys)=qv xs++qv ys
 | [],ys=>by simp [qv]
 | x::xs,ys=>by simp [qv,vc xs ys]
theorem encMs_one (m:Mn):qv [m]=b7 m:=by simp [qv]
theorem zq.lit1 {w:World} {e:TypeId} {sz:Nat} (cs:Array Value) (hn:cs.size=sz) (hc:∀ u∈cs.toList,u.oneCell'=true) (g:Nat) (hg:g=w.heap.size):zq sz (.slice (some ⟨g,0,none⟩) 1 1) 1 cs.toList (w.alloc (.cells cs e)):=by
 subst hg
 refine ⟨by simp [hn],hc,.inl ⟨_,_,rfl,fun j u hu=>?_⟩⟩
 unfold Addr.add
 split
 ·subst j;simp;simpa using hu
 ·simp;simpa using hu
theorem Tryz.infoMn:(Tryz.prog.info? 156).map (fun i=>(i.zero,i.size,i.bytes))=some (some (.agg #[.int .i64 0,.pointer none,.pointer none,.slice none 0 0]),4,48):=by kernel_rfl
def FreshV (w:World) (e:TypeId) (sz n:Nat) (P:World->List Value->Prop) (en:Ending) (w':World):Prop :=
 ∃ a c xs,en=.returned (.slice a n c)/\Own w' e sz (.slice a n c) n xs/\P w' xs/\Below w.heap.size w w'/\∀ g,(Value.slice a n c).ownBlock=some g->w.heap.size<=g
theorem eU:∀ (ts:List Ty) (n:Nat) (t:Ty),opens n (ts++[t])=opens n ts++[.op (n+ts.length) t]
 | [],n,t=>by simp [opens]
 | a::ts,n,t=>by rw [List.cons_append,opens,opens,eU ts (n+1) t,List.cons_append,List.length_cons,show n+1+ts.length=n+(ts.length+1) from by omega]
theorem gI {ts:List Ty} {n k:Nat} {t:Ty} (h:ts[k]? = some t):opens n (ts.take (k+1))=opens n (ts.take k)++[.op (n+k) t]:=by
 have hk:=(List.getElem?_eq_some_iff.1 h).1
 rw [List.take_add_one,h]
 simp only [Option.toList_some]
 rw [eU,List.length_take,Nat.min_eq_left (by omega)]
theorem cv {F:Nat->Prop} {w:World} {t:Ty} {v:Value} (h:Rep F w (jS t) v):∃ b,v=.pointer (some ⟨b,0,none⟩):=by
 cases t with
 | mk ts=>rw [jS,jd] at h;obtain ⟨b,c,h,_⟩:=h;exact ⟨b,h⟩
set_option maxRecDepth 100000 in
theorem cN (F:Nat->Prop) (n:Nat) (ts:List Ty) (kv:Value) (w:World) (h:Rep F w (.sl 33 1 ts.length (jL ts)) kv) (hl:ts.length<=1000) (hn:n<=1000000) :
 Calls Tryz.prog 93 #[.int .i64 (n:Nat),kv] w (FreshV w 156 4 ts.length fun w' xs=>zX F w' (qv (opens n ts)) xs):=by
 obtain ⟨ka,kc,e,_,_,fM⟩:=zP h
 subst e
 have H:=fX fM;clear fM h
 go_enter Tryz.func93,Tryz.ntmps93
 go_wp2_with fail
 go_loopw [5,10] (fun o i wr=>∃ k:Nat,k<=ts.length/\i=.int .i64 k/\∃ a c xs,o=.slice a k c/\Own wr 156 4 (.slice a k c) k xs/\zX (fun i=>F i/\i<w.heap.size) wr (qv (opens n (ts.take k))) xs/\Below w.heap.size w wr/\(∀ g,(Value.slice a k c).ownBlock=some g->w.heap.size<=g)) (fun _ i _=>ts.length-(intOf i).toNat)
 case atStart=>exact ⟨0,Nat.zero_le _,rfl,none,0,[],rfl,World.ownsRow_nil _ _ _ _,by simp [opens,qv,zC],fH _ _,fun g h=>by simp [Value.ownBlock] at h⟩
 case round =>
  obtain ⟨k,hk,rfl,a,c,xs,rfl,ho,hr,hb,hf⟩:=hrel
  have HO:=fX ho;have HF:=fX hf;have HB:=fX hb;have HR:=fX hr
  clear ho hf hb hr
  by_cases fT:k<ts.length
  ·have mT:(k:Int)<(ts.length:Int):=by omega
   obtain ⟨b,o,u,d,e,_,f_,hd,hc,rQ⟩:=H.out k fT
   subst e
   rw [pB,Option.map_eq_some_iff] at hd
   obtain ⟨t,ht,rfl⟩:=hd
   obtain ⟨ub,rfl⟩:=cv rQ
   have q0:=(HB.out.cell (p:=⟨b,o+k,none⟩) f_).trans hc
   have HT:=fX (fW ht rQ);clear ht rQ hc
   have II:IntKind.i64.wrap ((n:Int)+(k:Int))=(n:Int)+(k:Int):=IntWalk.i64_in _ (by omega)
   clear II
   go_wp2_with (at_builtin;refine zE rfl _ _ 153 rfl 156 (.agg #[.int .i64 0,.pointer none,.pointer none,.slice none 0 0]) 4 48 Tryz.underlying153 Tryz.infoMn rfl (by decide) (.slice a k c) k xs rfl ?c1 _ 1 [.int .i64 ((n:Int)+(k:Int)),.pointer (some ⟨ub,0,none⟩),.pointer none,.slice none 0 0] rfl ?c2 ?c3 ?c4 ?_)
   case c1=>exact HO.out.alloc _
   case c2=>exact zq.lit1 #[.int .i64 ((n:Int)+(k:Int)),.pointer (some ⟨ub,0,none⟩),.pointer none,.slice none 0 0] rfl (by simp [Value.oneCell']) _ (by simp)
   case c3=>unfold maxLen;omega
   case c4=>omega
   intro a' c' w7 fm fS fw
   have n8:Below w.heap.size w w7:=by
    have h1:=HB.out
    refine (h1.alloc h1.size _).trans (fS.toBelow (by rw [zK];have:=h1.size;omega) fun i hi e=>?_)
    have:=HF.out i e;omega
   have iU:∀ g,(Value.slice a' (k+1) c').ownBlock=some g->w.heap.size<=g:=by
    intro g h
    rcases fw g h with h | h
    ·exact HF.out g h
    ·have h2:=HB.out.size
     omega
   have sg:zX (fun i=>F i/\i<w.heap.size) w7 (qv (opens n (ts.take (k+1)))) (xs++[.int .i64 ((n:Int)+(k:Int)),.pointer (some ⟨ub,0,none⟩),.pointer none,.slice none 0 0]):=by
    rw [gI HT.out.1,vc,encMs_one]
    refine zX.append ?_ ?_
    ·exact (Rep.keep fun b o hf ho=>⟨hf,by rw [n8.block b hf.2,<- HB.out.block b hf.2];exact ho⟩).2 _ _ HR.out
    ·rw [b7]
     refine zQ.2 ⟨_,_,rfl,zH.2 (by rw [Int.natCast_add]),zQ.2 ⟨_,_,rfl,(Rep.keep fun b o hf ho=>⟨⟨hf,zZ ho⟩,by rw [n8.block b (zZ ho)];exact ho⟩).1 _ _ HT.out.2,zQ.2 ⟨_,_,rfl,zH.2 rfl,zQ.2 ⟨_,_,rfl,zH.2 rfl,zC.2 rfl⟩⟩⟩⟩
   have HA:=fX (fW fm (fW sg (fW n8 iU)));clear fm sg n8 iU fS fw
   go_wp2_with fail
   go_roundw
   case rel=>exact ⟨k+1,by omega,by go_num,a',c',_,rfl,HA.out.1,HA.out.2.1,HA.out.2.2.1,HA.out.2.2.2⟩
   case measure=>simp [intOf];omega
  ·obtain rfl:k=ts.length:=by omega
   go_wp2_with fail
   go_ret
   have h0:=HR.out
   rw [List.take_length] at h0
   exact ⟨a,c,xs,rfl,HO.out,(Rep.keep fun b o hf ho=>⟨hf.1,ho⟩).2 _ _ h0,HB.out,HF.out⟩
end Go.Proofs.YtjggkhmojjaomaaGreatDoor
namespace Go.Proofs.YtjggkhmojjaomaaGreatDoor
open Go.RowKit Go.Extern.Stop Go.Stop Go.Extern Go.Extern.Rtype
theorem Tryz.isTypeOf (v:Value) (w:World):(Extern.ReflectliteType.typeOf #[.iface 212 v]).run Tryz.prog w=.ok (.iface 200 (.agg #[.pointer (some ⟨5,212,none⟩)])) w:=by kernel_rfl
theorem Tryz.callCmp (w:World):Sem.run Tryz.prog (callFunc 147 #[.agg #[.pointer (some ⟨5,212,none⟩)]]) w=.ok (.value (.bool true)) w:=by
 rw [@run_callFunc_extern Tryz.prog 147 _ (Extern.ReflectliteType.method fun t=>do noPackHeld "Comparable" t;pure (.bool (<- typeInfo t).comparable)) Tryz.func147 (by kernel_rfl) (by kernel_rfl) (by kernel_rfl) (by kernel_rfl)]
 have h:((Extern.ReflectliteType.method fun t=>do noPackHeld "Comparable" t;pure (.bool (<- typeInfo t).comparable)) #[.agg #[.pointer (some ⟨5,212,none⟩)]]).run Tryz.prog w=.ok (.bool true) w:=by kernel_rfl
 rw [h];rfl
theorem Tryz.isMethodComparable (v:Value) (w:World):(Go.method 345 200 v "Comparable").run Tryz.prog w=.ok (147,v) w:=by kernel_rfl
theorem Tryz.isComp:(Tryz.prog.info? 212).map (·.comparable)=some true:=by kernel_rfl
theorem Tryz.isSize:(Tryz.prog.info? 234).map (·.size)=some 1:=by kernel_rfl
theorem is_nil (b:Addr) (w:World):Calls Tryz.prog 109 #[.nilIface,.iface 212 (.pointer (some b))] w fun e w'=>e=.returned (.bool false)/\w'=w:=by
 have hn:=run_eql_iface_nil_left (P:=Tryz.prog) w 212 (.pointer (some b)) Tryz.underlying114
 go_enter Tryz.func109,Tryz.ntmps109
 go_wp2
 go_ret
 exact ⟨rfl,rfl⟩
set_option maxRecDepth 100000 in
theorem is_same (a:Addr) (w:World) :
 Calls Tryz.prog 109 #[.iface 212 (.pointer (some a)),.iface 212 (.pointer (some a))] w fun e w'=>e=.returned (.bool true)/\w'=w:=by
 obtain ⟨i,hi,JX⟩:=Option.map_eq_some_iff.1 Tryz.isComp
 obtain ⟨j,hj,hjs⟩:=Option.map_eq_some_iff.1 Tryz.isSize
 have h8:=@run_callFunc_extern Tryz.prog 122 _ Extern.ReflectliteType.typeOf Tryz.func122 (by kernel_rfl) (by kernel_rfl) (by kernel_rfl) (by kernel_rfl)
 have tT:=Tryz.isTypeOf
 have cT:=Tryz.callCmp
 have mR:=Tryz.isMethodComparable
 have i8:=run_eql_iface_ptr_same (P:=Tryz.prog) w a Tryz.underlying114 Tryz.underlying212 hi JX hj
 clear hi JX hj hjs
 go_enter Tryz.func109,Tryz.ntmps109
 go_wp2
 refine wp_loop_rounds 1 ?_
 rw [rounds_succ]
 go_wp2
 go_ret
 exact ⟨rfl,rfl⟩
def yR (w:World):Prop:=∃ a,w.cell? ⟨0,0,none⟩=some (.iface 212 (.pointer (some a)))
theorem yR.but {m:Nat->Prop} {w w':World} (h:yR w) (hb:But m w w') (hm:¬ m 0):yR w':=by
 obtain ⟨a,h⟩:=h
 exact ⟨a,(hb.cell (fG w _ h) hm).trans h⟩
theorem yR.below {w w':World} (h:yR w) (hb:Below w.heap.size w w'):yR w':=h.but (m:=fun _=>False) (But.ofBelow hb) (fun h=>h)
def Apl (w:World) (aa l:Nat):Prop:=w.heap[aa]? = some (.cells #[.int .i64 (l:Nat)] 178 (0,0))
theorem Apl.cell {w:World} {aa l:Nat} (h:Apl w aa l):w.cell? ⟨aa,0,none⟩=some (.int .i64 (l:Nat))/\w.frozen? ⟨aa,0,none⟩=false/\aa<w.heap.size:=by
 unfold Apl at h
 exact ⟨by simp [World.cell?,h],by simp [World.frozen?,h],zZ h⟩
theorem Apl.below {w w':World} {aa l:Nat} (h:Apl w aa l) (hb:Below w.heap.size w w'):Apl w' aa l:=by unfold Apl;rw [hb.block aa (zZ h)];exact h
theorem Rep.low {F:Nat->Prop} {w:World} {d:DV} {v:Value} (h:Rep F w d v):Rep (fun i=>F i/\i<w.heap.size) w d v:=(Rep.keep fun _ _ hf ho=>⟨⟨hf,zZ ho⟩,ho⟩).1 _ _ h
theorem zX.low {F:Nat->Prop} {w:World} {d:List DV} {v:List Value} (h:zX F w d v):zX (fun i=>F i/\i<w.heap.size) w d v:=(Rep.keep fun _ _ hf ho=>⟨⟨hf,zZ ho⟩,ho⟩).2 _ _ h
theorem Rep.weak {F G:Nat->Prop} {w:World} {d:DV} {v:Value} (h:Rep F w d v) (k:∀ i,F i->G i):Rep G w d v:=(Rep.keep fun _ _ hf ho=>⟨k _ hf,ho⟩).1 _ _ h
def uQ (F:Nat->Prop) (w:World) (aa n:Nat):List Gf->Value->Prop
 | [],v=>v=.nilFunc
 | f :: st,v=>∃ (b1 b2 b3 b4 b5:Nat) (bp ev on:Value) (vv:Nat) (ss:List Bd),v=.func (.func 120) #[] #[.pointer (some ⟨b1,0,none⟩),.pointer (some ⟨b2,0,none⟩),.pointer (some ⟨b3,0,none⟩),.pointer (some ⟨b4,0,none⟩),.pointer (some ⟨b5,0,none⟩)] /\
     (F b1/\F b2/\F b3/\F b4/\F b5)/\w.cell? ⟨b1,0,none⟩=some bp/\Rep F w (qK (.ask vv ss f.yes f.no)) bp/\w.cell? ⟨b2,0,none⟩=some (.pointer (some ⟨aa,0,none⟩))/\w.cell? ⟨b3,0,none⟩=some ev/\Rep F w (.sl 156 4 f.env.length (qv f.env)) ev/\w.cell? ⟨b4,0,none⟩=some (.int .i64 (n:Nat))/\w.cell? ⟨b5,0,none⟩=some on/\uQ F w aa n st on
theorem uQ.but {F G:Nat->Prop} {w w':World} {aa n:Nat} {m:Nat->Prop} (hb:But m w w') (hF:∀ i,F i->¬ m i/\G i):∀ (st:List Gf) (v:Value),uQ F w aa n st v->uQ G w' aa n st v
 | [],v,h=>h
 | f::st,v,h=>by
   obtain ⟨b1,b2,b3,b4,b5,bp,ev,on,vv,ss,e,⟨n1,n2,n3,n4,n5⟩,c1,r1,c2,c3,r3,c4,c5,r5⟩:=h
   have k:∀ {b:Nat} {u:Value},F b->w.cell? ⟨b,0,none⟩=some u->w'.cell? ⟨b,0,none⟩=some u:=fun hn hc=>(hb.cell (fG w _ hc) (hF _ hn).1).trans hc
   exact ⟨b1,b2,b3,b4,b5,bp,ev,on,vv,ss,e,⟨(hF _ n1).2,(hF _ n2).2,(hF _ n3).2,(hF _ n4).2,(hF _ n5).2⟩,k n1 c1,r1.but hb hF,k n2 c2,k n3 c3,r3.but hb hF,k n4 c4,k n5 c5,uQ.but hb hF st on r5⟩
theorem uQ.low {F:Nat->Prop} {w:World} {aa n:Nat}:∀ (st:List Gf) (v:Value),uQ F w aa n st v->uQ (fun i=>F i/\i<w.heap.size) w aa n st v
 | [],v,h=>h
 | f::st,v,h=>by
   obtain ⟨b1,b2,b3,b4,b5,bp,ev,on,vv,ss,e,⟨n1,n2,n3,n4,n5⟩,c1,r1,c2,c3,r3,c4,c5,r5⟩:=h
   have lt:∀ {b:Nat} {u:Value},w.cell? ⟨b,0,none⟩=some u->b<w.heap.size:=fun hc=>fG w _ hc
   exact ⟨b1,b2,b3,b4,b5,bp,ev,on,vv,ss,e,⟨⟨n1,lt c1⟩,⟨n2,lt c2⟩,⟨n3,lt c3⟩,⟨n4,lt c4⟩,⟨n5,lt c5⟩⟩,c1,Rep.low r1,c2,c3,Rep.low r3,c4,c5,uQ.low st on r5⟩
mutual
def okM (B:Nat):Mn->Prop
 | .op o t=>zV t<=15/\o<=B
 | .bd t _ e=>zV t<=15/\e.length<=B/\yH B e
def yH (B:Nat):List Mn->Prop
 | []=>True
 | m::ms=>okM B m/\yH B ms
end
mutual
theorem okM_mono {B C:Nat} (h:B<=C):∀ m,okM B m->okM C m
 | .op o t,k=>by rw [okM] at *;exact ⟨k.1,by omega⟩
 | .bd t b e,k=>by rw [okM] at *;exact ⟨k.1,by omega,k_ h e k.2.2⟩
theorem k_ {B C:Nat} (h:B<=C):∀ ms,yH B ms->yH C ms
 | [],_=>by rw [yH];trivial
 | m::ms,k=>by rw [yH] at *;exact ⟨okM_mono h m k.1,k_ h ms k.2⟩
end
theorem jM {B:Nat}:∀ (a b:List Mn),yH B a->yH B b->yH B (a++b)
 | [],b,_,h=>h
 | x::a,b,h,k=>by rw [yH] at h;exact ⟨h.1,jM a b h.2 k⟩
theorem pg {B:Nat}:∀ (a:List Mn),yH B a->∀ (k:Nat) (m:Mn),a[k]? = some m->okM B m
 | [],_,k,m,h=>by simp at h
 | x::a,hs,k,m,h=>by
   rw [yH] at hs
   cases k with
   | zero=>simp at h;subst h;exact hs.1
   | succ k=>exact pg a hs.2 k m (by simpa using h)
theorem jP {B:Nat}:∀ (ts:List Ty) (n:Nat),(∀ t∈ts,zV t<=15)->n+ts.length<=B+1->yH B (opens n ts)
 | [],n,_,_=>by rw [opens];trivial
 | t::ts,n,h,hn=>by
   simp only [List.length_cons] at hn
   rw [opens,yH];exact ⟨by rw [okM];exact ⟨h t (by simp),by omega⟩,jP ts (n+1) (fun x hx=>h x (by simp [hx])) (by omega)⟩
theorem xi {B:Nat} {env:List Mn} (he:yH B env) (hl:env.length<=B):∀ (ts:List Ty) (ss:List Bd),(∀ t∈ts,zV t<=15)->yH B (owns env ts ss)
 | [],ss,_=>by
   rw [owns]
   ·trivial
   ·intros;contradiction
 | t::ts,[],_=>by
   rw [owns]
   ·trivial
   ·intros;contradiction
 | t::ts,s::ss,h=>by rw [owns,yH];exact ⟨by rw [okM];exact ⟨h t (by simp),hl,he⟩,xi he hl ts ss (fun x hx=>h x (by simp [hx]))⟩
def okGs (B:Nat):List Gf->Prop
 | []=>True
 | f::fs=>f.env.length<=B/\yH B f.env/\okGs B fs
theorem vF {B C:Nat} (h:B<=C):∀ fs,okGs B fs->okGs C fs
 | [],_=>trivial
 | f::fs,k=>⟨by have:=k.1;omega,k_ h _ k.2.1,vF h fs k.2.2⟩
theorem zi {t:Ty} (h:zV t<=15):(∀ a∈t.args,zV a<=15)/\t.args.length<=15:=by
 have hm:=qg t
 constructor
 ·intro a ha
  have key:∀ ts:List Ty,a∈ts->1+zV a<=za ts:=by
   intro ts
   induction ts with
   | nil=>intro h;simp at h
   | cons x xs ih =>
     intro h
     rcases List.mem_cons.1 h with rfl | h
     ·simp only [za];omega
     ·have:=ih h;simp only [za];omega
  have:=key _ ha;omega
 ·have:=qV t.args;omega
def kD (F:Nat->Prop) (aa:Nat) (o:Option (Bd×Nat)) (w:World) (en:Ending) (w':World):Prop :=
 But (· = aa) w w'/\(o=none->∃ a,en=.returned (.tuple #[.pointer none,.iface 212 (.pointer (some a))])/\w.cell? ⟨0,0,none⟩=some (.iface 212 (.pointer (some a)))) /\
  (∀ out l,o=some (out,l)->∃ v,en=.returned (.tuple #[v,.nilIface])/\Apl w' aa l/\Rep (fun i=>F i\/w.heap.size<=i) w' (qK out) v)
theorem kD.none {F:Nat->Prop} {aa:Nat} {o:Option (Bd×Nat)} {w w':World} {a:Addr} (ho:o=.none) (hb:But (· = aa) w w') (hc:w.cell? ⟨0,0,none⟩=some (.iface 212 (.pointer (some a)))) :
 kD F aa o w (.returned (.tuple #[.pointer none,.iface 212 (.pointer (some a))])) w' :=
 ⟨hb,fun _=>⟨a,rfl,hc⟩,fun _ _ h=>by rw [ho] at h;simp at h⟩
theorem kD.some {F:Nat->Prop} {aa:Nat} {o:Option (Bd×Nat)} {w w':World} {out:Bd} {l:Nat} {v:Value} (ho:o=.some (out,l)) (hb:But (· = aa) w w') (ha:Apl w' aa l) (hr:Rep (fun i=>F i\/w.heap.size<=i) w' (qK out) v) :
 kD F aa o w (.returned (.tuple #[v,.nilIface])) w' :=
 ⟨hb,fun h=>by rw [ho] at h;simp at h,fun _ _ h=>by rw [ho] at h;simp at h;obtain ⟨rfl,rfl⟩:=h;exact ⟨v,rfl,ha,hr⟩⟩
structure wT (F:Nat->Prop) (aa l d n:Nat) (H:List Ty) (b:Bd) (env:List Mn) (st:List Gf) (bv ev on:Value) (w:World):Prop where
 glob:yR w
 hF:∀ i,F i->i≠aa
 ng:aa≠0
 apl:Apl w aa l
 ld:l<=d
 d20:d<=20000
 fit:jz H b env st
 hn:H.length=n
 el:env.length+16*d<=1000000
 nl:n+16*d<=1000000
 ok:yH (1000000-16*d) env
 okg:okGs (1000000-16*d) st
 rb:Rep F w (qK b) bv
 re:Rep F w (.sl 156 4 env.length (qv env)) ev
 ro:uQ F w aa n st on
def wZ (d:Nat):Prop:=∀ (F:Nat->Prop) (aa l n:Nat) (H:List Ty) (b:Bd) (env:List Mn) (st:List Gf) (bv ev on:Value) (w:World),wT F aa l d n H b env st bv ev on w ->
 Calls Tryz.prog 108 #[.pointer (some ⟨aa,0,none⟩),bv,ev,.int .i64 (n:Nat),on] w (kD F aa (Go.Proofs.YtjggkhmojjaomaaGreatDoor.ev d l b env n st) w)
theorem after_any (d:Nat) (ih:wZ d) (F:Nat->Prop) (aa l n:Nat) (H:List Ty) (f:Gf) (st:List Gf) (b1 b2 b3 b4 b5:Nat) (bp ev on:Value) (vv:Nat) (ss:List Bd) (w:World) (c:UInt8) (hg:yR w) (hF:∀ i,F i->i≠aa) (hng:aa≠0) (ha:Apl w aa l) (oE:l<=d) (hd:d<=20000)
 (hf:jz H (if c=116 then f.yes else f.no) f.env st) (hn:H.length=n) (iY:f.env.length+16*d<=1000000) (iE:n+16*d<=1000000) (fa:yH (1000000-16*d) f.env) (FZ:okGs (1000000-16*d) st)
 (c1:w.cell? ⟨b1,0,none⟩=some bp) (r1:Rep F w (qK (.ask vv ss f.yes f.no)) bp) (c2:w.cell? ⟨b2,0,none⟩=some (.pointer (some ⟨aa,0,none⟩))) (c3:w.cell? ⟨b3,0,none⟩=some ev) (r3:Rep F w (.sl 156 4 f.env.length (qv f.env)) ev)
 (c4:w.cell? ⟨b4,0,none⟩=some (.int .i64 (n:Nat))) (c5:w.cell? ⟨b5,0,none⟩=some on) (r5:uQ F w aa n st on) :
 Calls Tryz.prog 120 #[.bool (decide (c=116)),.pointer (some ⟨b1,0,none⟩),.pointer (some ⟨b2,0,none⟩),.pointer (some ⟨b3,0,none⟩),.pointer (some ⟨b4,0,none⟩),.pointer (some ⟨b5,0,none⟩)] w (kD F aa (Go.Proofs.YtjggkhmojjaomaaGreatDoor.ev d l (if c=116 then f.yes else f.no) f.env n st) w):=by
 obtain ⟨bb,sl,yv,nv,rfl,_,fE,_,ry,rn⟩:=ux r1
 have q3:w.cell? ⟨bb,3,none⟩=some yv:=by simp [World.cell?,fE]
 have q4:w.cell? ⟨bb,4,none⟩=some nv:=by simp [World.cell?,fE]
 have IH:=fX ih
 have key:∀ (b:Bd) (bv:Value),jz H b f.env st->Rep F w (qK b) bv->Calls Tryz.prog 108 #[.pointer (some ⟨aa,0,none⟩),bv,ev,.int .i64 (n:Nat),on] w (kD F aa (Go.Proofs.YtjggkhmojjaomaaGreatDoor.ev d l b f.env n st) w) :=
  fun b bv hf hr=>IH.out F aa l n H b f.env st bv ev on w ⟨hg,hF,hng,ha,oE,hd,hf,hn,iY,iE,fa,FZ,hr,r3,r5⟩
 by_cases hc:c=116
 ·rw [if_pos hc] at hf ⊢
  rw [decide_eq_true hc]
  have K0:=key _ _ hf ry
  generalize Go.Proofs.YtjggkhmojjaomaaGreatDoor.ev d l f.yes f.env n st=o at *
  have K:=fX K0
  clear key K0 hf ry rn r1 r3 r5 fE IH ih fa FZ hg hF ha hn hc
  go_enter Tryz.func120,Tryz.ntmps120
  go_wp2_with fail
  (with_reducible refine K.out.mono ?_)
  rintro en w1 ⟨fA,mH,mX⟩
  cases o with
  | none =>
    obtain ⟨a,rfl,hc⟩:=mH rfl
    have HB:=fX (fW fA hc);clear fA mH mX hc
    go_wp2_with fail
    go_ret2
    exact kD.none rfl HB.out.1 HB.out.2
  | some x =>
    obtain ⟨v,rfl,ha,hr⟩:=mX x.1 x.2 rfl
    have HB:=fX (fW fA (fW ha hr));clear fA mH mX ha hr
    go_wp2_with fail
    go_ret2
    exact kD.some rfl HB.out.1 HB.out.2.1 HB.out.2.2
 ·rw [if_neg hc] at hf ⊢
  rw [decide_eq_false hc]
  have K0:=key _ _ hf rn
  generalize Go.Proofs.YtjggkhmojjaomaaGreatDoor.ev d l f.no f.env n st=o at *
  have K:=fX K0
  clear key K0 hf ry rn r1 r3 r5 fE IH ih fa FZ hg hF ha hn hc
  go_enter Tryz.func120,Tryz.ntmps120
  go_wp2_with fail
  (with_reducible refine K.out.mono ?_)
  rintro en w1 ⟨fA,mH,mX⟩
  cases o with
  | none =>
    obtain ⟨a,rfl,hc⟩:=mH rfl
    have HB:=fX (fW fA hc);clear fA mH mX hc
    go_wp2_with fail
    go_ret2
    exact kD.none rfl HB.out.1 HB.out.2
  | some x =>
    obtain ⟨v,rfl,ha,hr⟩:=mX x.1 x.2 rfl
    have HB:=fX (fW fA (fW ha hr));clear fA mH mX ha hr
    go_wp2_with fail
    go_ret2
    exact kD.some rfl HB.out.1 HB.out.2.1 HB.out.2.2
theorem vE {F:Nat->Prop} {w:World}:∀ (ms:List Mn) (us:List Value),zX F w (qv ms) us->∀ u∈us,u.oneCell'=true
 | [],us,h,u,hu=>by rw [qv,zC] at h;subst h;simp at hu
 | m::ms,us,h,u,hu=>by
   rw [qv] at h
   obtain ⟨h1,h2⟩:=h.split
   rw [xR] at h1 h2
   rw [<- List.take_append_drop 4 us] at hu
   rcases List.mem_append.1 hu with hu | hu
   ·cases m with
    | op o t =>
      simp only [b7,zQ,zC,zH] at h1
      obtain ⟨_,_,e,rfl,kv,_,rfl,hk,_,_,rfl,rfl,_,_,rfl,rfl,rfl⟩:=h1
      rw [e] at hu
      obtain ⟨kb,rfl⟩:=cv hk
      simp only [List.mem_cons,List.not_mem_nil,or_false] at hu
      rcases hu with rfl | rfl | rfl | rfl <;> rfl
    | bd t b en =>
      simp only [b7,zQ,zC,zH] at h1
      obtain ⟨_,_,e,rfl,_,_,rfl,rfl,bv,_,rfl,hk,sv,_,rfl,hs,rfl⟩:=h1
      rw [e] at hu
      obtain ⟨kb,rfl⟩:=kZ hk
      rw [zp] at hs
      obtain ⟨_,a,c,rfl,_⟩:=hs
      simp only [List.mem_cons,List.not_mem_nil,or_false] at hu
      rcases hu with rfl | rfl | rfl | rfl <;> rfl
   ·exact vE ms _ h2 u hu
theorem mean_at {F:Nat->Prop} {w:World} {env:List Mn} {ev:Value} (h:Rep F w (.sl 156 4 env.length (qv env)) ev) {v:Nat} {m:Mn} (hc:env[v]? = some m) :
 ∃ b o cap x0 x1 x2 x3,ev=.slice (some ⟨b,o,none⟩) env.length cap/\F b/\b<w.heap.size/\w.cell? ⟨b,o+v*4,none⟩=some x0/\w.cell? ⟨b,o+v*4+1,none⟩=some x1/\w.cell? ⟨b,o+v*4+2,none⟩=some x2/\w.cell? ⟨b,o+v*4+3,none⟩=some x3/\zX F w (b7 m) [x0,x1,x2,x3]:=by
 have hv:=(List.getElem?_eq_some_iff.1 hc).1
 rw [zp] at h
 obtain ⟨hl,a,cap,rfl,hn,hz,h⟩:=h
 rcases h with h0 | ⟨b,o,cs,fr,rfl,hb,hcs,hr⟩
 ·omega
 have oU:qv env=qv (env.take v)++(b7 m++qv (env.drop (v+1))):=by
  have e:env=env.take v++m::env.drop (v+1):=by
   have:env[v]=m:=(List.getElem?_eq_some_iff.1 hc).2
   rw [<- this,List.getElem_cons_drop,List.take_append_drop]
  conv=>lhs;rw [e]
  rw [vc,qv]
 rw [oU] at hr
 have h2:=hr.split.2
 rw [b6,List.length_take,Nat.min_eq_left (by omega)] at h2
 have h3:=h2.split.1
 rw [xR] at h3
 have hlen:=h3.length
 rw [xR] at hlen
 obtain ⟨x0,x1,x2,x3,e1⟩:∃ x0 x1 x2 x3,(((cs.toList.drop o).take (env.length*4)).drop (v*4)).take 4=[x0,x1,x2,x3]:=by
  match hq:(((cs.toList.drop o).take (env.length*4)).drop (v*4)).take 4,hlen with
  | [a,b,c,d],_=>exact ⟨a,b,c,d,rfl⟩
 rw [e1] at h3
 have get:∀ (j:Nat) (u':Value),j<4->[x0,x1,x2,x3][j]? = some u'->w.cell? ⟨b,o+v*4+j,none⟩=some u':=by
  intro j u' hj h
  rw [<- e1,List.getElem?_take,if_pos hj,List.getElem?_drop,List.getElem?_take,if_pos (by omega),List.getElem?_drop] at h
  simp only [World.cell?,hcs]
  simpa [Nat.add_assoc] using h
 exact ⟨b,o,cap,x0,x1,x2,x3,rfl,hb,zZ hcs,get 0 _ (by omega) rfl,get 1 _ (by omega) rfl,get 2 _ (by omega) rfl,get 3 _ (by omega) rfl,h3⟩
theorem dD (f:Nat->Bd->List Mn->Nat->List Gf->Option (Bd×Nat)) (env:List Mn) (n:Nat) (t:Ty) (s:Bd):∀ (ts:List Ty) (ss:List Bd) (l:Nat),ts.length=ss.length ->
 kQ f env n l (ts++[t]) (ss++[s])=(kQ f env n l ts ss).bind fun x=>(f x.2 s (env++opens n t.args) (n+t.args.length) []).bind fun y=>some (x.1++[y.1],y.2)
 | [],[],l,_=>by
   simp only [List.nil_append,kQ,Option.bind_eq_bind,Option.bind_some]
 | [],s'::ss,l,h=>by simp at h
 | t'::ts,[],l,h=>by simp at h
 | t'::ts,s'::ss,l,h=>by
   simp only [List.cons_append,kQ,Option.bind_eq_bind]
   cases h1:f l s' (env++opens n t'.args) (n+t'.args.length) [] with
   | none=>rfl
   | some x =>
     simp only [Option.bind_some]
     rw [dD f env n t s ts ss x.2 (by simpa using h)]
     cases h2:kQ f env n x.2 ts ss with
     | none=>rfl
     | some y =>
       simp only [Option.bind_some]
       cases h3:f y.2 s (env++opens n t.args) (n+t.args.length) [] with
       | none=>rfl
       | some z=>rfl
theorem evSubs_take {f:Nat->Bd->List Mn->Nat->List Gf->Option (Bd×Nat)} {env:List Mn} {n l k:Nat} {ts:List Ty} {ss:List Bd} {t:Ty} {s:Bd} (ht:ts[k]? = some t) (hs:ss[k]? = some s) :
 kQ f env n l (ts.take (k+1)) (ss.take (k+1))=(kQ f env n l (ts.take k) (ss.take k)).bind fun x=>(f x.2 s (env++opens n t.args) (n+t.args.length) []).bind fun y=>some (x.1++[y.1],y.2):=by
 have h1:=(List.getElem?_eq_some_iff.1 ht).1
 have h2:=(List.getElem?_eq_some_iff.1 hs).1
 rw [List.take_add_one,List.take_add_one,ht,hs]
 exact dD f env n t s _ _ l (by rw [List.length_take,List.length_take];omega)
theorem dF {f:Nat->Bd->List Mn->Nat->List Gf->Option (Bd×Nat)} {env:List Mn} {n:Nat}:∀ (k:Nat) (ts:List Ty) (ss:List Bd) (l:Nat),kQ f env n l (ts.take k) (ss.take k)=none->kQ f env n l ts ss=none
 | 0,ts,ss,l,h=>by simp [kQ] at h
 | k+1,[],ss,l,h=>by simp [kQ] at h
 | k+1,t::ts,[],l,h=>by simp [kQ] at h
 | k+1,t::ts,s::ss,l,h=>by
   simp only [List.take_succ_cons,kQ,Option.bind_eq_bind] at h ⊢
   cases h1:f l s (env++opens n t.args) (n+t.args.length) [] with
   | none=>rfl
   | some x =>
     rw [h1] at h
     simp only [Option.bind_some] at h ⊢
     cases h2:kQ f env n x.2 (ts.take k) (ss.take k) with
     | none=>rw [dF k ts ss x.2 h2];rfl
     | some y=>rw [h2] at h;simp at h
theorem dM {d:Nat} (ih:∀ (l:Nat) (b:Bd) (env:List Mn) (n:Nat) (st:List Gf) (r:Bd) (l':Nat),Go.Proofs.YtjggkhmojjaomaaGreatDoor.ev d l b env n st=some (r,l')->l'<=l) {env:List Mn} {n:Nat} :
 ∀ (ts:List Ty) (ss:List Bd) (l:Nat) (xs:List Bd) (l':Nat),kQ (Go.Proofs.YtjggkhmojjaomaaGreatDoor.ev d) env n l ts ss=some (xs,l')->l'<=l
 | [],ss,l,xs,l',h=>by simp [kQ] at h;omega
 | t::ts,[],l,xs,l',h=>by simp [kQ] at h;omega
 | t::ts,s::ss,l,xs,l',h=>by
   simp only [kQ,Option.bind_eq_bind,Option.bind_eq_some_iff,Prod.exists] at h
   obtain ⟨x,l1,h1,ys,l2,h2,h3⟩:=h
   simp at h3
   have k1:=ih _ _ _ _ _ _ _ h1
   have k2:=dM ih ts ss _ _ _ h2
   omega
theorem ev_left (d:Nat):∀ (l:Nat) (b:Bd) (env:List Mn) (n:Nat) (st:List Gf) (r:Bd) (l':Nat),Go.Proofs.YtjggkhmojjaomaaGreatDoor.ev d l b env n st=some (r,l')->l'<=l:=by
 induction d with
 | zero=>intro l b env n st r l' h;simp [Go.Proofs.YtjggkhmojjaomaaGreatDoor.ev] at h
 | succ d ih =>
   intro l b env n st r l' h
   cases l with
   | zero=>rw [ev.eq_def] at h;simp at h
   | succ l =>
     cases b with
     | leaf c =>
       by_cases hc:c=117
       ·subst hc;rw [ev_u] at h;simp at h;omega
       ·cases st with
        | nil=>rw [gb] at h;simp at h;omega
        | cons f st=>rw [xN hc] at h;have:=ih _ _ _ _ _ _ _ h;omega
     | ask v ss y no =>
       cases hv:env[v]? with
       | none=>rw [ev.eq_def] at h;simp [hv] at h
       | some m =>
         cases m with
         | bd t b' e=>rw [eT hv] at h;have:=ih _ _ _ _ _ _ _ h;omega
         | op o t =>
           rw [eS hv] at h
           simp only [Option.bind_eq_some_iff,Prod.exists] at h
           obtain ⟨xs,l1,h1,x,l2,h2,z,l3,h3,h4⟩:=h
           simp at h4
           have k1:=dM ih _ _ _ _ _ h1
           have k2:=ih _ _ _ _ _ _ _ h2
           have k3:=ih _ _ _ _ _ _ _ h3
           omega
theorem wG (xs:List Bd) (x:Bd):jJ (xs++[x])=jJ xs++[qK x]:=by
 induction xs with
 | nil=>simp [jJ]
 | cons y ys ih=>simp [jJ,ih]
structure KInv (F:Nat->Prop) (aa l n d o:Nat) (env:List Mn) (ts:List Ty) (ss:List Bd) (kv:Value) (w:World) (k lk:Nat) (outs:List Bd) (sv:Value) (us:List Value) (wr:World):Prop where
 evk:kQ (Go.Proofs.YtjggkhmojjaomaaGreatDoor.ev d) env n l (ts.take k) (ss.take k)=some (outs,lk)
 ol:outs.length=k
 but:But (· = aa) w wr
 zw:w.heap.size+2<=wr.heap.size
 apl:Apl wr aa lk
 lkl:lk<=l
 box:wr.heap[w.heap.size]? = some (.cells #[.int .i64 (o:Nat),kv,.pointer none,.slice none 0 0] 156 (0,0))
 blk:wr.heap[w.heap.size+1]? = some (.cells #[str [],.int .i64 (o:Nat),sv,.pointer none,.pointer none] 68 (0,0))
 own:Own wr 34 1 sv k us
 rep:zX (fun i=>((F i/\i<w.heap.size)\/w.heap.size+2<=i)/\sv.ownBlock≠some i) wr (jJ outs) us
 fr:∀ g,sv.ownBlock=some g->w.heap.size+2<=g
theorem wB {w:World} {P:Nat} {a b c d e:Value} {T:TypeId} (h:w.heap[P]? = some (.cells #[a,b,c,d,e] T (0,0))):w.cell? ⟨P,0,none⟩=some a/\w.cell? ⟨P,1,none⟩=some b/\w.cell? ⟨P,2,none⟩=some c/\w.cell? ⟨P,3,none⟩=some d/\w.cell? ⟨P,4,none⟩=some e/\(∀ o,w.frozen? ⟨P,o,none⟩=false) :=
 ⟨by simp [World.cell?,h],by simp [World.cell?,h],by simp [World.cell?,h],by simp [World.cell?,h],by simp [World.cell?,h],fun o=>by simp [World.frozen?,h]⟩
theorem kH {w:World} {P:Nat} {a b c d:Value} {T:TypeId} (h:w.heap[P]? = some (.cells #[a,b,c,d] T (0,0))):w.cell? ⟨P,0,none⟩=some a/\w.cell? ⟨P,1,none⟩=some b/\w.cell? ⟨P,2,none⟩=some c/\w.cell? ⟨P,3,none⟩=some d :=
 ⟨by simp [World.cell?,h],by simp [World.cell?,h],by simp [World.cell?,h],by simp [World.cell?,h]⟩
theorem Own.src {w:World} {e:TypeId} {sz n:Nat} {v:Value} {xs:List Value} (h:Own w e sz v n xs) (hc:∀ u∈xs,u.oneCell'=true):zq sz v n xs w:=by
 refine ⟨h.1,hc,?_⟩
 rcases h.2 with ⟨e,h0⟩ | ⟨g,cap,cur,e,_,hg,_,_,_,ht⟩
 ·exact .inr ⟨e,h0⟩
 ·refine .inl ⟨_,cap,e,fun j u hj=>?_⟩
  rw [<- ht,List.getElem?_take] at hj
  split at hj
  ·unfold Addr.add
   split
   ·subst j;simp only [World.cell?,hg];simpa using hj
   ·simp only [World.cell?,hg];simpa using hj
  ·simp at hj
structure KeptPre (F:Nat->Prop) (aa l d n o vv:Nat) (H:List Ty) (t:Ty) (ss:List Bd) (y no:Bd) (env:List Mn) (st:List Gf) (bv kv ev on:Value) (w:World):Prop where
 glob:yR w
 hF:∀ i,F i->i≠aa
 ng:aa≠0
 apl:Apl w aa l
 ld:l<=d
 d20:d<=20000
 hlen:ss.length=t.args.length
 at15:zV t<=15
 sub:∀ (k:Nat) (a:Ty) (s:Bd),t.args[k]? = some a->ss[k]? = some s->jz (H++a.args) s (env++opens H.length a.args) []
 fy:jz H y env st
 fn:jz H no env st
 hn:H.length=n
 el:env.length+16*(d+1)<=1000000
 nl:n+16*(d+1)<=1000000
 ok:yH (1000000-16*(d+1)) env
 okg:okGs (1000000-16*(d+1)) st
 rb:Rep F w (qK (.ask vv ss y no)) bv
 rk:Rep F w (jS t) kv
 re:Rep F w (.sl 156 4 env.length (qv env)) ev
 ro:uQ F w aa n (⟨y,no,env⟩::st) on
def xQ (d l n o:Nat) (t:Ty) (ss:List Bd) (y no:Bd) (env:List Mn) (st:List Gf):Option (Bd×Nat) :=
 (kQ (Go.Proofs.YtjggkhmojjaomaaGreatDoor.ev d) env n l t.args ss).bind fun x=>(Go.Proofs.YtjggkhmojjaomaaGreatDoor.ev d x.2 y env n st).bind fun z=>(Go.Proofs.YtjggkhmojjaomaaGreatDoor.ev d z.2 no env n st).bind fun u=>some (.ask o x.1 z.1 u.1,u.2)
set_option maxRecDepth 100000 in
theorem kept_any (d:Nat) (ih:wZ d) (F:Nat->Prop) (aa l n o vv:Nat) (H:List Ty) (t:Ty) (ss:List Bd) (y no:Bd) (env:List Mn) (st:List Gf) (bv kv ev on:Value) (w:World) (h:KeptPre F aa l d n o vv H t ss y no env st bv kv ev on w) :
 Calls Tryz.prog 121 #[.pointer (some ⟨aa,0,none⟩),bv,.agg #[.int .i64 (o:Nat),kv,.pointer none,.slice none 0 0],ev,.int .i64 (n:Nat),on] w (kD F aa (xQ d l n o t ss y no env st) w):=by
 have HP:=fX h
 have IH:=fX ih
 obtain ⟨bb,sl,yv,nv,e,ah,fE,nU,_,_⟩:=ux h.rb
 subst e
 obtain ⟨kb,ks,e,hkF,sG,D0⟩:=kK h.rk
 subst e
 obtain ⟨sa,sc,e,_,_,BN⟩:=zP nU
 subst e
 obtain ⟨ka,kc,e,_,_,lE⟩:=zP D0
 subst e
 obtain ⟨exs,Ci,aD⟩:=zq.ofRep h.re (vE env)
 obtain ⟨ea,ec,e⟩:=aD.slice
 subst e
 obtain ⟨b1,b2,b3,b4,b5,bp,ev5,on5,vv5,ss5,e,⟨n1,n2,n3,n4,n5⟩,c1,r1,c2,c3,r3,c4,c5,r5⟩:=h.ro
 subst e
 have F9:ss.length<=15:=by rw [h.hlen];exact (zi h.at15).2
 have hl16':t.args.length<=15:=(zi h.at15).2
 have Kl:=fX h.hlen
 have iE:=h.nl
 have iY:=h.el
 have hbaa:=h.hF _ ah
 have hkaa:=h.hF _ hkF
 have f_:=zZ fE
 have rZ:=zZ sG
 have Hm:=h.apl.cell.2.2
 have I5:w.cell? ⟨bb,2,none⟩=some (.slice sa ss.length sc):=by simp [World.cell?,fE]
 have Al:w.cell? ⟨kb,0,none⟩=some (.slice ka t.args.length kc):=by simp [World.cell?,sG]
 have HA:=fX (fW BN (fW lE (fW Ci aD)))
 have HC:=fX (fW (fW n1 (fW n2 (fW n3 (fW n4 n5)))) (fW c1 (fW r1 (fW c2 (fW c3 (fW r3 (fW c4 (fW c5 r5))))))))
 clear h ih fE nU sG D0 BN lE Ci aD n1 n2 n3 n4 n5 c1 r1 c2 c3 r3 c4 c5 r5 ah hkF
 go_enter Tryz.func121,Tryz.ntmps121
 go_wp2_with fail
 go_loopw [31] (fun i wr=>∃ (k lk:Nat) (outs:List Bd) (sv:Value) (us:List Value),k<=ss.length/\i=.int .i64 k/\KInv F aa l n d o env t.args ss (.pointer (some ⟨kb,0,none⟩)) w k lk outs sv us wr) (fun i _=>ss.length-(intOf i).toNat)
 case atStart =>
  refine ⟨0,l,[],.slice none 0 0,[],Nat.zero_le _,rfl,?_⟩
  have rU:Below w.heap.size w ((w.alloc (.cells #[.int .i64 (o:Nat),.pointer (some ⟨kb,0,none⟩),.pointer none,.slice none 0 0] 156)).alloc (.cells #[str [],.int .i64 (o:Nat),.slice none 0 0,.pointer none,.pointer none] 68)):=((fH _ _).alloc (fP _) _).alloc (by rw [zK];omega) _
  refine { evk:=by simp [kQ],ol:=rfl,but:=But.ofBelow rU,zw:=by simp,apl:=HP.out.apl.below rU,lkl:=fP _,box:=zY (zG _ _),blk:=?_,own:=World.ownsRow_nil _ _ _ _,rep:=by simp [jJ,zC],fr:=fun g hg=>by simp [Value.ownBlock] at hg }
  have:=zG (w.alloc (.cells #[.int .i64 (o:Nat),.pointer (some ⟨kb,0,none⟩),.pointer none,.slice none 0 0] 156)) (.cells #[str [],.int .i64 (o:Nat),.slice none 0 0,.pointer none,.pointer none] 68)
  rwa [zK] at this
 case round =>
  rename_i wr
  obtain ⟨k,lk,outs,sv,us,hk,rfl,fL⟩:=hrel
  have HI:=fX fL;clear fL
  by_cases fT:k<ss.length
  ·have mT:(k:Int)<(ss.length:Int):=by omega
   have hlta:k<t.args.length:=by have:=Kl.out;omega
   have hlta':(k:Int)<(t.args.length:Int):=by omega
   obtain ⟨sb,so,u,d1,e,lq,FF,oS,rD,rQ⟩:=HA.out.1 k fT
   subst e
   rw [xV,Option.map_eq_some_iff] at oS
   obtain ⟨s,hs,rfl⟩:=oS
   obtain ⟨ub,rfl⟩:=kZ rQ
   obtain ⟨lh,AB,u2,d2,e,C8,Iz,Ao,rx,mz⟩:=HA.out.2.1 k hlta
   subst e
   rw [pB,Option.map_eq_some_iff] at Ao
   obtain ⟨a,ha,rfl⟩:=Ao
   obtain ⟨kab,s2,rfl,hF3,Jt,FS⟩:=kK mz
   obtain ⟨a3,k3,rfl⟩:∃ a3 k3,s2=.slice a3 a.args.length k3:=by have h:=FS;rw [zp] at h;obtain ⟨_,a,c,e,_⟩:=h;exact ⟨a,c,e⟩
   have lm:zV a<=15:=(zi HP.out.at15).1 a (List.mem_of_getElem? ha)
   have lA:=(zi lm).2
   have kF:∀ {b:Nat} {j:Nat} {x:Value},F b->w.cell? ⟨b,j,none⟩=some x->wr.cell? ⟨b,j,none⟩=some x:=fun hb hc=>(HI.out.but.cell (fG w _ hc) (HP.out.hF _ hb)).trans hc
   have q0:=kF lq rD
   have q1:wr.cell? ⟨kb,0,none⟩=some (.slice (some ⟨lh,AB,none⟩) t.args.length kc):=(HI.out.but.cell rZ hkaa).trans Al
   have q2:=kF C8 rx
   have q3:wr.cell? ⟨kab,0,none⟩=some (.slice a3 a.args.length k3):=kF hF3 (by simp [World.cell?,Jt])
   obtain ⟨x0,x1,x2,x3⟩:=kH HI.out.box
   have mu:zq 4 (.slice ea env.length ec) env.length exs wr:=srcSl_but HI.out.but (fun b hb=>HP.out.hF b hb) HP.out.re HA.out.2.2.2
   have HK:=fX (fW hs (fW rQ (fW ha (fW FS mu))))
   have oZ:=HI.out.zw
   clear hs rQ ha mz FS Jt mu kF rD rx lq C8 hF3 Al I5
   go_wp2_with (at_builtin;refine zE rfl _ _ 153 rfl 156 (.agg #[.int .i64 0,.pointer none,.pointer none,.slice none 0 0]) 4 48 Tryz.underlying153 Tryz.infoMn rfl (by decide) (.slice none 0 0) 0 [] rfl ?a1 _ env.length exs rfl ?a2 ?a3 ?a4 ?_)
   case a1=>exact World.ownsRow_nil _ _ _ _
   case a2=>exact HK.out.2.2.2.2
   case a3=>unfold maxLen;omega
   case a4=>omega
   intro a6 c6 w6 Du fO DA
   have si:Below wr.heap.size wr w6:=fO.toBelow (fP _) (fun i _ e=>by simp [Value.ownBlock] at e)
   have EX:∀ g,(Value.slice a6 env.length c6).ownBlock=some g->wr.heap.size<=g:=fun g hg=>by
    rcases DA g hg with h | h
    ·simp [Value.ownBlock] at h
    ·omega
   have IZ:Rep (fun i=>F i/\i<w.heap.size) w6 (.sl 33 1 a.args.length (jL a.args)) (.slice a3 a.args.length k3) :=
    Rep.below si (fun _ h=>h) ((Rep.low HK.out.2.2.2.1).but HI.out.but (fun b hb=>⟨HP.out.hF b hb.1,hb⟩))
   have C7:=fX (cN (fun i=>F i/\i<w.heap.size) n a.args (.slice a3 a.args.length k3) w6 IZ (by omega) (by omega))
   have H6:=fX (fW Du (fW si EX));clear Du fO DA si EX IZ x0 x1 x2 x3 q0 q1 q2 q3
   go_wp2_with fail
   (with_reducible refine C7.out.mono ?_)
   rintro en w7 ⟨a7,c7,xs7,rfl,fm,sg,fS,iU⟩
   clear C7
   have I_:Own w7 156 4 (.slice a6 env.length c6) env.length exs:=H6.out.1.keep fun g o hg hh=>by rw [fS.block g (zZ hh)];exact hh
   have EK:=fm.src (vE _ _ sg)
   have J3:Below wr.heap.size wr w7:=zzT H6.out.2.1 fS
   have H7:=fX (fW I_ (fW EK (fW sg J3)));clear I_ EK sg J3 fm fS iU
   go_wp2_with (at_builtin;refine zE rfl _ _ 153 rfl 156 (.agg #[.int .i64 0,.pointer none,.pointer none,.slice none 0 0]) 4 48 Tryz.underlying153 Tryz.infoMn rfl (by decide) (.slice a6 env.length c6) env.length exs rfl ?e1 _ a.args.length xs7 rfl ?e2 ?e3 ?e4 ?_)
   case e1=>exact H7.out.1
   case e2=>exact H7.out.2.1
   case e3=>unfold maxLen;omega
   case e4=>omega
   intro a8 c8 w8 EQ mJ JG
   have hz67:=H7.out.2.2.2.size
   have D_:Below wr.heap.size wr w8:=H7.out.2.2.2.trans (mJ.toBelow hz67 fun i hi e=>by have:=H6.out.2.2 i e;omega)
   have sJ:∀ g,(Value.slice a8 (env.length+a.args.length) c8).ownBlock=some g->wr.heap.size<=g:=fun g hg=>by
    rcases JG g hg with h | h
    ·exact H6.out.2.2 g h
    ·omega
   have ic:But (· = aa) w w8:=HI.out.but.trans (But.ofBelow D_)
   have Kq:∀ i,(((F i/\i<w.heap.size)\/w.heap.size+2<=i)/\sv.ownBlock≠some i)->i≠aa:=fun i hi=>by
    rcases hi.1 with hi | hi
    ·exact HP.out.hF i hi.1
    ·omega
   have DP:∀ i,i<w.heap.size->sv.ownBlock≠some i:=fun i hi e=>by have:=HI.out.fr i e;omega
   have IF:∀ i,sv.ownBlock=some i->i<wr.heap.size:=fun i e=>HI.out.own.lt e
   have lowB:∀ {dv:DV} {v:Value},Rep F w dv v->Rep (fun i=>((F i/\i<w.heap.size)\/w.heap.size+2<=i)/\sv.ownBlock≠some i) w8 dv v:=fun h=>(Rep.low h).but ic (fun b hb=>⟨HP.out.hF b hb.1,.inl hb,DP b hb.2⟩)
   have I1:Rep (fun i=>((F i/\i<w.heap.size)\/w.heap.size+2<=i)/\sv.ownBlock≠some i) w8 (.sl 156 4 (env++opens n a.args).length (qv (env++opens n a.args))) (.slice a8 (env.length+a.args.length) c8):=by
    rw [List.length_append,kT,vc]
    refine EQ.rep (fun g hg=>⟨.inr (by have:=sJ g hg;omega),fun e=>by have:=sJ g hg;have:=IF g e;omega⟩) (zX.append ?_ ?_)
    ·exact (zX.low HA.out.2.2.1).but ic (fun b hb=>⟨HP.out.hF b hb.1,.inl hb,DP b hb.2⟩)
    ·refine (Rep.keep fun b o hf hh=>⟨⟨.inl hf,DP b hf.2⟩,?_⟩).2 _ _ H7.out.2.2.1
     rw [mJ.block b (zZ hh) (fun e=>by have:=H6.out.2.2 b e;have:=hf.2;omega)];exact hh
   have fj:wT (fun i=>((F i/\i<w.heap.size)\/w.heap.size+2<=i)/\sv.ownBlock≠some i) aa lk d (n+a.args.length) (H++a.args) s (env++opens n a.args) [] (.pointer (some ⟨ub,0,none⟩)) (.slice a8 (env.length+a.args.length) c8) .nilFunc w8 :=
    { glob:=HP.out.glob.but ic (fun e=>HP.out.ng e.symm),hF:=Kq,ng:=HP.out.ng,apl:=HI.out.apl.below D_,ld:=fD HI.out.lkl HP.out.ld,d20:=HP.out.d20,
      fit:=by have:=HP.out.sub k a s HK.out.2.2.1 HK.out.1;rwa [HP.out.hn] at this,hn:=by rw [List.length_append,HP.out.hn],el:=by rw [List.length_append,kT];omega,nl:=by omega,
      ok:=jM _ _ (k_ (by omega) _ HP.out.ok) (jP _ _ (zi lm).1 (by omega)),okg:=trivial,rb:=lowB HK.out.2.1,re:=I1,ro:=rfl }
   have C9:=IH.out _ aa lk (n+a.args.length) (H++a.args) s (env++opens n a.args) [] (.pointer (some ⟨ub,0,none⟩)) (.slice a8 (env.length+a.args.length) c8) .nilFunc w8 fj
   rw [Int.natCast_add] at C9
   have me:=evSubs_take (f:=Go.Proofs.YtjggkhmojjaomaaGreatDoor.ev d) (env:=env) (n:=n) (l:=l) HK.out.2.2.1 HK.out.1
   rw [HI.out.evk] at me
   simp only [Option.bind_some] at me
   generalize rK:Go.Proofs.YtjggkhmojjaomaaGreatDoor.ev d lk s (env++opens n a.args) (n+a.args.length) []=oev at *
   have C9':=fX C9
   have H8:=fX (fW D_ (fW ic (fW me rK)));clear C9 fj I1 Kq D_ sJ ic mJ JG EQ me rK lowB DP IF
   go_wp2_with fail
   (with_reducible refine C9'.out.mono ?_)
   rintro en w9 ⟨mj,oD,oQ⟩
   cases oev with
   | none =>
     obtain ⟨KA,rfl,Cq⟩:=oD rfl
     have tW:xQ d l n o t ss y no env st=none:=by
      have:=H8.out.2.2.1
      simp only [Option.bind_none] at this
      unfold xQ
      rw [dF (k+1) _ _ _ this];rfl
     have Cj:w.cell? ⟨0,0,none⟩=some (.iface 212 (.pointer (some KA))):=by
      obtain ⟨a0,h0⟩:=HP.out.glob
      have:=(H8.out.2.1.cell (fG w _ h0) (fun e=>HP.out.ng e.symm)).trans h0
      rw [this] at Cq
      rw [h0];exact Cq
     have HF:=fX (fW tW (fW (H8.out.2.1.trans mj) Cj));clear tW Cj mj oD oQ Cq
     go_wp2_with fail
     go_ret2
     exact kD.none HF.out.1 HF.out.2.1 HF.out.2.2
   | some x =>
     obtain ⟨v,rfl,ha9,oW⟩:=oQ x.1 x.2 rfl
     obtain ⟨vb,rfl⟩:=kZ oW
     obtain ⟨lp,lw,e⟩:=HI.out.own.slice
     subst e
     have hz8:=H8.out.1.size
     have hz9:=mj.size
     have GJ:w9.heap[w.heap.size+1]? = some (.cells #[str [],.int .i64 (o:Nat),.slice lp k lw,.pointer none,.pointer none] 68 (0,0)):=by
      rw [mj.block _ (by omega) (by omega),H8.out.1.block _ (by omega)];exact HI.out.blk
     have KF:w9.heap[w.heap.size]? = some (.cells #[.int .i64 (o:Nat),.pointer (some ⟨kb,0,none⟩),.pointer none,.slice none 0 0] 156 (0,0)):=by
      rw [mj.block _ (by omega) (by omega),H8.out.1.block _ (by omega)];exact HI.out.box
     have Ik:Own w9 34 1 (.slice lp k lw) k us:=HI.out.own.keep fun g o hg hh=>by
      have h1:=HI.out.fr g hg
      have h2:=zZ hh
      rw [mj.block g (by omega) (by omega),H8.out.1.block g h2];exact hh
     have hll:=ev_left _ _ _ _ _ _ _ _ (H8.out.2.2.2)
     have DY:=HI.out.lkl
     obtain ⟨y0,y1,y2,y3,y4,yf⟩:=wB GJ
     have H9:=fX (fW mj (fW ha9 (fW oW (fW GJ (fW KF Ik)))));clear mj oD oQ ha9 oW GJ KF Ik y0 y1 y3 y4 yf
     go_wp2_with (at_builtin;refine zE rfl _ _ 66 rfl 34 (.pointer none) 1 8 Tryz.underlying66 Tryz.infoB rfl (by decide) (.slice lp k lw) k us rfl ?f1 _ 1 [.pointer (some ⟨vb,0,none⟩)] rfl ?f2 ?f3 ?f4 ?_)
     case f1=>exact H9.out.2.2.2.2.2.alloc _
     case f2=>exact zq.lit1 #[.pointer (some ⟨vb,0,none⟩)] rfl (by simp [Value.oneCell']) _ (by simp)
     case f3=>unfold maxLen;omega
     case f4=>omega
     intro DH El a_ Je sA JL
     have hz10:=sA.size
     rw [zK] at hz10
     have i1:∀ i,(Value.slice lp k lw).ownBlock=some i->w.heap.size+2<=i/\i<wr.heap.size:=fun i e=>⟨HI.out.fr i e,HI.out.own.lt e⟩
     have Dd:a_.heap[w.heap.size+1]? = some (.cells #[str [],.int .i64 (o:Nat),.slice lp k lw,.pointer none,.pointer none] 68 (0,0)):=by
      rw [sA.block _ (by rw [zK];omega) (fun e=>by have:=i1 _ e;omega),Below.heap_alloc _ _ _ (by omega)];exact H9.out.2.2.2.1
     obtain ⟨y0,y1,y2,y3,y4,yf⟩:=wB Dd
     have yf2:=yf 2
     have AG:∀ (g:Nat) (ob:Obj),g≠w.heap.size+1->a_.heap[g]? = some ob->(a_.setCell ⟨w.heap.size+1,2,none⟩ (.slice DH (k+1) El)).heap[g]? = some ob:=fun g ob hg hh=>by
      rw [fB _ _ _ _ (by show g≠w.heap.size+1;exact hg)];exact hh
     have past:∀ (g:Nat) (ob:Obj),(Value.slice lp k lw).ownBlock≠some g->w9.heap[g]? = some ob->a_.heap[g]? = some ob:=fun g ob hg hh=>by
      rw [sA.block g (by rw [zK];have:=zZ hh;omega) hg,Below.heap_alloc _ _ _ (zZ hh)];exact hh
     have fL:KInv F aa l n d o env t.args ss (.pointer (some ⟨kb,0,none⟩)) w (k+1) x.2 (outs++[x.1]) (.slice DH (k+1) El) (us++[.pointer (some ⟨vb,0,none⟩)]) (a_.setCell ⟨w.heap.size+1,2,none⟩ (.slice DH (k+1) El)):=by
      have An:∀ g,(Value.slice DH (k+1) El).ownBlock=some g->(Value.slice lp k lw).ownBlock=some g\/w9.heap.size<g:=fun g hg=>by
       rcases JL g hg with h | h
       ·exact .inl h
       ·exact .inr (by omega)
      refine { evk:=H8.out.2.2.1,ol:=by rw [List.length_append,HI.out.ol];rfl,but:=?_,zw:=by simp [World.setCell];omega,apl:=?_,lkl:=by omega,box:=?_,blk:=?_,own:=?_,rep:=?_,fr:=fun g hg=>?_ }
      ·have h1:But (· = aa) w a_:=((H8.out.2.1.trans H9.out.1).alloc _).trans' sA fun i hi e=>by have:=i1 i e;omega
       exact h1.setCell (p:=⟨w.heap.size+1,2,none⟩) (.inr (by show w.heap.size<=w.heap.size+1;omega)) _
      ·exact AG _ _ (by omega) (past _ _ (fun e=>by have:=i1 _ e;omega) H9.out.2.1)
      ·exact AG _ _ (by omega) (past _ _ (fun e=>by have:=i1 _ e;omega) H9.out.2.2.2.2.1)
      ·rw [zy Dd];rfl
      ·exact Je.keep fun g ob hg hh=>AG _ _ (by
        rcases An g hg with h | h
        ·have:=i1 g h;omega
        ·omega) hh
      ·rw [wG]
       refine zX.append ?_ (zX.one ?_)
       ·refine (Rep.keep fun b ob hf hh=>?_).2 _ _ HI.out.rep
        have hb:=zZ hh
        have hne:b≠aa/\b≠w.heap.size+1:=by
         rcases hf.1 with h | h
         ·exact ⟨HP.out.hF b h.1,by omega⟩
         ·omega
        refine ⟨⟨hf.1,fun e=>?_⟩,AG _ _ hne.2 (past _ _ hf.2 ?_)⟩
        ·rcases An b e with h | h
         ·exact hf.2 h
         ·omega
        ·rw [H9.out.1.block b (by omega) hne.1,H8.out.1.block b hb];exact hh
       ·refine (Rep.keep fun b ob hf hh=>?_).1 _ _ H9.out.2.2.1
        have hf:(((F b/\b<w.heap.size)\/w.heap.size+2<=b)/\(Value.slice lp k lw).ownBlock≠some b)\/w8.heap.size<=b:=hf
        have hb:=zZ hh
        have IG:(Value.slice lp k lw).ownBlock≠some b:=by
         rcases hf with h | h
         ·exact h.2
         ·intro e;have:=i1 b e;omega
        have i6:((F b/\b<w.heap.size)\/w.heap.size+2<=b):=by
         rcases hf with h | h
         ·exact h.1
         ·exact .inr (by omega)
        refine ⟨⟨i6,fun e=>?_⟩,AG _ _ (by rcases i6 with h | h <;> omega) (past _ _ IG hh)⟩
        rcases An b e with h | h
        ·exact IG h
        ·omega
      ·rcases An g hg with h | h
       ·exact (i1 g h).1
       ·omega
     have HN:=fX fL;clear fL AG past Dd y0 y1 y3 y4 yf Je sA JL i1
     go_wp2_with fail
     go_roundw
     case rel=>exact ⟨k+1,x.2,outs++[x.1],.slice DH (k+1) El,us++[.pointer (some ⟨vb,0,none⟩)],by omega,by go_num,HN.out⟩
     case measure=>simp [intOf];omega
  ·obtain rfl:k=ss.length:=by omega
   have mA:=HI.out.evk
   rw [List.take_length,List.take_of_length_le (by have:=Kl.out;omega)] at mA
   have AFT:Hid (∀ (X:World) (l':Nat),But (· = aa) w X->Apl X aa l'->l'<=l ->
    Calls Tryz.prog 120 #[.bool true,.pointer (some ⟨b1,0,none⟩),.pointer (some ⟨b2,0,none⟩),.pointer (some ⟨b3,0,none⟩),.pointer (some ⟨b4,0,none⟩),.pointer (some ⟨b5,0,none⟩)] X (kD (fun i=>F i/\i<w.heap.size) aa (Go.Proofs.YtjggkhmojjaomaaGreatDoor.ev d l' y env n st) X) /\
    Calls Tryz.prog 120 #[.bool false,.pointer (some ⟨b1,0,none⟩),.pointer (some ⟨b2,0,none⟩),.pointer (some ⟨b3,0,none⟩),.pointer (some ⟨b4,0,none⟩),.pointer (some ⟨b5,0,none⟩)] X (kD (fun i=>F i/\i<w.heap.size) aa (Go.Proofs.YtjggkhmojjaomaaGreatDoor.ev d l' no env n st) X)):=by
    show ∀ (X:World) (l':Nat),_->_
    intro X l' tm haX hlX
    obtain ⟨⟨n1,n2,n3,n4,n5⟩,c1,r1,c2,c3,r3,c4,c5,r5⟩:=HC.out
    have kX:∀ {b:Nat} {x:Value},F b->w.cell? ⟨b,0,none⟩=some x->X.cell? ⟨b,0,none⟩=some x:=fun hb hc=>(tm.cell (fG w _ hc) (HP.out.hF _ hb)).trans hc
    have sK:∀ b,(F b/\b<w.heap.size)->¬ (b=aa)/\(F b/\b<w.heap.size):=fun b hb=>⟨HP.out.hF b hb.1,hb⟩
    have key:=fun c hf=>after_any d IH.out (fun i=>F i/\i<w.heap.size) aa l' n H ⟨y,no,env⟩ st b1 b2 b3 b4 b5 bp ev5 on5 vv5 ss5 X c (HP.out.glob.but tm (fun e=>HP.out.ng e.symm)) (fun i hi=>HP.out.hF i hi.1) HP.out.ng haX (by have:=HP.out.ld;omega) HP.out.d20
     hf HP.out.hn (by show env.length+_<=_;omega) (by omega) (k_ (by omega) _ HP.out.ok) (vF (by omega) _ HP.out.okg)
     (kX n1 c1) ((Rep.low r1).but tm sK) (kX n2 c2) (kX n3 c3) ((Rep.low r3).but tm sK) (kX n4 c4) (kX n5 c5) (uQ.but tm sK _ _ (uQ.low _ _ r5))
    exact ⟨key 116 HP.out.fy,key 102 HP.out.fn⟩
   have DY:=HI.out.lkl
   have C1:=fX (AFT.out wr lk HI.out.but HI.out.apl DY).1
   have oZ:=HI.out.zw
   obtain ⟨lp,lw,e⟩:=HI.out.own.slice
   subst e
   have HFU:=fX mA;clear mA
   generalize JT:Go.Proofs.YtjggkhmojjaomaaGreatDoor.ev d lk y env n st=o1 at *
   have HE1:=fX JT;clear JT
   go_wp2_with fail
   (with_reducible refine C1.out.mono ?_)
   rintro en w1 ⟨fA,mH,mX⟩
   clear C1
   cases o1 with
   | none =>
     obtain ⟨KA,rfl,Cq⟩:=mH rfl
     have tW:xQ d l n o t ss y no env st=none:=by
      unfold xQ
      rw [HFU.out];simp only [Option.bind_some];rw [HE1.out];rfl
     have Cj:w.cell? ⟨0,0,none⟩=some (.iface 212 (.pointer (some KA))):=by
      obtain ⟨a0,h0⟩:=HP.out.glob
      have:=(HI.out.but.cell (fG w _ h0) (fun e=>HP.out.ng e.symm)).trans h0
      rw [this] at Cq
      rw [h0];exact Cq
     have iZ:=fA.size
     have A6:w1.heap[w.heap.size+1]? = some (.cells #[str [],.int .i64 (o:Nat),.slice lp ss.length lw,.pointer none,.pointer none] 68 (0,0)):=by
      rw [fA.block _ (by omega) (by omega)];exact HI.out.blk
     obtain ⟨_,_,_,y3,_,yf⟩:=wB A6
     have yf3:=yf 3;clear yf
     have ah:But (· = aa) w (w1.setCell ⟨w.heap.size+1,3,none⟩ (.pointer none)):=(HI.out.but.trans fA).setCell (p:=⟨w.heap.size+1,3,none⟩) (.inr (by show w.heap.size<=w.heap.size+1;omega)) _
     have HF:=fX (fW tW (fW ah Cj));clear tW Cj fA mH mX Cq ah A6
     go_wp2_with fail
     go_ret2
     exact kD.none HF.out.1 HF.out.2.1 HF.out.2.2
   | some z =>
     obtain ⟨v1,rfl,Bi,nZ⟩:=mX z.1 z.2 rfl
     obtain ⟨zb,rfl⟩:=kZ nZ
     have hl1:=ev_left _ _ _ _ _ _ _ _ HE1.out
     have iZ:=fA.size
     have A6:w1.heap[w.heap.size+1]? = some (.cells #[str [],.int .i64 (o:Nat),.slice lp ss.length lw,.pointer none,.pointer none] 68 (0,0)):=by
      rw [fA.block _ (by omega) (by omega)];exact HI.out.blk
     obtain ⟨_,_,_,y3,_,yf⟩:=wB A6
     have yf3:=yf 3;clear yf
     obtain ⟨W2,mV⟩:=zzN (w1.setCell ⟨w.heap.size+1,3,none⟩ (.pointer (some ⟨zb,0,none⟩)))
     have fN:But (· = aa) w W2:=by rw [<- mV];exact (HI.out.but.trans fA).setCell (p:=⟨w.heap.size+1,3,none⟩) (.inr (by show w.heap.size<=w.heap.size+1;omega)) _
     have lU:∀ (g:Nat) (ob:Obj),g≠w.heap.size+1->w1.heap[g]? = some ob->W2.heap[g]? = some ob:=fun g ob hg hh=>by
      rw [<- mV,fB _ _ _ _ (by show g≠w.heap.size+1;exact hg)];exact hh
     have KG:W2.heap[w.heap.size+1]? = some (.cells #[str [],.int .i64 (o:Nat),.slice lp ss.length lw,.pointer (some ⟨zb,0,none⟩),.pointer none] 68 (0,0)):=by
      rw [<- mV,zy A6];rfl
     have te:Apl W2 aa z.2:=lU _ _ (by omega) Bi
     have C2:=fX (AFT.out W2 z.2 fN te (by omega)).2
     have nF:W2.heap.size=w1.heap.size:=by rw [<- mV];simp [World.setCell]
     have al:=fX nF;clear nF
     have nC:Rep (fun i=>(F i/\i<w.heap.size)\/wr.heap.size<=i) W2 (qK z.1) (.pointer (some ⟨zb,0,none⟩)):=(Rep.keep fun b ob hf hh=>⟨hf,lU _ _ (by rcases hf with h | h <;> omega) hh⟩).1 _ _ nZ
     have Il:Own W2 34 1 (.slice lp ss.length lw) ss.length us:=HI.out.own.keep fun g ob hg hh=>by
      have h1:=HI.out.fr g hg
      exact lU _ _ (by omega) (by rw [fA.block g (zZ hh) (by omega)];exact hh)
     have Ig:zX (fun i=>((F i/\i<w.heap.size)\/w.heap.size+2<=i)/\i≠aa) W2 (jJ outs) us:=(Rep.keep fun b ob hf hh=>by
      have hne:b≠aa/\b≠w.heap.size+1:=by
       rcases hf.1 with h | h
       ·exact ⟨HP.out.hF b h.1,by omega⟩
       ·omega
      exact ⟨⟨hf.1,hne.1⟩,lU _ _ hne.2 (by rw [fA.block b (zZ hh) hne.1];exact hh)⟩).2 _ _ HI.out.rep
     generalize JS:Go.Proofs.YtjggkhmojjaomaaGreatDoor.ev d z.2 no env n st=o2 at *
     have H2:=fX (fW fN (fW KG (fW nC (fW Il (fW Ig (fW JS mV))))));clear fN KG nC Il Ig JS mV lU fA mH mX Bi nZ A6 te
     go_wp2_with fail
     rw [H2.out.2.2.2.2.2.2]
     (with_reducible refine C2.out.mono ?_)
     rintro en w3 ⟨fv,Aj,lY⟩
     clear C2
     have sE:=fv.size
     have G1:=al.out
     have Em:w3.heap[w.heap.size+1]? = some (.cells #[str [],.int .i64 (o:Nat),.slice lp ss.length lw,.pointer (some ⟨zb,0,none⟩),.pointer none] 68 (0,0)):=by
      rw [fv.block _ (by omega) (by omega)];exact H2.out.2.1
     clear G1
     obtain ⟨_,_,_,_,y4,yf⟩:=wB Em
     have yf4:=yf 4;clear yf
     cases o2 with
     | none =>
       obtain ⟨KA,rfl,Cq⟩:=Aj rfl
       have tW:xQ d l n o t ss y no env st=none:=by
        unfold xQ
        rw [HFU.out];simp only [Option.bind_some];rw [HE1.out];simp only [Option.bind_some];rw [H2.out.2.2.2.2.2.1];rfl
       have Cj:w.cell? ⟨0,0,none⟩=some (.iface 212 (.pointer (some KA))):=by
        obtain ⟨a0,h0⟩:=HP.out.glob
        have:=(H2.out.1.cell (fG w _ h0) (fun e=>HP.out.ng e.symm)).trans h0
        rw [this] at Cq
        rw [h0];exact Cq
       have ah:But (· = aa) w (w3.setCell ⟨w.heap.size+1,4,none⟩ (.pointer none)):=(H2.out.1.trans fv).setCell (p:=⟨w.heap.size+1,4,none⟩) (.inr (by show w.heap.size<=w.heap.size+1;omega)) _
       have HF:=fX (fW tW (fW ah Cj));clear tW Cj fv Aj lY Cq ah Em
       go_wp2_with fail
       go_ret2
       exact kD.none HF.out.1 HF.out.2.1 HF.out.2.2
     | some q =>
       obtain ⟨v3,rfl,Kh,tN⟩:=lY q.1 q.2 rfl
       obtain ⟨qb,rfl⟩:=kZ tN
       have EJ:xQ d l n o t ss y no env st=some (.ask o outs z.1 q.1,q.2):=by
        unfold xQ
        rw [HFU.out];simp only [Option.bind_some];rw [HE1.out];simp only [Option.bind_some];rw [H2.out.2.2.2.2.2.1];rfl
       have ah:But (· = aa) w (w3.setCell ⟨w.heap.size+1,4,none⟩ (.pointer (some ⟨qb,0,none⟩))):=(H2.out.1.trans fv).setCell (p:=⟨w.heap.size+1,4,none⟩) (.inr (by show w.heap.size<=w.heap.size+1;omega)) _
       have pastF:∀ (g:Nat) (ob:Obj),g≠w.heap.size+1->w3.heap[g]? = some ob->(w3.setCell ⟨w.heap.size+1,4,none⟩ (.pointer (some ⟨qb,0,none⟩))).heap[g]? = some ob:=fun g ob hg hh=>by
        rw [fB _ _ _ _ (by show g≠w.heap.size+1;exact hg)];exact hh
       have blkF:(w3.setCell ⟨w.heap.size+1,4,none⟩ (.pointer (some ⟨qb,0,none⟩))).heap[w.heap.size+1]? = some (.cells #[str [],.int .i64 (o:Nat),.slice lp ss.length lw,.pointer (some ⟨zb,0,none⟩),.pointer (some ⟨qb,0,none⟩)] 68 (0,0)):=by
        rw [zy Em];rfl
       have haF:Apl (w3.setCell ⟨w.heap.size+1,4,none⟩ (.pointer (some ⟨qb,0,none⟩))) aa q.2:=pastF _ _ (by omega) Kh
       have G1:=al.out
       have stay:∀ (b:Nat) (ob:Obj),b≠aa->b≠w.heap.size+1->W2.heap[b]? = some ob->(w3.setCell ⟨w.heap.size+1,4,none⟩ (.pointer (some ⟨qb,0,none⟩))).heap[b]? = some ob:=fun b ob h1 h2 hh =>
        pastF _ _ h2 (by rw [fv.block b (zZ hh) h1];exact hh)
       have B0:Rep (fun i=>F i\/w.heap.size<=i) (w3.setCell ⟨w.heap.size+1,4,none⟩ (.pointer (some ⟨qb,0,none⟩))) (qK (.ask o outs z.1 q.1)) (.pointer (some ⟨w.heap.size+1,0,none⟩)):=by
        rw [qK,jd]
        refine ⟨_,_,rfl,.inr (by omega),blkF,?_⟩
        simp only [zQ,zC,zH]
        have az:=HI.out.ol
        refine ⟨_,_,rfl,rfl,_,_,rfl,rfl,_,_,rfl,?_,_,_,rfl,?_,_,_,rfl,?_,rfl⟩
        ·rw [az]
         refine Own.rep (xs:=us) (H2.out.2.2.2.1.keep fun g ob hg hh=>stay _ _ (by have:=HI.out.fr g hg;omega) (by have:=HI.out.fr g hg;omega) hh) (fun g hg=>.inr (by have:=HI.out.fr g hg;omega)) ?_
         refine (Rep.keep fun b ob hf hh=>⟨?_,stay _ _ hf.2 (by rcases hf.1 with h | h <;> omega) hh⟩).2 _ _ H2.out.2.2.2.2.1
         rcases hf.1 with h | h
         ·exact .inl h.1
         ·exact .inr (by omega)
        ·refine (Rep.keep fun b ob hf hh=>⟨?_,stay _ _ ?_ (by rcases hf with h | h <;> omega) hh⟩).1 _ _ H2.out.2.2.1
         ·rcases hf with h | h
          ·exact .inl h.1
          ·exact .inr (by omega)
         ·rcases hf with h | h
          ·exact HP.out.hF b h.1
          ·omega
        ·refine (Rep.keep fun b ob hf hh=>⟨?_,pastF _ _ ?_ hh⟩).1 _ _ tN
         ·rcases hf with h | h
          ·exact .inl h.1
          ·exact .inr (by omega)
         ·rcases hf with h | h <;> omega
       have HF:=fX (fW EJ (fW ah (fW haF B0)));clear EJ ah haF B0 stay blkF pastF fv Aj lY Kh tN Em G1
       go_wp2_with fail
       go_ret2
       exact kD.some HF.out.1 HF.out.2.1 HF.out.2.2.1 HF.out.2.2.2
end Go.Proofs.YtjggkhmojjaomaaGreatDoor
namespace Go.Proofs.YtjggkhmojjaomaaGreatDoor
open Go.RowKit
theorem ev_zero (d:Nat) (b:Bd) (env:List Mn) (n:Nat) (st:List Gf):Go.Proofs.YtjggkhmojjaomaaGreatDoor.ev d 0 b env n st=none:=by
 cases d with
 | zero=>rw [ev.eq_def]
 | succ d=>rw [ev.eq_def]
theorem owns_take {env:List Mn}:∀ (ts:List Ty) (ss:List Bd) (k:Nat) (t:Ty) (s:Bd),ts[k]? = some t->ss[k]? = some s->owns env (ts.take (k+1)) (ss.take (k+1))=owns env (ts.take k) (ss.take k)++[.bd t s env]
 | [],ss,k,t,s,h,_=>by simp at h
 | t'::ts,[],k,t,s,_,h=>by simp at h
 | t'::ts,s'::ss,k,t,s,h1,h2=>by
   cases k with
   | zero =>
     simp at h1 h2;subst h1;subst h2
     simp only [List.take_succ_cons,List.take_zero,owns]
     rfl
   | succ k =>
     simp only [List.getElem?_cons_succ] at h1 h2
     rw [List.take_succ_cons,List.take_succ_cons,List.take_succ_cons,List.take_succ_cons,owns,owns,owns_take ts ss k t s h1 h2];rfl
theorem uQ.form {F:Nat->Prop} {w:World} {aa n:Nat}:∀ {st:List Gf} {on:Value},uQ F w aa n st on->on=.nilFunc\/∃ cs,on=.func (.func 120) #[] cs
 | [],on,h=>.inl h
 | f::st,on,h=>by
   obtain ⟨b1,b2,b3,b4,b5,bp,ev,o5,vv,ss,e,_⟩:=h
   exact .inr ⟨_,e⟩
theorem Tryz.goesNil (w:World):Sem.run Tryz.prog (binOp .eql 192 .nilFunc .nilFunc) w=.ok (.bool true) w:=by kernel_rfl
theorem Tryz.goesFn (f:Fn) (a b:Array Value) (w:World):Sem.run Tryz.prog (binOp .eql 192 (.func f a b) .nilFunc) w=.ok (.bool false) w:=by kernel_rfl
theorem boxes5 (w:World) (p b e l o:Value) (T1 T2 T3 T4 T5:TypeId):∃ W,((((w.alloc (.cells #[p] T1)).alloc (.cells #[b] T2)).alloc (.cells #[e] T3)).alloc (.cells #[l] T4)).alloc (.cells #[o] T5)=W/\Below w.heap.size w W/\w.heap.size+5<=W.heap.size /\
 W.cell? ⟨w.heap.size,0,none⟩=some p/\W.cell? ⟨w.heap.size+1,0,none⟩=some b/\W.cell? ⟨w.heap.size+1+1,0,none⟩=some e/\W.cell? ⟨w.heap.size+1+1+1,0,none⟩=some l/\W.cell? ⟨w.heap.size+1+1+1+1,0,none⟩=some o:=by
 have key:∀ (w:World) (v:Value) (T:TypeId),(w.alloc (.cells #[v] T)).cell? ⟨w.heap.size,0,none⟩=some v:=fun w v T=>by simp
 have k1:=key w p T1
 have k2:=key (w.alloc (.cells #[p] T1)) b T2
 have k3:=key ((w.alloc (.cells #[p] T1)).alloc (.cells #[b] T2)) e T3
 have k4:=key (((w.alloc (.cells #[p] T1)).alloc (.cells #[b] T2)).alloc (.cells #[e] T3)) l T4
 have k5:=key ((((w.alloc (.cells #[p] T1)).alloc (.cells #[b] T2)).alloc (.cells #[e] T3)).alloc (.cells #[l] T4)) o T5
 simp only [zK] at k2 k3 k4 k5
 refine ⟨_,rfl,?_,by simp only [zK];omega,zJ (zJ (zJ (zJ k1))),zJ (zJ (zJ k2)),zJ (zJ k3),zJ k4,k5⟩
 exact (((((fH w.heap.size w).alloc (fP _) _).alloc (by simp only [zK];omega) _).alloc (by simp only [zK];omega) _).alloc (by simp only [zK];omega) _).alloc (by simp only [zK];omega) _
set_option maxRecDepth 100000 in
theorem eval_out (F:Nat->Prop) (aa d n bb:Nat) (ea:Option Addr) (el ec:Nat) (b:Bd) (env:List Mn) (st:List Gf) (on:Value) (w:World) (lB:on=.nilFunc\/∃ cs,on=.func (.func 120) #[] cs) (hg:yR w) (hng:aa≠0) (ha:Apl w aa 0) :
 Calls Tryz.prog 108 #[.pointer (some ⟨aa,0,none⟩),.pointer (some ⟨bb,0,none⟩),.slice ea el ec,.int .i64 (n:Nat),on] w (kD F aa (Go.Proofs.YtjggkhmojjaomaaGreatDoor.ev d 0 b env n st) w):=by
 rw [ev_zero]
 obtain ⟨W,hW,fq,r_,q1,q2,q3,q4,q5⟩:=boxes5 w (.pointer (some ⟨aa,0,none⟩)) (.pointer (some ⟨bb,0,none⟩)) (.slice ea el ec) (.int .i64 (n:Nat)) on 176 34 153 3 192
 obtain ⟨c0,f0,lt0⟩:=(ha.below fq).cell
 have c0':W.cell? ⟨aa,0,none⟩=some (.int .i64 0):=c0
 obtain ⟨a0,sV⟩:=hg
 have rD:=(fq.cell (fG w _ sV)).trans sV
 have HG:=fX (fW sV (fW hW fq))
 clear ha c0 sV hW fq
 rcases lB with rfl | ⟨cs,rfl⟩
 all_goals
  go_enter Tryz.func108,Tryz.ntmps108
  go_upto_region 1 with (fail)
  rw [HG.out.2.1]
  go_wp2_with fail
  go_quiet (fail)
  go_wp2_with fail
  go_ret2
  refine kD.none rfl ?_ HG.out.1
  exact But.ofBelow (j9 HG.out.2.2 _)
theorem wE {w:World} {aa l n bb:Nat} {ea:Option Addr} {el ec:Nat} {on:Value} {T1 T2 T3 T4 T5:TypeId} (ha:Apl w aa (l+1)) :
 ∃ W W2,((((w.alloc (.cells #[.pointer (some ⟨aa,0,none⟩)] T1)).alloc (.cells #[.pointer (some ⟨bb,0,none⟩)] T2)).alloc (.cells #[.slice ea el ec] T3)).alloc (.cells #[.int .i64 (n:Nat)] T4)).alloc (.cells #[on] T5)=W/\W.setCell ⟨aa,0,none⟩ (.int .i64 (l:Nat))=W2 /\
   W.cell? ⟨w.heap.size,0,none⟩=some (.pointer (some ⟨aa,0,none⟩))/\W.cell? ⟨aa,0,none⟩=some (.int .i64 ((l+1:Nat):Int))/\W.frozen? ⟨aa,0,none⟩=false /\
   But (· = aa) w W2/\Apl W2 aa l/\w.heap.size+5<=W2.heap.size /\
   W2.cell? ⟨w.heap.size,0,none⟩=some (.pointer (some ⟨aa,0,none⟩))/\W2.cell? ⟨w.heap.size+1,0,none⟩=some (.pointer (some ⟨bb,0,none⟩))/\W2.cell? ⟨w.heap.size+1+1,0,none⟩=some (.slice ea el ec)/\W2.cell? ⟨w.heap.size+1+1+1,0,none⟩=some (.int .i64 (n:Nat))/\W2.cell? ⟨w.heap.size+1+1+1+1,0,none⟩=some on:=by
 obtain ⟨W,hW,fq,r_,q1,q2,q3,q4,q5⟩:=boxes5 w (.pointer (some ⟨aa,0,none⟩)) (.pointer (some ⟨bb,0,none⟩)) (.slice ea el ec) (.int .i64 (n:Nat)) on T1 T2 T3 T4 T5
 have haW:=ha.below fq
 obtain ⟨c0,f0,lt0⟩:=haW.cell
 have fT:=ha.cell.2.2
 have fN:But (· = aa) W (W.setCell ⟨aa,0,none⟩ (.int .i64 (l:Nat))):=(But.refl (· = aa) W).setCell (p:=⟨aa,0,none⟩) (.inl rfl) _
 have past:∀ (b:Nat) (v:Value),w.heap.size<=b->W.cell? ⟨b,0,none⟩=some v->(W.setCell ⟨aa,0,none⟩ (.int .i64 (l:Nat))).cell? ⟨b,0,none⟩=some v:=fun b v hb hc=>(fN.cell (fG W _ hc) (fun e=>by have e:b=aa:=e;omega)).trans hc
 refine ⟨W,_,hW,rfl,q1,c0,f0,(But.ofBelow fq).trans fN,?_,by simpa [World.setCell] using r_,past _ _ (by omega) q1,past _ _ (by omega) q2,past _ _ (by omega) q3,past _ _ (by omega) q4,past _ _ (by omega) q5⟩
 unfold Apl at *
 rw [zy haW];rfl
set_option maxRecDepth 100000 in
theorem eval_end (F:Nat->Prop) (aa d l n bb:Nat) (ea:Option Addr) (el ec:Nat) (c:UInt8) (env:List Mn) (st:List Gf) (on:Value) (w:World) (hF:∀ i,F i->i≠aa) (ha:Apl w aa (l+1)) (hl:l<=20000) (rb:Rep F w (qK (.leaf c)) (.pointer (some ⟨bb,0,none⟩)))
 (h:(c=117/\(on=.nilFunc\/∃ cs,on=.func (.func 120) #[] cs))\/(c≠117/\on=.nilFunc/\st=[])) :
 Calls Tryz.prog 108 #[.pointer (some ⟨aa,0,none⟩),.pointer (some ⟨bb,0,none⟩),.slice ea el ec,.int .i64 (n:Nat),on] w (kD F aa (Go.Proofs.YtjggkhmojjaomaaGreatDoor.ev (d+1) (l+1) (.leaf c) env n st) w):=by
 have rK:Go.Proofs.YtjggkhmojjaomaaGreatDoor.ev (d+1) (l+1) (.leaf c) env n st=some (.leaf c,l):=by
  rcases h with ⟨rfl,_⟩ | ⟨hc,_,rfl⟩
  ·rw [ev_u]
  ·rw [gb]
 rw [rK]
 clear rK
 obtain ⟨W,W2,hW,mV,q0,q1,f1,fN,te,nF,p0,p1,p2,p3,p4⟩:=wE (n:=n) (bb:=bb) (ea:=ea) (el:=el) (ec:=ec) (on:=on) (T1:=176) (T2:=34) (T3:=153) (T4:=3) (T5:=192) ha
 have aL:Rep F W2 (qK (.leaf c)) (.pointer (some ⟨bb,0,none⟩)):=rb.but fN (fun b hb=>⟨hF b hb,hb⟩)
 obtain ⟨b',sl,e,_,fE,_⟩:=x6 aL
 cases e
 have r0:W2.cell? ⟨bb,0,none⟩=some (str [c]):=by simp [World.cell?,fE]
 have q1':W.cell? ⟨aa,0,none⟩=some (.int .i64 ((l:Int)+1)):=q1
 have DX:((l:Int)+1 == 0)=false:=by rw [beq_eq_false_iff_ne];omega
 have HW:=fX (fW hW (fW mV (fW fN (fW te aL))))
 have CL:=fX (yC F W2 c (.pointer (some ⟨bb,0,none⟩)) aL)
 clear hW mV fN te aL rb ha q1 fE
 rcases h with ⟨rfl,rfl | ⟨cs,rfl⟩⟩ | ⟨hc,rfl,rfl⟩
 ·go_enter Tryz.func108,Tryz.ntmps108
  go_upto_region 1 with (fail)
  rw [HW.out.1]
  go_upto_region 4 with (fail)
  rw [HW.out.2.1]
  go_wp2_with fail
  go_ret2
  exact kD.some rfl HW.out.2.2.1 HW.out.2.2.2.1 (HW.out.2.2.2.2.weak fun i h=>.inl h)
 ·go_enter Tryz.func108,Tryz.ntmps108
  go_upto_region 1 with (fail)
  rw [HW.out.1]
  go_upto_region 4 with (fail)
  rw [HW.out.2.1]
  go_wp2_with fail
  go_ret2
  exact kD.some rfl HW.out.2.2.1 HW.out.2.2.2.1 (HW.out.2.2.2.2.weak fun i h=>.inl h)
 ·have hcc:([c] == [117])=false:=by simpa using hc
  have hgn:=Tryz.goesNil
  go_enter Tryz.func108,Tryz.ntmps108
  go_upto_region 1 with (fail)
  rw [HW.out.1]
  go_upto_region 4 with (fail)
  rw [HW.out.2.1]
  go_wp2_with fail
  (with_reducible refine CL.out.mono ?_)
  rintro en w3 ⟨rfl,rfl⟩
  go_wp2_with fail
  go_ret2
  exact kD.some rfl HW.out.2.2.1 HW.out.2.2.2.1 (HW.out.2.2.2.2.weak fun i h=>.inl h)
theorem bj {F:Nat->Prop} {aa:Nat} {o:Option (Bd×Nat)} {w:World} {a0:Addr} (hc:w.cell? ⟨0,0,none⟩=some (.iface 212 (.pointer (some a0)))) {P:Program} {f:FuncId} {args:Array Value} (h:Calls P f args w (kD F aa o w)) :
 (o=none->Calls P f args w fun en w'=>en=.returned (.tuple #[.pointer none,.iface 212 (.pointer (some a0))])/\But (· = aa) w w') /\
 (∀ x,o=some x->Calls P f args w fun en w'=>∃ vb,en=.returned (.tuple #[.pointer (some ⟨vb,0,none⟩),.nilIface])/\But (· = aa) w w'/\Apl w' aa x.2/\Rep (fun i=>F i\/w.heap.size<=i) w' (qK x.1) (.pointer (some ⟨vb,0,none⟩))):=by
 refine ⟨fun ho=>h.mono ?_,fun x ho=>h.mono ?_⟩
 ·rintro en w' ⟨hb,hn,_⟩
  obtain ⟨a,rfl,ha⟩:=hn ho
  rw [hc] at ha
  simp at ha;subst ha
  exact ⟨rfl,hb⟩
 ·rintro en w' ⟨hb,_,hy⟩
  obtain ⟨v,rfl,ha,hr⟩:=hy x.1 x.2 ho
  obtain ⟨vb,rfl⟩:=kZ hr
  exact ⟨vb,rfl,hb,ha,hr⟩
set_option maxRecDepth 100000 in
theorem eval_back (d:Nat) (ih:wZ d) (F:Nat->Prop) (aa l n bb:Nat) (H:List Ty) (ea:Option Addr) (el ec:Nat) (c:UInt8) (env:List Mn) (f:Gf) (st:List Gf) (on:Value) (w:World) (hc:c≠117)
 (h:wT F aa (l+1) (d+1) n H (.leaf c) env (f::st) (.pointer (some ⟨bb,0,none⟩)) (.slice ea el ec) on w) :
 Calls Tryz.prog 108 #[.pointer (some ⟨aa,0,none⟩),.pointer (some ⟨bb,0,none⟩),.slice ea el ec,.int .i64 (n:Nat),on] w (kD F aa (Go.Proofs.YtjggkhmojjaomaaGreatDoor.ev (d+1) (l+1) (.leaf c) env n (f::st)) w):=by
 rw [xN hc]
 obtain ⟨b1,b2,b3,b4,b5,bp,ev5,on5,vv5,ss5,e,⟨n1,n2,n3,n4,n5⟩,c1,r1,c2,c3,r3,c4,c5,r5⟩:=h.ro
 subst e
 have oE:=h.ld
 have D5:=h.d20
 have iY:=h.okg.1
 have iE:=h.nl
 obtain ⟨W,W2,hW,mV,q0,q1,f1,fN,te,nF,p0,p1,p2,p3,p4⟩:=wE (n:=n) (bb:=bb) (ea:=ea) (el:=el) (ec:=ec) (on:=.func (.func 120) #[] #[.pointer (some ⟨b1,0,none⟩),.pointer (some ⟨b2,0,none⟩),.pointer (some ⟨b3,0,none⟩),.pointer (some ⟨b4,0,none⟩),.pointer (some ⟨b5,0,none⟩)]) (T1:=176) (T2:=34) (T3:=153) (T4:=3) (T5:=192) h.apl
 have hF:∀ b,F b->¬ (b=aa)/\F b:=fun b hb=>⟨h.hF b hb,hb⟩
 have aL:Rep F W2 (qK (.leaf c)) (.pointer (some ⟨bb,0,none⟩)):=h.rb.but fN hF
 obtain ⟨b',sl,e,Ct,fE,_⟩:=x6 aL
 cases e
 have r0:W2.cell? ⟨bb,0,none⟩=some (str [c]):=by simp [World.cell?,fE]
 have q1':W.cell? ⟨aa,0,none⟩=some (.int .i64 ((l:Int)+1)):=q1
 have DX:((l:Int)+1 == 0)=false:=by rw [beq_eq_false_iff_ne];omega
 have CL:=fX (yC F W2 c (.pointer (some ⟨bb,0,none⟩)) aL)
 have fv:But (· = aa) w W2.drew:=fN.drew
 have kX:∀ {b:Nat} {x:Value},F b->w.cell? ⟨b,0,none⟩=some x->W2.drew.cell? ⟨b,0,none⟩=some x:=fun hb hc=>(fv.cell (fG w _ hc) (h.hF _ hb)).trans hc
 have JC:=h.glob.but fv (fun e=>h.ng e.symm)
 obtain ⟨a0,sV⟩:=JC
 have C:=after_any d ih F aa l n H f st b1 b2 b3 b4 b5 bp ev5 on5 vv5 ss5 W2.drew c ⟨a0,sV⟩ h.hF h.ng te (by omega) (by omega) (h.fit.back c) h.hn (by omega) (by omega) (k_ (by omega) _ h.okg.2.1) (vF (by omega) _ h.okg.2.2)
  (kX n1 c1) (r1.but fv hF) (kX n2 c2) (kX n3 c3) (r3.but fv hF) (kX n4 c4) (kX n5 c5) (uQ.but fv hF _ _ r5)
 have Cj:w.cell? ⟨0,0,none⟩=some (.iface 212 (.pointer (some a0))):=by
  obtain ⟨a1,h1⟩:=h.glob
  have:=(fv.cell (fG w _ h1) (fun e=>h.ng e.symm)).trans h1
  rw [this] at sV
  rw [h1];exact sV
 have CT:=bj sV C
 have hcc:([c] == [117])=false:=by simpa using hc
 have hgn:=Tryz.goesFn
 have G1:w.heap.size<=W2.drew.heap.size:=fv.size
 have Hm:=h.apl.cell.2.2
 have Cs:=h.hF _ Ct
 have KS:Hid (∀ w',But (· = aa) W2.drew w'->w'.cell? ⟨w.heap.size+1+1+1+1,0,none⟩=some (.func (.func 120) #[] #[.pointer (some ⟨b1,0,none⟩),.pointer (some ⟨b2,0,none⟩),.pointer (some ⟨b3,0,none⟩),.pointer (some ⟨b4,0,none⟩),.pointer (some ⟨b5,0,none⟩)])/\w'.cell? ⟨w.heap.size+1,0,none⟩=some (.pointer (some ⟨bb,0,none⟩))/\w'.cell? ⟨bb,0,none⟩=some (str [c])):=by
  show ∀ w',_->_
  intro w' hb
  have k:∀ (b:Nat) (v:Value),b≠aa->W2.cell? ⟨b,0,none⟩=some v->w'.cell? ⟨b,0,none⟩=some v:=fun b v hn hc=>(hb.cell (fG W2 _ hc) hn).trans hc
  exact ⟨k _ _ (by omega) p4,k _ _ (by omega) p1,k _ _ Cs r0⟩
 have HW:=fX (fW hW (fW mV (fW fv Cj)))
 clear hW mV fN fv te aL q1 fE C sV Cj kX hF c1 r1 c2 c3 r3 c4 c5 r5 n1 n2 n3 n4 n5 h ih
 generalize EY:decide (c=116)=bo at *
 have Hl:([c] == [116])=bo:=by rw [<- EY,Bool.eq_iff_iff];simp
 clear EY
 generalize Go.Proofs.YtjggkhmojjaomaaGreatDoor.ev d l (if c=116 then f.yes else f.no) f.env n st=o at *
 cases o with
 | none =>
   have C:=fX (CT.1 rfl);clear CT
   have HBO:=fX Hl;clear Hl
   go_enter Tryz.func108,Tryz.ntmps108
   go_upto_region 1 with (fail)
   rw [HW.out.1]
   go_upto_region 4 with (fail)
   rw [HW.out.2.1]
   go_wp2_with fail
   (with_reducible refine CL.out.mono ?_)
   rintro en w3 ⟨rfl,rfl⟩
   go_wp2_with fail
   (with_reducible refine CL.out.mono ?_)
   rintro en w4 ⟨rfl,rfl⟩
   have Hl:=HBO.out
   go_wp2_with fail
   go_region_held3 (fun w'=>w'.cell? ⟨w.heap.size+1+1+1+1,0,none⟩=some (.func (.func 120) #[] #[.pointer (some ⟨b1,0,none⟩),.pointer (some ⟨b2,0,none⟩),.pointer (some ⟨b3,0,none⟩),.pointer (some ⟨b4,0,none⟩),.pointer (some ⟨b5,0,none⟩)])/\w'.cell? ⟨w.heap.size+1,0,none⟩=some (.pointer (some ⟨bb,0,none⟩))/\w'.cell? ⟨bb,0,none⟩=some (str [c]))
    (first
     | exact ⟨p4,p1,r0⟩
     | exact KS.out _ fe
     | go_keep)
    (first
     | (go_at_call 120;(with_reducible refine C.out.mono ?_);rintro en w5 ⟨rfl,fe⟩))
   have HF:=fX (HW.out.2.2.1.trans fe);clear fe
   go_wp2_with fail
   go_ret2
   exact kD.none rfl HF.out HW.out.2.2.2
 | some x =>
   have C:=fX (CT.2 x rfl);clear CT
   have HBO:=fX Hl;clear Hl
   go_enter Tryz.func108,Tryz.ntmps108
   go_upto_region 1 with (fail)
   rw [HW.out.1]
   go_upto_region 4 with (fail)
   rw [HW.out.2.1]
   go_wp2_with fail
   (with_reducible refine CL.out.mono ?_)
   rintro en w3 ⟨rfl,rfl⟩
   go_wp2_with fail
   (with_reducible refine CL.out.mono ?_)
   rintro en w4 ⟨rfl,rfl⟩
   have Hl:=HBO.out
   go_wp2_with fail
   go_region_held3 (fun w'=>w'.cell? ⟨w.heap.size+1+1+1+1,0,none⟩=some (.func (.func 120) #[] #[.pointer (some ⟨b1,0,none⟩),.pointer (some ⟨b2,0,none⟩),.pointer (some ⟨b3,0,none⟩),.pointer (some ⟨b4,0,none⟩),.pointer (some ⟨b5,0,none⟩)])/\w'.cell? ⟨w.heap.size+1,0,none⟩=some (.pointer (some ⟨bb,0,none⟩))/\w'.cell? ⟨bb,0,none⟩=some (str [c]))
    (first
     | exact ⟨p4,p1,r0⟩
     | exact KS.out _ fe
     | go_keep)
    (first
     | (go_at_call 120;(with_reducible refine C.out.mono ?_);rintro en w5 ⟨vb,rfl,fe,ha5,B3⟩))
   have HF:=fX (fW (HW.out.2.2.1.trans fe) (fW ha5 B3));clear fe ha5 B3
   go_wp2_with fail
   go_ret2
   exact kD.some rfl HF.out.1 HF.out.2.1 (HF.out.2.2.weak fun i h=>h.imp id fun h=>by omega)
structure AskAt (F:Nat->Prop) (aa l n bb v eb eo el ec:Nat) (on x0 x1 x2 x3:Value) (w w':World):Prop where
 p0:w'.cell? ⟨w.heap.size,0,none⟩=some (.pointer (some ⟨aa,0,none⟩))
 p1:w'.cell? ⟨w.heap.size+1,0,none⟩=some (.pointer (some ⟨bb,0,none⟩))
 p2:w'.cell? ⟨w.heap.size+1+1,0,none⟩=some (.slice (some ⟨eb,eo,none⟩) el ec)
 p3:w'.cell? ⟨w.heap.size+1+1+1,0,none⟩=some (.int .i64 (n:Nat))
 p4:w'.cell? ⟨w.heap.size+1+1+1+1,0,none⟩=some on
 q1:w'.cell? ⟨bb,1,none⟩=some (.int .i64 (v:Nat))
 m0:w'.cell? ⟨eb,eo+v*4,none⟩=some x0
 m1:w'.cell? ⟨eb,eo+v*4+1,none⟩=some x1
 m2:w'.cell? ⟨eb,eo+v*4+2,none⟩=some x2
 m3:w'.cell? ⟨eb,eo+v*4+3,none⟩=some x3
set_option maxRecDepth 100000 in
theorem eval_op (d:Nat) (ih:wZ d) (F:Nat->Prop) (aa l n bb v o:Nat) (t:Ty) (H:List Ty) (ea:Option Addr) (el ec:Nat) (ss:List Bd) (y no:Bd) (env:List Mn) (st:List Gf) (on:Value) (w:World) (hv:env[v]? = some (.op o t))
 (h:wT F aa (l+1) (d+1) n H (.ask v ss y no) env st (.pointer (some ⟨bb,0,none⟩)) (.slice ea el ec) on w) :
 Calls Tryz.prog 108 #[.pointer (some ⟨aa,0,none⟩),.pointer (some ⟨bb,0,none⟩),.slice ea el ec,.int .i64 (n:Nat),on] w (kD F aa (Go.Proofs.YtjggkhmojjaomaaGreatDoor.ev (d+1) (l+1) (.ask v ss y no) env n st) w):=by
 obtain ⟨eb,eo,ecap,x0,x1,x2,x3,e,Gh,hew,m0,m1,m2,m3,IX⟩:=mean_at h.re hv
 simp only [Value.slice.injEq] at e
 obtain ⟨rfl,rfl,rfl⟩:=e
 simp only [b7,zQ,zC,zH] at IX
 obtain ⟨_,_,e,rfl,kv,_,rfl,hk,_,_,rfl,rfl,_,_,rfl,rfl,rfl⟩:=IX
 simp only [List.cons.injEq,and_true] at e
 obtain ⟨rfl,rfl,rfl,rfl⟩:=e
 obtain ⟨kb,rfl⟩:=cv hk
 have hF:∀ b,F b->¬ (b=aa)/\F b:=fun b hb=>⟨h.hF b hb,hb⟩
 obtain ⟨W,W2,hW,mV,q0,q1,f1,fN,te,nF,p0,p1,p2,p3,p4⟩:=wE (n:=n) (bb:=bb) (ea:=some ⟨eb,eo,none⟩) (el:=env.length) (ec:=ec) (on:=on) (T1:=176) (T2:=34) (T3:=153) (T4:=3) (T5:=192) h.apl
 have aL:Rep F W2 (qK (.ask v ss y no)) (.pointer (some ⟨bb,0,none⟩)):=h.rb.but fN hF
 obtain ⟨b',sl,yv,nv,e,Ct,fE,_,_,_⟩:=ux aL
 cases e
 have Hm:=h.apl.cell.2.2
 have oE:=h.ld
 have D5:=h.d20
 have Cs:=h.hF _ Ct
 have aE:=h.hF _ Gh
 have r0:W2.cell? ⟨bb,0,none⟩=some (str []):=by simp [World.cell?,fE]
 have r1:W2.cell? ⟨bb,1,none⟩=some (.int .i64 (v:Nat)):=by simp [World.cell?,fE]
 have q1':W.cell? ⟨aa,0,none⟩=some (.int .i64 ((l:Int)+1)):=q1
 have DX:((l:Int)+1 == 0)=false:=by rw [beq_eq_false_iff_ne];omega
 have CL:=fX (xJ F W2 v ss y no (.pointer (some ⟨bb,0,none⟩)) aL)
 have kX:∀ {j:Nat} {x:Value},w.cell? ⟨eb,j,none⟩=some x->W2.cell? ⟨eb,j,none⟩=some x:=fun hc=>(fN.cell (fG w _ hc) aE).trans hc
 have fM:AskAt F aa l n bb v eb eo env.length ec on (.int .i64 (o:Nat)) (.pointer (some ⟨kb,0,none⟩)) (.pointer none) (.slice none 0 0) w W2:=⟨p0,p1,p2,p3,p4,r1,kX m0,kX m1,kX m2,kX m3⟩
 have KS:Hid (∀ w',But (· = aa) W2 w'->AskAt F aa l n bb v eb eo env.length ec on (.int .i64 (o:Nat)) (.pointer (some ⟨kb,0,none⟩)) (.pointer none) (.slice none 0 0) w w'):=by
  show ∀ w',_->_
  intro w' hb
  have k:∀ {b j:Nat} {v:Value},b≠aa->W2.cell? ⟨b,j,none⟩=some v->w'.cell? ⟨b,j,none⟩=some v:=fun hn hc=>(hb.cell (fG W2 _ hc) hn).trans hc
  exact ⟨k (by omega) fM.p0,k (by omega) fM.p1,k (by omega) fM.p2,k (by omega) fM.p3,k (by omega) fM.p4,k Cs fM.q1,k aE fM.m0,k aE fM.m1,k aE fM.m2,k aE fM.m3⟩
 have EC:=(List.getElem?_eq_some_iff.1 hv).1
 have AF:(0:Int)<=(v:Int):=by omega
 have tM:(v:Int)<(env.length:Int):=by omega
 have lB:=uQ.form h.ro
 have HW:=fX (fW hW (fW mV (fW fN (fW te (fW aL (fW hk fM))))))
 have HP:=fX (fW h (fW hv ih))
 clear hW mV fN te aL hk fM q1 fE m0 m1 m2 m3 kX hF h hv ih p0 p1 p2 p3 p4 r1
 rcases lB with rfl | ⟨cs,rfl⟩
 all_goals
  go_enter Tryz.func108,Tryz.ntmps108
  go_upto_region 1 with (fail)
  rw [HW.out.1]
  go_upto_region 4 with (fail)
  rw [HW.out.2.1]
  have p1:=(KS.out W2 (But.refl _ _)).p1
  go_wp2_with fail
  (with_reducible refine CL.out.mono ?_)
  rintro en w3 ⟨rfl,rfl⟩
  go_wp2_with fail
  (with_reducible refine CL.out.mono ?_)
  rintro en w4 ⟨rfl,rfl⟩
  go_wp2_with fail
  have A4:=KS.out w4 (But.refl _ _)
  have s1:=A4.p1;have s2:=A4.p2;have s3:=A4.q1;have s4:=A4.m0;have s5:=A4.m1;have s6:=A4.m2;have s7:=A4.m3;clear A4
  go_region_held3 (fun w'=>w'.cell? ⟨w.heap.size+1+1,0,none⟩=some (.slice (some ⟨eb,eo,none⟩) env.length ec)/\w'.cell? ⟨w.heap.size+1,0,none⟩=some (.pointer (some ⟨bb,0,none⟩))/\w'.cell? ⟨bb,1,none⟩=some (.int .i64 (v:Nat))/\w'.cell? ⟨eb,eo+v*4,none⟩=some (.int .i64 (o:Nat))/\w'.cell? ⟨eb,eo+v*4+1,none⟩=some (.pointer (some ⟨kb,0,none⟩))/\w'.cell? ⟨eb,eo+v*4+2,none⟩=some (.pointer none)/\w'.cell? ⟨eb,eo+v*4+3,none⟩=some (.slice none 0 0))
   (first
    | exact ⟨s2,s1,s3,s4,s5,s6,s7⟩
    | exact ⟨zJ (w:=w4.drew) s2,zJ (w:=w4.drew) s1,zJ (w:=w4.drew) s3,zJ (w:=w4.drew) s4,zJ (w:=w4.drew) s5,zJ (w:=w4.drew) s6,zJ (w:=w4.drew) s7⟩
    | go_keep)
   (fail)
  obtain ⟨W5,Eh⟩:=zzN ((w4.alloc (.cells #[.int .i64 (o:Nat),.pointer (some ⟨kb,0,none⟩),.pointer none,.slice none 0 0] 156)).drew)
  have nN:Below w4.heap.size w4 W5:=by rw [<- Eh];exact ((fH _ _).alloc (fP _) _).drew
  have tS:W5.heap[w4.heap.size]? = some (.cells #[.int .i64 (o:Nat),.pointer (some ⟨kb,0,none⟩),.pointer none,.slice none 0 0] 156 (0,0)):=by rw [<- Eh];exact zG w4 _
  rw [Eh]
  clear Eh s1 s2 s3 s4 s5 s6 s7
  obtain ⟨y0,y1,y2,y3⟩:=kH tS
  have A5:=KS.out W5 (But.ofBelow nN)
  have tA:But (· = aa) w W5:=HW.out.2.2.1.trans (But.ofBelow nN)
  have fj:=HP.out.1
  have lq:∀ i,F i->¬ (i=aa)/\(F i\/w.heap.size<=i):=fun i hi=>⟨fj.hF i hi,.inl hi⟩
  have Bh:=fj.fit.keep HP.out.2.1
  have hK:KeptPre (fun i=>F i\/w.heap.size<=i) aa l d n o v H t ss y no env st (.pointer (some ⟨bb,0,none⟩)) (.pointer (some ⟨kb,0,none⟩)) (.slice (some ⟨eb,eo,none⟩) env.length ec) (.func (.func 120) #[] #[.pointer (some ⟨w.heap.size+1,0,none⟩),.pointer (some ⟨w.heap.size,0,none⟩),.pointer (some ⟨w.heap.size+1+1,0,none⟩),.pointer (some ⟨w.heap.size+1+1+1,0,none⟩),.pointer (some ⟨w.heap.size+1+1+1+1,0,none⟩)]) W5:=by
   have I8:=pg _ fj.ok v _ HP.out.2.1
   rw [okM] at I8
   have mn:=fj.rb.but tA lq
   have BZ:=fj.re.but tA lq
   have hFF:∀ i,(F i\/w.heap.size<=i)->i≠aa:=by
    intro i hi
    rcases hi with hi | hi
    ·exact fj.hF i hi
    ·omega
   exact { glob:=fj.glob.but tA (fun e=>fj.ng e.symm),hF:=hFF,ng:=fj.ng,apl:=(HW.out.2.2.2.1).below nN,ld:=by omega,d20:=by omega,
           hlen:=Bh.1,at15:=I8.1,sub:=Bh.2.2.1,fy:=Bh.2.2.2.1,fn:=Bh.2.2.2.2,hn:=fj.hn,el:=fj.el,nl:=fj.nl,ok:=fj.ok,okg:=fj.okg,rb:=mn,
           rk:=(HW.out.2.2.2.2.2.1).but tA lq,re:=BZ,
           ro:=⟨_,_,_,_,_,_,_,_,v,ss,rfl,⟨.inr (by omega),.inr (by omega),.inr (by omega),.inr (by omega),.inr (by omega)⟩,A5.p1,mn,A5.p0,A5.p2,BZ,A5.p3,A5.p4,uQ.but tA lq _ _ fj.ro⟩ }
  have C:=kept_any d HP.out.2.2 _ aa l n o v H t ss y no env st _ _ _ _ W5 hK
  obtain ⟨a0,sV⟩:=fj.glob
  have Aq:=(tA.cell (fG w _ sV) (fun e=>fj.ng e.symm)).trans sV
  have CT:=bj Aq C
  have rK:Go.Proofs.YtjggkhmojjaomaaGreatDoor.ev (d+1) (l+1) (.ask v ss y no) env n st=xQ d l n o t ss y no env st:=eS HP.out.2.1
  clear C hK Aq
  generalize xQ d l n o t ss y no env st=oo at *
  have s0:=A5.p0;have s1:=A5.p1;have s2:=A5.p2;have s3:=A5.p3
  have HX:=fX (fW tA sV);clear tA sV A5 lq Bh fj nN tS
  cases oo with
  | none =>
    have C:=fX (CT.1 rfl);clear CT
    have HE:=fX rK;clear rK
    go_wp2_with fail
    (with_reducible refine C.out.mono ?_)
    rintro en w6 ⟨rfl,fO⟩
    have HF:=fX (HX.out.1.trans fO);clear fO
    go_wp2_with fail
    go_ret2
    exact kD.none HE.out HF.out HX.out.2
  | some x =>
    have C:=fX (CT.2 x rfl);clear CT
    have HE:=fX rK;clear rK
    have hz5:=HX.out.1.size
    go_wp2_with fail
    (with_reducible refine C.out.mono ?_)
    rintro en w6 ⟨vb,rfl,fO,Kg,m_⟩
    have HF:=fX (fW (HX.out.1.trans fO) (fW Kg m_));clear fO Kg m_
    go_wp2_with fail
    go_ret2
    exact kD.some HE.out HF.out.1 HF.out.2.1 (HF.out.2.2.weak fun i h=>by
     rcases h with (h | h) | h
     ·exact .inl h
     ·exact .inr h
     ·exact .inr (by omega))
structure BInv (G:Nat->Prop) (e env:List Mn) (t:Ty) (ss:List Bd) (W:World) (k:Nat) (a:Option Addr) (c:Nat) (xs:List Value) (wr:World):Prop where
 own:Own wr 156 4 (.slice a (e.length+k) c) (e.length+k) xs
 rep:zX (fun i=>G i/\i<W.heap.size) wr (qv (e++owns env (t.args.take k) (ss.take k))) xs
 bel:Below W.heap.size W wr
 fr:∀ g,(Value.slice a (e.length+k) c).ownBlock=some g->W.heap.size<=g
theorem xe {env:List Mn}:∀ (ts:List Ty) (ss:List Bd),ss.length=ts.length->(owns env ts ss).length=ts.length
 | [],[],_=>by simp [owns]
 | [],s::ss,h=>by simp at h
 | t::ts,[],h=>by simp at h
 | t::ts,s::ss,h=>by rw [owns,List.length_cons,List.length_cons,xe ts ss (by simpa using h)]
set_option maxRecDepth 100000 in
theorem eval_bd (d:Nat) (ih:wZ d) (F:Nat->Prop) (aa l n bb v:Nat) (t:Ty) (H:List Ty) (ea:Option Addr) (el ec:Nat) (ss:List Bd) (y no b':Bd) (env e':List Mn) (st:List Gf) (on:Value) (w:World) (hv:env[v]? = some (.bd t b' e'))
 (h:wT F aa (l+1) (d+1) n H (.ask v ss y no) env st (.pointer (some ⟨bb,0,none⟩)) (.slice ea el ec) on w) :
 Calls Tryz.prog 108 #[.pointer (some ⟨aa,0,none⟩),.pointer (some ⟨bb,0,none⟩),.slice ea el ec,.int .i64 (n:Nat),on] w (kD F aa (Go.Proofs.YtjggkhmojjaomaaGreatDoor.ev (d+1) (l+1) (.ask v ss y no) env n st) w):=by
 obtain ⟨eb,eo,ecap,x0,x1,x2,x3,e,Gh,hew,m0,m1,m2,m3,IX⟩:=mean_at h.re hv
 simp only [Value.slice.injEq] at e
 obtain ⟨rfl,rfl,rfl⟩:=e
 simp only [b7,zQ,zC,zH] at IX
 obtain ⟨_,_,e,rfl,_,_,rfl,rfl,bv2,_,rfl,hk,sv2,_,rfl,iD,rfl⟩:=IX
 simp only [List.cons.injEq,and_true] at e
 obtain ⟨rfl,rfl,rfl,rfl⟩:=e
 obtain ⟨kb,rfl⟩:=kZ hk
 obtain ⟨news,nX,mu⟩:=zq.ofRep iD (vE e')
 obtain ⟨a2,c2,e⟩:=mu.slice
 subst e
 have hF:∀ b,F b->¬ (b=aa)/\F b:=fun b hb=>⟨h.hF b hb,hb⟩
 obtain ⟨W,W2,hW,mV,q0,q1,f1,fN,te,nF,p0,p1,p2,p3,p4⟩:=wE (n:=n) (bb:=bb) (ea:=some ⟨eb,eo,none⟩) (el:=env.length) (ec:=ec) (on:=on) (T1:=176) (T2:=34) (T3:=153) (T4:=3) (T5:=192) h.apl
 have aL:Rep F W2 (qK (.ask v ss y no)) (.pointer (some ⟨bb,0,none⟩)):=h.rb.but fN hF
 obtain ⟨b9,sl,yv,nv,e,Ct,fE,nU,_,_⟩:=ux aL
 cases e
 obtain ⟨sa,sc,e,_,_,BN⟩:=zP nU
 subst e
 have Hm:=h.apl.cell.2.2
 have oE:=h.ld
 have D5:=h.d20
 have Cs:=h.hF _ Ct
 have aE:=h.hF _ Gh
 have r0:W2.cell? ⟨bb,0,none⟩=some (str []):=by simp [World.cell?,fE]
 have r1:W2.cell? ⟨bb,1,none⟩=some (.int .i64 (v:Nat)):=by simp [World.cell?,fE]
 have r2:W2.cell? ⟨bb,2,none⟩=some (.slice sa ss.length sc):=by simp [World.cell?,fE]
 have q1':W.cell? ⟨aa,0,none⟩=some (.int .i64 ((l:Int)+1)):=q1
 have DX:((l:Int)+1 == 0)=false:=by rw [beq_eq_false_iff_ne];omega
 have CL:=fX (xJ F W2 v ss y no (.pointer (some ⟨bb,0,none⟩)) aL)
 have kX:∀ {j:Nat} {x:Value},w.cell? ⟨eb,j,none⟩=some x->W2.cell? ⟨eb,j,none⟩=some x:=fun hc=>(fN.cell (fG w _ hc) aE).trans hc
 have fM:AskAt F aa l n bb v eb eo env.length ec on (.int .i64 0) (.pointer none) (.pointer (some ⟨kb,0,none⟩)) (.slice a2 e'.length c2) w W2:=⟨p0,p1,p2,p3,p4,r1,kX m0,kX m1,kX m2,kX m3⟩
 have KS:Hid (∀ w',But (· = aa) W2 w'->AskAt F aa l n bb v eb eo env.length ec on (.int .i64 0) (.pointer none) (.pointer (some ⟨kb,0,none⟩)) (.slice a2 e'.length c2) w w'):=by
  show ∀ w',_->_
  intro w' hb
  have k:∀ {b j:Nat} {v:Value},b≠aa->W2.cell? ⟨b,j,none⟩=some v->w'.cell? ⟨b,j,none⟩=some v:=fun hn hc=>(hb.cell (fG W2 _ hc) hn).trans hc
  exact ⟨k (by omega) fM.p0,k (by omega) fM.p1,k (by omega) fM.p2,k (by omega) fM.p3,k (by omega) fM.p4,k Cs fM.q1,k aE fM.m0,k aE fM.m1,k aE fM.m2,k aE fM.m3⟩
 have EC:=(List.getElem?_eq_some_iff.1 hv).1
 have AF:(0:Int)<=(v:Int):=by omega
 have tM:(v:Int)<(env.length:Int):=by omega
 have lB:=uQ.form h.ro
 have HW:=fX (fW hW (fW mV (fW fN (fW te (fW aL (fW hk (fW fM (fW r2 (fW BN (fW iD (fW nX mu)))))))))))
 have HP:=fX (fW h (fW hv ih))
 have Cp:=h.fit.call hv
 have my:=pg _ h.ok v _ hv
 rw [okM] at my
 have i2:=Cp.1
 have F9:=(zi my.1).2
 have hl16s:ss.length<=15:=by omega
 have hel2:=my.2.1
 have iY:=h.el
 have HL:=fX (fW Cp my)
 clear hW mV fN te aL hk fM r2 BN iD nX mu Cp my nU i2 q1 fE m0 m1 m2 m3 kX hF h hv ih p0 p1 p2 p3 p4 r1
 rcases lB with rfl | ⟨cs,rfl⟩
 all_goals
  go_enter Tryz.func108,Tryz.ntmps108
  go_upto_region 1 with (fail)
  rw [HW.out.1]
  go_upto_region 4 with (fail)
  rw [HW.out.2.1]
  have p1:=(KS.out W2 (But.refl _ _)).p1
  go_wp2_with fail
  (with_reducible refine CL.out.mono ?_)
  rintro en w3 ⟨rfl,rfl⟩
  go_wp2_with fail
  (with_reducible refine CL.out.mono ?_)
  rintro en w4 ⟨rfl,rfl⟩
  go_wp2_with fail
  have A4:=KS.out w4 (But.refl _ _)
  have s1:=A4.p1;have s2:=A4.p2;have s3:=A4.q1;have s4:=A4.m0;have s5:=A4.m1;have s6:=A4.m2;have s7:=A4.m3;clear A4
  go_region_held3 (fun w'=>w'.cell? ⟨w.heap.size+1+1,0,none⟩=some (.slice (some ⟨eb,eo,none⟩) env.length ec)/\w'.cell? ⟨w.heap.size+1,0,none⟩=some (.pointer (some ⟨bb,0,none⟩))/\w'.cell? ⟨bb,1,none⟩=some (.int .i64 (v:Nat))/\w'.cell? ⟨eb,eo+v*4,none⟩=some (.int .i64 0)/\w'.cell? ⟨eb,eo+v*4+1,none⟩=some (.pointer none)/\w'.cell? ⟨eb,eo+v*4+2,none⟩=some (.pointer (some ⟨kb,0,none⟩))/\w'.cell? ⟨eb,eo+v*4+3,none⟩=some (.slice a2 e'.length c2))
   (first
    | exact ⟨s2,s1,s3,s4,s5,s6,s7⟩
    | exact ⟨zJ (w:=w4.drew) s2,zJ (w:=w4.drew) s1,zJ (w:=w4.drew) s3,zJ (w:=w4.drew) s4,zJ (w:=w4.drew) s5,zJ (w:=w4.drew) s6,zJ (w:=w4.drew) s7⟩
    | go_keep)
   (fail)
  obtain ⟨W5,Eh⟩:=zzN ((w4.alloc (.cells #[.int .i64 0,.pointer none,.pointer (some ⟨kb,0,none⟩),.slice a2 e'.length c2] 156)).drew)
  have nN:Below w4.heap.size w4 W5:=by rw [<- Eh];exact ((fH _ _).alloc (fP _) _).drew
  have tS:W5.heap[w4.heap.size]? = some (.cells #[.int .i64 0,.pointer none,.pointer (some ⟨kb,0,none⟩),.slice a2 e'.length c2] 156 (0,0)):=by rw [<- Eh];exact zG w4 _
  rw [Eh]
  clear Eh s1 s2 s3 s4 s5 s6 s7
  have hz45:w4.heap.size<W5.heap.size:=zZ tS
  obtain ⟨y0,y1,y2,y3⟩:=kH tS
  have A5:=KS.out W5 (But.ofBelow nN)
  have tA:But (· = aa) w W5:=HW.out.2.2.1.trans (But.ofBelow nN)
  have fj:=HP.out.1
  have lq:∀ i,F i->¬ (i=aa)/\(F i\/w.heap.size<=i):=fun i hi=>⟨fj.hF i hi,.inl hi⟩
  have rK:Go.Proofs.YtjggkhmojjaomaaGreatDoor.ev (d+1) (l+1) (.ask v ss y no) env n st=Go.Proofs.YtjggkhmojjaomaaGreatDoor.ev d l b' (e'++owns env t.args ss) n (⟨y,no,env⟩::st):=eT HP.out.2.1
  have EH:zq 4 (.slice a2 e'.length c2) e'.length news W5:=srcSl_but tA (fun b hb=>fj.hF b hb) HW.out.2.2.2.2.2.2.2.2.2.1 HW.out.2.2.2.2.2.2.2.2.2.2.2
  have z2:W5.cell? ⟨bb,2,none⟩=some (.slice sa ss.length sc):=(nN.cell (fG w4 _ HW.out.2.2.2.2.2.2.2.1)).trans HW.out.2.2.2.2.2.2.2.1
  have HX:=fX (fW tA (fW nN (fW tS (fW rK EH))));clear tA nN tS rK EH
  have s1:=A5.p1;have s2:=A5.p2
  have HA5:=fX A5;clear A5
  go_wp2_with (at_builtin;refine zE rfl _ _ 153 rfl 156 (.agg #[.int .i64 0,.pointer none,.pointer none,.slice none 0 0]) 4 48 Tryz.underlying153 Tryz.infoMn rfl (by decide) (.slice none 0 0) 0 [] rfl ?a1 _ e'.length news rfl ?a2 ?a3 ?a4 ?_)
  case a1=>exact World.ownsRow_nil _ _ _ _
  case a2=>exact HX.out.2.2.2.2
  case a3=>unfold maxLen;omega
  case a4=>omega
  intro a6 c6 w6 Du fO DA
  have si:Below W5.heap.size W5 w6:=fO.toBelow (fP _) (fun i _ e=>by simp [Value.ownBlock] at e)
  have EX:∀ g,(Value.slice a6 e'.length c6).ownBlock=some g->W5.heap.size<=g:=fun g hg=>by
   rcases DA g hg with h | h
   ·simp [Value.ownBlock] at h
   ·omega
  have m_:zX (fun i=>(F i\/w.heap.size<=i)/\i<W5.heap.size) w6 (qv (e'++owns env (t.args.take 0) (ss.take 0))) news:=by
   have h0:=(zX.low HW.out.2.2.2.2.2.2.2.2.2.2.1).but HX.out.1 (F':=fun i=>(F i\/w.heap.size<=i)/\i<W5.heap.size) (fun b hb=>⟨fj.hF b hb.1,.inl hb.1,by have:=HX.out.1.size;omega⟩)
   rw [List.take_zero,List.take_zero,owns.eq_def,List.append_nil]
   exact (Rep.keep fun b o hf hh=>⟨hf,by rw [si.block b hf.2];exact hh⟩).2 _ _ h0
  have HI0:=fX (show BInv (fun i=>F i\/w.heap.size<=i) e' env t ss W5 0 a6 c6 news w6 from ⟨Du,m_,si,EX⟩)
  have z2:=(si.cell (fG W5 _ z2)).trans z2
  have s1:=(si.cell (fG W5 _ s1)).trans s1
  clear Du m_ si EX fO DA fj lq
  go_wp2_with fail
  go_loopw [14,78] (fun o i wr=>∃ k:Nat,k<=ss.length/\i=.int .i64 k/\∃ a c xs,o=.slice a (e'.length+k:Nat) c/\BInv (fun i=>F i\/w.heap.size<=i) e' env t ss W5 k a c xs wr) (fun _ i _=>ss.length-(intOf i).toNat)
  case atStart=>exact ⟨0,Nat.zero_le _,rfl,a6,c6,news,rfl,HI0.out⟩
  case round =>
   rename_i wr
   obtain ⟨k,hk,rfl,a,c,xs,rfl,fL⟩:=hrel
   have HI:=fX fL;clear fL
   have fj:=HP.out.1
   have oO:Below w4.heap.size w4 wr:=HX.out.2.1.trans (HI.out.bel.mono (by omega))
   have aM:But (· = aa) w wr:=HW.out.2.2.1.trans (But.ofBelow oO)
   have hz5:=HX.out.1.size
   have AR:=KS.out wr (But.ofBelow oO)
   by_cases fT:k<ss.length
   ·have mT:(k:Int)<(ss.length:Int):=by omega
    obtain ⟨sb,so,u,d1,e,lq,FF,oS,rD,rQ⟩:=HW.out.2.2.2.2.2.2.2.2.1 k fT
    subst e
    rw [xV,Option.map_eq_some_iff] at oS
    obtain ⟨s,hs,rfl⟩:=oS
    obtain ⟨ub,rfl⟩:=kZ rQ
    have ES:k<t.args.length:=by have:=HL.out.1.1;omega
    obtain ⟨ta,tY⟩:∃ ta,t.args[k]? = some ta:=⟨_,List.getElem?_eq_getElem ES⟩
    have q0:=(oO.cell (fG w4 _ rD)).trans rD
    have q1:=AR.p2
    have HK:=fX (fW hs (fW rQ (fW tY (fW oO aM))));clear hs rQ tY oO aM rD fj AR
    go_wp2_with (at_builtin;refine zE rfl _ _ 153 rfl 156 (.agg #[.int .i64 0,.pointer none,.pointer none,.slice none 0 0]) 4 48 Tryz.underlying153 Tryz.infoMn rfl (by decide) (.slice a (e'.length+k) c) (e'.length+k) xs rfl ?c1 _ 1 [.int .i64 0,.pointer none,.pointer (some ⟨ub,0,none⟩),.slice (some ⟨eb,eo,none⟩) env.length ec] rfl ?c2 ?c3 ?c4 ?_)
    case c1=>exact HI.out.own.alloc _
    case c2=>exact zq.lit1 #[.int .i64 0,.pointer none,.pointer (some ⟨ub,0,none⟩),.slice (some ⟨eb,eo,none⟩) env.length ec] rfl (by simp [Value.oneCell']) _ (by simp)
    case c3=>unfold maxLen;omega
    case c4=>omega
    intro a7 c7 w7 fm fS fw
    have hzr:=HI.out.bel.size
    have Ee:Below W5.heap.size W5 w7:=by
     refine (HI.out.bel.alloc hzr _).trans (fS.toBelow (by rw [zK];omega) fun i hi e=>?_)
     have:=HI.out.fr i e;omega
    have iU:∀ g,(Value.slice a7 (e'.length+(k+1)) c7).ownBlock=some g->W5.heap.size<=g:=by
     intro g h
     rcases fw g h with h | h
     ·exact HI.out.fr g h
     ·omega
    have rC:∀ (b:Nat) (o:Obj),b<w4.heap.size->w4.heap[b]? = some o->w7.heap[b]? = some o:=fun b o hb hh=>by
     rw [Ee.block b (by omega),HX.out.2.1.block b hb];exact hh
    have sg:zX (fun i=>(F i\/w.heap.size<=i)/\i<W5.heap.size) w7 (qv (e'++owns env (t.args.take (k+1)) (ss.take (k+1)))) (xs++[.int .i64 0,.pointer none,.pointer (some ⟨ub,0,none⟩),.slice (some ⟨eb,eo,none⟩) env.length ec]):=by
     rw [owns_take _ _ _ _ _ HK.out.2.2.1 HK.out.1,<- List.append_assoc,vc,encMs_one]
     refine zX.append ?_ ?_
     ·exact (Rep.keep fun b o hf ho=>⟨hf,by rw [Ee.block b hf.2,<- HI.out.bel.block b hf.2];exact ho⟩).2 _ _ HI.out.rep
     ·rw [b7]
      have hre4:=HP.out.1.re.but (F':=F) HW.out.2.2.1 (fun b hb=>⟨HP.out.1.hF b hb,hb⟩)
      have kk:=(Rep.keep (F:=F) (F':=fun i=>(F i\/w.heap.size<=i)/\i<W5.heap.size) (w:=w4) (w':=w7) fun b o hf hh=>⟨⟨.inl hf,by have:=zZ hh;omega⟩,rC b o (zZ hh) hh⟩).1
      refine zQ.2 ⟨_,_,rfl,zH.2 rfl,zQ.2 ⟨_,_,rfl,zH.2 rfl,zQ.2 ⟨_,_,rfl,kk _ _ HK.out.2.1,zQ.2 ⟨_,_,rfl,kk _ _ hre4,zC.2 rfl⟩⟩⟩⟩
    have HN:=fX (show BInv (fun i=>F i\/w.heap.size<=i) e' env t ss W5 (k+1) a7 c7 _ w7 from ⟨fm,sg,Ee,iU⟩);clear fm sg Ee iU fS fw rC
    go_wp2_with fail
    go_roundw
    case rel=>exact ⟨k+1,by omega,by go_num,a7,c7,_,rfl,HN.out⟩
    case measure=>simp [intOf];omega
   ·obtain rfl:k=ss.length:=by omega
    have rL:=HI.out.rep
    have i2:=HL.out.1.1
    rw [List.take_length,List.take_of_length_le (by omega)] at rL
    have hlen:(e'++owns env t.args ss).length=e'.length+ss.length:=by rw [List.length_append,xe _ _ i2,i2]
    have lq:∀ i,F i->¬ (i=aa)/\(F i\/w.heap.size<=i):=fun i hi=>⟨fj.hF i hi,.inl hi⟩
    have hFF:∀ i,(F i\/w.heap.size<=i)->i≠aa:=by
     intro i hi
     rcases hi with hi | hi
     ·exact fj.hF i hi
     ·omega
    have BY:Rep (fun i=>F i\/w.heap.size<=i) wr (.sl 156 4 (e'++owns env t.args ss).length (qv (e'++owns env t.args ss))) (.slice a (e'.length+ss.length) c):=by
     rw [hlen]
     exact HI.out.own.rep (fun g hg=>.inr (by have:=HI.out.fr g hg;omega)) ((Rep.keep fun b o hf ho=>⟨hf.1,ho⟩).2 _ _ rL)
    have mn:=fj.rb.but aM lq
    have BZ:=fj.re.but aM lq
    have my:=HL.out.2
    have iE:=fj.nl
    have hK:wT (fun i=>F i\/w.heap.size<=i) aa l d n H b' (e'++owns env t.args ss) (⟨y,no,env⟩::st) (.pointer (some ⟨kb,0,none⟩)) (.slice a (e'.length+ss.length) c) (.func (.func 120) #[] #[.pointer (some ⟨w.heap.size+1,0,none⟩),.pointer (some ⟨w.heap.size,0,none⟩),.pointer (some ⟨w.heap.size+1+1,0,none⟩),.pointer (some ⟨w.heap.size+1+1+1,0,none⟩),.pointer (some ⟨w.heap.size+1+1+1+1,0,none⟩)]) wr:=by
     exact { glob:=fj.glob.but aM (fun e=>fj.ng e.symm),hF:=hFF,ng:=fj.ng,apl:=(HW.out.2.2.2.1).below oO,ld:=by omega,d20:=by omega,
             fit:=HL.out.1.2,hn:=fj.hn,el:=by rw [hlen];omega,nl:=by omega,
             ok:=jM _ _ (k_ (by omega) _ my.2.2) (xi (k_ (by omega) _ fj.ok) (by omega) _ _ (zi my.1).1),
             okg:=⟨by show env.length<=_;omega,k_ (by omega) _ fj.ok,vF (by omega) _ fj.okg⟩,rb:=HW.out.2.2.2.2.2.1.but aM lq,re:=BY,
             ro:=⟨_,_,_,_,_,_,_,_,v,ss,rfl,⟨.inr (by omega),.inr (by omega),.inr (by omega),.inr (by omega),.inr (by omega)⟩,AR.p1,mn,AR.p0,AR.p2,BZ,AR.p3,AR.p4,uQ.but aM lq _ _ fj.ro⟩ }
    have C:=HP.out.2.2 _ aa l n H b' (e'++owns env t.args ss) (⟨y,no,env⟩::st) _ _ _ wr hK
    obtain ⟨a0,sV⟩:=fj.glob
    have Aq:=(aM.cell (fG w _ sV) (fun e=>fj.ng e.symm)).trans sV
    have CT:=bj Aq C
    have rK:=HX.out.2.2.2.1
    clear C hK Aq rL BY mn BZ
    generalize Go.Proofs.YtjggkhmojjaomaaGreatDoor.ev d l b' (e'++owns env t.args ss) n (⟨y,no,env⟩::st)=oo at *
    have s0:=AR.p0;have s3:=AR.p3
    have tS:=(HI.out.bel.block w4.heap.size (by omega)).trans HX.out.2.2.1
    obtain ⟨y0,y1,y2,y3⟩:=kH tS
    have hzr:=aM.size
    have HY:=fX (fW aM sV);clear aM sV AR lq fj tS oO y0 y1 y3 hlen my i2
    cases oo with
    | none =>
      have C:=fX (CT.1 rfl);clear CT
      have HE:=fX rK;clear rK
      go_wp2_with fail
      (with_reducible refine C.out.mono ?_)
      rintro en w6' ⟨rfl,fO⟩
      have HF:=fX (HY.out.1.trans fO);clear fO
      go_wp2_with fail
      go_ret2
      exact kD.none HE.out HF.out HY.out.2
    | some x =>
      have C:=fX (CT.2 x rfl);clear CT
      have HE:=fX rK;clear rK
      go_wp2_with fail
      (with_reducible refine C.out.mono ?_)
      rintro en w6' ⟨vb,rfl,fO,Kg,m_⟩
      have HF:=fX (fW (HY.out.1.trans fO) (fW Kg m_));clear fO Kg m_
      go_wp2_with fail
      go_ret2
      exact kD.some HE.out HF.out.1 HF.out.2.1 (HF.out.2.2.weak fun i h=>by
       rcases h with (h | h) | h
       ·exact .inl h
       ·exact .inr h
       ·exact .inr (by omega))
theorem eval_any (d:Nat):wZ d:=by
 induction d with
 | zero =>
   intro F aa l n H b env st bv ev on w h
   obtain rfl:l=0:=by have:=h.ld;omega
   obtain ⟨bb,rfl⟩:=kZ h.rb
   obtain ⟨_,a,c,rfl,_⟩:=zp.1 h.re
   exact eval_out F aa 0 n bb a _ c b env st on w h.ro.form h.glob h.ng h.apl
 | succ d ih =>
   intro F aa l n H b env st bv ev on w h
   obtain ⟨bb,rfl⟩:=kZ h.rb
   obtain ⟨_,a,c,rfl,_⟩:=zp.1 h.re
   cases l with
   | zero=>exact eval_out F aa (d+1) n bb a _ c b env st on w h.ro.form h.glob h.ng h.apl
   | succ l =>
     have oE:=h.ld
     have hd:=h.d20
     cases b with
     | leaf x =>
       by_cases hx:x=117
       ·exact eval_end F aa d l n bb a _ c x env st on w h.hF h.apl (by omega) h.rb (.inl ⟨hx,h.ro.form⟩)
       ·cases st with
        | nil=>exact eval_end F aa d l n bb a _ c x env [] on w h.hF h.apl (by omega) h.rb (.inr ⟨hx,h.ro,rfl⟩)
        | cons f st=>exact eval_back d ih F aa l n bb H a _ c x env f st on w hx h
     | ask v ss y no =>
       obtain ⟨m,t,hh,hm,_⟩:=h.fit.ask
       cases m with
       | op o t=>exact eval_op d ih F aa l n bb v o t H a _ c ss y no env st on w hm h
       | bd t b' e'=>exact eval_bd d ih F aa l n bb v t H a _ c ss y no b' env e' st on w hm h
theorem dE {d:Nat} (ih:∀ (l:Nat) (b:Bd) (env:List Mn) (n:Nat) (st:List Gf) (r:Bd) (l':Nat),Go.Proofs.YtjggkhmojjaomaaGreatDoor.ev d l b env n st=some (r,l')->zW r+l'<=l) {env:List Mn} {n:Nat} :
 ∀ (ts:List Ty) (ss:List Bd) (l:Nat) (xs:List Bd) (l':Nat),kQ (Go.Proofs.YtjggkhmojjaomaaGreatDoor.ev d) env n l ts ss=some (xs,l')->zR xs+l'<=l
 | [],ss,l,xs,l',h=>by simp [kQ] at h;obtain ⟨rfl,rfl⟩:=h;simp [zR]
 | t::ts,[],l,xs,l',h=>by simp [kQ] at h;obtain ⟨rfl,rfl⟩:=h;simp [zR]
 | t::ts,s::ss,l,xs,l',h=>by
   simp only [kQ,Option.bind_eq_bind,Option.bind_eq_some_iff,Prod.exists] at h
   obtain ⟨x,l1,h1,ys,l2,h2,h3⟩:=h
   simp at h3
   obtain ⟨rfl,rfl⟩:=h3
   have k1:=ih _ _ _ _ _ _ _ h1
   have k2:=dE ih ts ss _ _ _ h2
   rw [zR]
   omega
theorem ev_size (d:Nat):∀ (l:Nat) (b:Bd) (env:List Mn) (n:Nat) (st:List Gf) (r:Bd) (l':Nat),Go.Proofs.YtjggkhmojjaomaaGreatDoor.ev d l b env n st=some (r,l')->zW r+l'<=l:=by
 induction d with
 | zero=>intro l b env n st r l' h;simp [Go.Proofs.YtjggkhmojjaomaaGreatDoor.ev] at h
 | succ d ih =>
   intro l b env n st r l' h
   cases l with
   | zero=>rw [ev.eq_def] at h;simp at h
   | succ l =>
     cases b with
     | leaf c =>
       by_cases hc:c=117
       ·subst hc;rw [ev_u] at h;simp at h;obtain ⟨rfl,rfl⟩:=h;rw [zW];omega
       ·cases st with
        | nil=>rw [gb] at h;simp at h;obtain ⟨rfl,rfl⟩:=h;rw [zW];omega
        | cons f st=>rw [xN hc] at h;have:=ih _ _ _ _ _ _ _ h;omega
     | ask v ss y no =>
       cases hv:env[v]? with
       | none=>rw [ev.eq_def] at h;simp [hv] at h
       | some m =>
         cases m with
         | bd t b' e=>rw [eT hv] at h;have:=ih _ _ _ _ _ _ _ h;omega
         | op o t =>
           rw [eS hv] at h
           simp only [Option.bind_eq_some_iff,Prod.exists] at h
           obtain ⟨xs,l1,h1,x,l2,h2,z,l3,h3,h4⟩:=h
           simp at h4
           obtain ⟨rfl,rfl⟩:=h4
           have k1:=dE ih _ _ _ _ _ h1
           have k2:=ih _ _ _ _ _ _ _ h2
           have k3:=ih _ _ _ _ _ _ _ h3
           rw [zW]
           omega
theorem fits_any (F:Nat->Prop) (w:World) (b:Bd) (v:Value) (hv:Rep F w (qK b) v) (hn:zW b<=20000) :
 Calls Tryz.prog 55 #[v] w fun en w'=>en=.returned (.bool (decide (zW b<=200/\kP b<=100)))/\Below w.heap.size w w':=by
 obtain ⟨vb,rfl⟩:=kZ hv
 have hL:Lim 20000:=by unfold Lim;omega
 have C1:=fX (size_any 20000 b hn hL F w _ hv)
 go_enter Tryz.func55,Tryz.ntmps55
 go_wp2_with fail
 (with_reducible refine C1.out.mono ?_)
 rintro en w1 ⟨rfl,fA⟩
 have C2:=fX (depth_any 20000 b hn hL F w1 _ (Rep.below fA (fun _ h=>h) hv))
 have HB:=fX fA;clear fA
 by_cases rI:zW b<=200
 ·have h1:decide ((zW b:Int)<=200)=true:=decide_eq_true (by omega)
  go_wp2_with fail
  (with_reducible refine C2.out.mono ?_)
  rintro en w2 ⟨rfl,fN⟩
  have hb:=zzT HB.out fN
  clear fN
  by_cases ie:kP b<=100
  ·have h2:decide ((kP b:Int)<=100)=true:=decide_eq_true (by omega)
   have HE:=fX (fW (show decide (zW b<=200/\kP b<=100)=true from decide_eq_true ⟨rI,ie⟩) hb);clear hb
   go_wp2_with fail
   go_ret
   rw [HE.out.1]
   exact ⟨rfl,HE.out.2⟩
  ·have h2:decide ((kP b:Int)<=100)=false:=decide_eq_false (by omega)
   have HE:=fX (fW (show decide (zW b<=200/\kP b<=100)=false from decide_eq_false (by omega)) hb);clear hb
   go_wp2_with fail
   go_ret
   rw [HE.out.1]
   exact ⟨rfl,HE.out.2⟩
 ·have h1:decide ((zW b:Int)<=200)=false:=decide_eq_false (by omega)
  have HE:=fX (show decide (zW b<=200/\kP b<=100)=false from decide_eq_false (by omega))
  go_wp2_with fail
  go_ret
  rw [HE.out]
  exact ⟨rfl,HB.out⟩
def qC (F:Nat->Prop) (w:World) (o:Option Bd) (en:Ending) (w':World):Prop :=
 ∃ v,en=.returned v/\Below w.heap.size w w'/\(o=none->v=.pointer none)/\∀ b,o=some b->Rep (fun i=>F i\/w.heap.size<=i) w' (qK b) v
structure BecPre (F:Nat->Prop) (n:Nat) (H:List Ty) (b:Bd) (env:List Mn) (bv ev:Value) (w:World):Prop where
 glob:yR w
 fit:jz H b env []
 hn:H.length=n
 nl:n<=1000
 el:env.length<=1000
 ok:yH 1000 env
 rb:Rep F w (qK b) bv
 re:Rep F w (.sl 156 4 env.length (qv env)) ev
set_option maxRecDepth 100000 in
theorem become_any (F:Nat->Prop) (n:Nat) (H:List Ty) (b:Bd) (env:List Mn) (bv ev:Value) (w:World) (h:BecPre F n H b env bv ev w) :
 Calls Tryz.prog 94 #[bv,ev,.int .i64 (n:Nat)] w (qC F w (jB b env n)):=by
 obtain ⟨bb,rfl⟩:=kZ h.rb
 obtain ⟨_,ea,ec,rfl,_⟩:=zp.1 h.re
 obtain ⟨a0,sV⟩:=h.glob
 have Cb:=fG w _ sV
 have hlt1:0<w.heap.size:=Cb
 have rU:Below w.heap.size w (w.alloc (.cells #[.int .i64 20000] 178)):=(fH _ _).alloc (fP _) _
 have hrbA:=Rep.below rU (fun _ h=>h) h.rb
 have hreA:=Rep.below rU (fun _ h=>h) h.re
 have D7:=(rU.cell Cb).trans sV
 have kA:∀ {dv:DV} {v:Value},Rep F w dv v->Rep (fun i=>F i/\i<w.heap.size) (w.alloc (.cells #[.int .i64 20000] 178)) dv v:=fun h=>(Rep.keep fun b o hf ho=>⟨⟨hf,zZ ho⟩,zY ho⟩).1 _ _ h
 have iE:=h.nl
 have iY:=h.el
 have hE:wT (fun i=>F i/\i<w.heap.size) w.heap.size 20000 20000 n H b env [] (.pointer (some ⟨bb,0,none⟩)) (.slice ea env.length ec) .nilFunc (w.alloc (.cells #[.int .i64 20000] 178)) :=
  { glob:=⟨a0,D7⟩,hF:=fun i hi e=>by have:=hi.2;omega,ng:=by omega,apl:=zG _ _,ld:=fP _,d20:=fP _,fit:=h.fit,hn:=h.hn,el:=by omega,nl:=by omega,
    ok:=k_ (by omega) _ h.ok,okg:=trivial,rb:=kA h.rb,re:=kA h.re,ro:=rfl }
 have C:=eval_any 20000 _ _ _ _ _ _ _ _ _ _ _ _ hE
 have CT:=bj D7 C
 have f7:=ev_size 20000 20000 b env n []
 have J1:(Go.Proofs.YtjggkhmojjaomaaGreatDoor.ev 20000 20000 b env n []=none->jB b env n=none)/\∀ x,Go.Proofs.YtjggkhmojjaomaaGreatDoor.ev 20000 20000 b env n []=some x->((zW x.1<=200/\kP x.1<=100)->jB b env n=some x.1)/\(¬ (zW x.1<=200/\kP x.1<=100)->jB b env n=none):=by
  unfold jB
  refine ⟨fun h=>by rw [h],fun x h=>?_⟩
  rw [h]
  exact ⟨fun h=>if_pos h,fun h=>if_neg h⟩
 clear hE C kA hrbA hreA h
 generalize jB b env n=r at *
 generalize Go.Proofs.YtjggkhmojjaomaaGreatDoor.ev 20000 20000 b env n []=oo at *
 have HS:=fX (fW f7 (fW rU (fW sV J1)));clear f7 rU sV D7 J1
 cases oo with
 | none =>
   have C:=fX (CT.1 rfl);clear CT
   go_enter Tryz.func94,Tryz.ntmps94
   go_wp2_with fail
   (with_reducible refine C.out.mono ?_)
   rintro en w1 ⟨rfl,fA⟩
   have fN:Below w.heap.size w w1:=HS.out.2.1.trans (fA.toBelow (by rw [zK];omega) fun i hi e=>by have e:i=w.heap.size:=e;omega)
   have rD:=(fN.cell Cb).trans HS.out.2.2.1
   have C2:=fX (is_same a0 w1)
   have HB:=fX fN;clear fA fN
   go_wp2_with fail
   (with_reducible refine C2.out.mono ?_)
   rintro en w2 ⟨rfl,rfl⟩
   go_wp2_with fail
   go_ret
   exact ⟨_,rfl,HB.out,fun _=>rfl,fun b h=>by have h0:r=none:=HS.out.2.2.2.1 (by simp);rw [h0] at h;simp at h⟩
 | some x =>
   have C:=fX (CT.2 x rfl);clear CT
   go_enter Tryz.func94,Tryz.ntmps94
   go_wp2_with fail
   (with_reducible refine C.out.mono ?_)
   rintro en w1 ⟨vb,rfl,fA,_,nZ⟩
   have fN:Below w.heap.size w w1:=HS.out.2.1.trans (fA.toBelow (by rw [zK];omega) fun i hi e=>by have e:i=w.heap.size:=e;omega)
   have rD:=(fN.cell Cb).trans HS.out.2.2.1
   have C2:=fX (is_nil a0 w1)
   have hz:=HS.out.1 x.1 x.2 rfl
   have C3:=fX (fits_any _ w1 x.1 _ nZ (by omega))
   have HB:=fX (fW fN nZ);clear fA fN nZ hz
   go_wp2_with fail
   (with_reducible refine C2.out.mono ?_)
   rintro en w2 ⟨rfl,rfl⟩
   by_cases n7:zW x.1<=200/\kP x.1<=100
   ·rw [decide_eq_true n7] at C3
    have HF:=fX n7;clear n7
    go_wp2_with fail
    (with_reducible refine C3.out.mono ?_)
    rintro en w3 ⟨rfl,fv⟩
    have nh:=fX fv;clear fv
    go_wp2_with fail
    go_ret
    have hr:=(HS.out.2.2.2.2 x rfl).1 HF.out
    refine ⟨_,rfl,zzT HB.out.1 nh.out,fun h=>?_,fun b h=>?_⟩
    ·rw [hr] at h;simp at h
    ·rw [hr] at h
     obtain rfl:=Option.some.inj h
     refine Rep.weak (Rep.below nh.out (fun _ h=>h) HB.out.2) fun i h=>?_
     rcases h with h | h
     ·exact .inl h.1
     ·rw [zK] at h;exact .inr (by omega)
   ·rw [decide_eq_false n7] at C3
    have HF:=fX n7;clear n7
    go_wp2_with fail
    (with_reducible refine C3.out.mono ?_)
    rintro en w3 ⟨rfl,fv⟩
    have nh:=fX fv;clear fv
    go_wp2_with fail
    go_ret
    exact ⟨_,rfl,zzT HB.out.1 nh.out,fun _=>rfl,fun b h=>by rw [(HS.out.2.2.2.2 x rfl).2 HF.out] at h;simp at h⟩
def zS (bs:List Ty) (a:Ty) (n:Bd) (rest:List Ty):List Mn:=opens 0 bs++(.bd a n (opens 0 bs)::opens bs.length rest)
structure AppPre (F:Nat->Prop) (bs rest:List Ty) (a:Ty) (m n:Bd) (mv nv bv rv:Value) (w:World):Prop where
 glob:yR w
 fit:jz (bs++rest) m (zS bs a n rest) []
 a15:zV a<=15
 bl:bs.length<=100
 rl:rest.length<=100
 b15:∀ t∈bs,zV t<=15
 r15:∀ t∈rest,zV t<=15
 rm:Rep F w (qK m) mv
 rn:Rep F w (qK n) nv
 rb:Rep F w (.sl 33 1 bs.length (jL bs)) bv
 rr:Rep F w (.sl 33 1 rest.length (jL rest)) rv
set_option maxRecDepth 100000 in
theorem apply_any (F:Nat->Prop) (bs rest:List Ty) (a:Ty) (m n:Bd) (mv nv bv rv:Value) (w:World) (h:AppPre F bs rest a m n mv nv bv rv w) :
 Calls Tryz.prog 76 #[mv,nv,bv,rv] w (qC F w (jB m (zS bs a n rest) (bs.length+rest.length))):=by
 obtain ⟨mb,rfl⟩:=kZ h.rm
 obtain ⟨nb,rfl⟩:=kZ h.rn
 obtain ⟨_,ba,bc,rfl,_⟩:=zp.1 h.rb
 obtain ⟨_,ra,rc,rfl,_⟩:=zp.1 h.rr
 have hbl:=h.bl
 have EN:=h.rl
 have C1:Calls Tryz.prog 93 #[.int .i64 0,.slice ba bs.length bc] w (FreshV w 156 4 bs.length fun w' xs=>zX F w' (qv (opens 0 bs)) xs):=cN F 0 bs _ w h.rb (by omega) (by omega)
 have C1:=fX C1
 have HP:=fX h;clear h
 go_enter Tryz.func76,Tryz.ntmps76
 go_wp2_with fail
 (with_reducible refine C1.out.mono ?_)
 rintro en w1 ⟨a1,c1,lK,rfl,G_,nZ,fA,JR⟩
 have rq:=G_.src (vE _ _ nZ)
 have H1:=fX (fW G_ (fW nZ (fW fA (fW JR rq))));clear G_ nZ fA JR rq C1
 go_wp2_with (at_builtin;refine zE rfl _ _ 153 rfl 156 (.agg #[.int .i64 0,.pointer none,.pointer none,.slice none 0 0]) 4 48 Tryz.underlying153 Tryz.infoMn rfl (by decide) (.slice none 0 0) 0 [] rfl ?a1 _ bs.length lK rfl ?a2 ?a3 ?a4 ?_)
 case a1=>exact World.ownsRow_nil _ _ _ _
 case a2=>exact H1.out.2.2.2.2
 case a3=>unfold maxLen;omega
 case a4=>omega
 intro a2 c2 w2 ho2 fN Hj
 have J0:Below w1.heap.size w1 w2:=fN.toBelow (fP _) (fun i _ e=>by simp [Value.ownBlock] at e)
 have hf2:∀ g,(Value.slice a2 bs.length c2).ownBlock=some g->w1.heap.size<=g:=fun g hg=>by
  rcases Hj g hg with h | h
  ·simp [Value.ownBlock] at h
  ·omega
 have H2:=fX (fW ho2 (fW J0 hf2));clear ho2 fN Hj J0 hf2
 go_wp2_with (at_builtin;refine zE rfl _ _ 153 rfl 156 (.agg #[.int .i64 0,.pointer none,.pointer none,.slice none 0 0]) 4 48 Tryz.underlying153 Tryz.infoMn rfl (by decide) (.slice a2 bs.length c2) bs.length lK rfl ?b1 _ 1 [.int .i64 0,.pointer none,.pointer (some ⟨nb,0,none⟩),.slice a1 bs.length c1] rfl ?b2 ?b3 ?b4 ?_)
 case b1=>exact H2.out.1.alloc _
 case b2=>exact zq.lit1 #[.int .i64 0,.pointer none,.pointer (some ⟨nb,0,none⟩),.slice a1 bs.length c1] rfl (by simp [Value.oneCell']) _ (by simp)
 case b3=>unfold maxLen;omega
 case b4=>omega
 intro a3 c3 w3 ho3 fv Hi
 have nF:=H2.out.2.1.size
 have iZ:=H1.out.2.2.1.size
 have Gn:Below w1.heap.size w1 w3:=(H2.out.2.1.alloc nF _).trans (fv.toBelow (by rw [zK];omega) fun i hi e=>by have:=H2.out.2.2 i e;omega)
 have hf3:∀ g,(Value.slice a3 (bs.length+1) c3).ownBlock=some g->w1.heap.size<=g:=fun g hg=>by
  rcases Hi g hg with h | h
  ·exact H2.out.2.2 g h
  ·omega
 have Gs:Below w.heap.size w w3:=H1.out.2.2.1.trans (Gn.mono iZ)
 have C4:=fX (cN (fun i=>F i/\i<w.heap.size) bs.length rest _ w3 (Rep.below Gs (fun _ h=>h) (Rep.low HP.out.rr)) (by omega) (by omega))
 have H3:=fX (fW ho3 (fW Gn (fW hf3 Gs)));clear ho3 fv Hi Gn hf3 Gs
 go_wp2_with fail
 (with_reducible refine C4.out.mono ?_)
 rintro en w4 ⟨a4,c4,xs4,rfl,ho4,AJ,fl,hf4⟩
 clear C4
 have rA:=ho4.src (vE _ _ AJ)
 have Ja:Own w4 156 4 (.slice a3 (bs.length+1) c3) (bs.length+1) (lK++[.int .i64 0,.pointer none,.pointer (some ⟨nb,0,none⟩),.slice a1 bs.length c1]):=H3.out.1.keep fun g o hg hh=>by rw [fl.block g (zZ hh)];exact hh
 have H4:=fX (fW Ja (fW rA (fW AJ (fW fl hf4))));clear Ja rA AJ fl hf4 ho4
 go_wp2_with (at_builtin;refine zE rfl _ _ 153 rfl 156 (.agg #[.int .i64 0,.pointer none,.pointer none,.slice none 0 0]) 4 48 Tryz.underlying153 Tryz.infoMn rfl (by decide) (.slice a3 (bs.length+1) c3) (bs.length+1) (lK++[.int .i64 0,.pointer none,.pointer (some ⟨nb,0,none⟩),.slice a1 bs.length c1]) rfl ?d1 _ rest.length xs4 rfl ?d2 ?d3 ?d4 ?_)
 case d1=>exact H4.out.1
 case d2=>exact H4.out.2.1
 case d3=>unfold maxLen;omega
 case d4=>omega
 intro a5 c5 w5 sk fe sj
 have sE:=H3.out.2.1.size
 have hz4:=H4.out.2.2.2.1.size
 have Ea:Below w1.heap.size w1 w5:=(H3.out.2.1.trans (H4.out.2.2.2.1.mono sE)).trans (fe.toBelow (by omega) fun i hi e=>by have:=H3.out.2.2.1 i e;omega)
 have hf5:∀ g,(Value.slice a5 (bs.length+1+rest.length) c5).ownBlock=some g->w1.heap.size<=g:=fun g hg=>by
  rcases sj g hg with h | h
  ·exact H3.out.2.2.1 g h
  ·omega
 have lT:Below w.heap.size w w5:=H1.out.2.2.1.trans (Ea.mono iZ)
 have hlen:(zS bs a n rest).length=bs.length+1+rest.length:=by unfold zS;simp [kT];omega
 have BY:Rep (fun i=>F i\/w.heap.size<=i) w5 (.sl 156 4 (zS bs a n rest).length (qv (zS bs a n rest))) (.slice a5 (bs.length+1+rest.length) c5):=by
  rw [hlen]
  refine sk.rep (fun g hg=>.inr (by have:=hf5 g hg;omega)) ?_
  have e:qv (zS bs a n rest)=qv (opens 0 bs)++(b7 (.bd a n (opens 0 bs))++qv (opens bs.length rest)):=by unfold zS;rw [vc,qv]
  rw [e]
  have k1:∀ {ds:List DV} {us:List Value},zX F w1 ds us->zX (fun i=>F i\/w.heap.size<=i) w5 ds us:=fun h=>(Rep.keep fun b o hf hh=>⟨.inl hf,by rw [Ea.block b (zZ hh)];exact hh⟩).2 _ _ h
  refine zX.append (k1 H1.out.2.1) (zX.append (vs:=[.int .i64 0,.pointer none,.pointer (some ⟨nb,0,none⟩),.slice a1 bs.length c1]) (us:=xs4) ?_ ?_)
  ·rw [b7]
   have r1:Rep (fun i=>F i\/w.heap.size<=i) w5 (qK n) (.pointer (some ⟨nb,0,none⟩)):=(Rep.below lT (fun _ h=>h) HP.out.rn).weak fun i h=>.inl h
   have r2:Rep (fun i=>F i\/w.heap.size<=i) w5 (.sl 156 4 (opens 0 bs).length (qv (opens 0 bs))) (.slice a1 bs.length c1):=by
    rw [kT]
    refine (H1.out.1.keep fun g o hg hh=>?_).rep (fun g hg=>.inr (H1.out.2.2.2.1 g hg)) (k1 H1.out.2.1)
    rw [Ea.block g (zZ hh)];exact hh
   exact zQ.2 ⟨_,_,rfl,zH.2 rfl,zQ.2 ⟨_,_,rfl,zH.2 rfl,zQ.2 ⟨_,_,rfl,r1,zQ.2 ⟨_,_,rfl,r2,zC.2 rfl⟩⟩⟩⟩
  ·refine (Rep.keep fun b o hf hh=>⟨.inl hf.1,?_⟩).2 _ _ H4.out.2.2.1
   have fT:=hf.2
   rw [fe.block b (zZ hh) (fun e=>by have:=H3.out.2.2.1 b e;omega)];exact hh
 have hE:BecPre (fun i=>F i\/w.heap.size<=i) (bs.length+rest.length) (bs++rest) m (zS bs a n rest) (.pointer (some ⟨mb,0,none⟩)) (.slice a5 (bs.length+1+rest.length) c5) w5 :=
  { glob:=HP.out.glob.below lT,fit:=HP.out.fit,hn:=List.length_append ..,nl:=by omega,el:=by omega,
    ok:=jM _ _ (jP _ _ HP.out.b15 (by omega)) ⟨⟨HP.out.a15,by rw [kT];omega,jP _ _ HP.out.b15 (by omega)⟩,jP _ _ HP.out.r15 (by omega)⟩,
    rb:=(Rep.below lT (fun _ h=>h) HP.out.rm).weak fun i h=>.inl h,re:=BY }
 have C6:=become_any _ _ _ _ _ _ _ w5 hE
 rw [Int.natCast_add] at C6
 generalize jB m (zS bs a n rest) (bs.length+rest.length)=r at *
 have C6:=fX C6
 have HB:=fX lT;clear BY hE hlen lT Ea hf5 sk fe sj
 go_wp2_with fail
 (with_reducible refine C6.out.mono ?_)
 rintro en w6 ⟨v,rfl,fO,ap,aO⟩
 have H6:=fX (fW fO (fW ap aO));clear fO ap aO
 go_wp2_with fail
 go_ret
 refine ⟨v,rfl,zzT HB.out H6.out.1,H6.out.2.1,fun b h=>(H6.out.2.2 b h).weak fun i h=>?_⟩
 have hz:=HB.out.size
 rcases h with (h | h) | h
 ·exact .inl h
 ·exact .inr h
 ·exact .inr (by omega)
theorem wN {F:Nat->Prop} {w:World} {e:TypeId} {n b o cap:Nat} {d:DV} {ds:List DV} (h:Rep F w (.sl e 1 (n+1) (d::ds)) (.slice (some ⟨b,o,none⟩) (n+1) cap)) :
 Rep F w (.sl e 1 n ds) (.slice (some ⟨b,o+1,none⟩) n (cap-1)):=by
 rw [zp] at h ⊢
 obtain ⟨hl,a,c,e1,hn,hz,h⟩:=h
 simp only [Value.slice.injEq] at e1
 obtain ⟨rfl,_,rfl⟩:=e1
 refine ⟨by simpa using hl,_,_,rfl,by omega,fun h=>by simp at h,.inr ?_⟩
 rcases h with h0 | ⟨b',o',cs,fr,e2,hb,hcs,hr⟩
 ·omega
 simp only [Option.some.injEq,Addr.mk.injEq,and_true] at e2
 obtain ⟨rfl,rfl⟩:=e2
 refine ⟨_,_,cs,fr,rfl,hb,hcs,?_⟩
 have h2:=hr
 rw [zQ] at h2
 obtain ⟨v,vs,e3,_,h4⟩:=h2
 have:vs=List.take (n*1) (List.drop (o+1) cs.toList):=by
  have h5:=congrArg (List.drop 1) e3
  rw [List.drop_take,List.drop_drop] at h5
  simpa using h5.symm
 rw [<- this];exact h4
end Go.Proofs.YtjggkhmojjaomaaGreatDoor

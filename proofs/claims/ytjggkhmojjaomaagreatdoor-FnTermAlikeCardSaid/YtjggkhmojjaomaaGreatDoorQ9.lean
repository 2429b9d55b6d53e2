/- Walks of functions that the statement reaches, and plain words. No conditions. -/
import Derived.LaidEql
import Derived.Stop.Asserts
import Derived.RowKitTokens
import Derived.Deep.Cut
import Derived.Test.YtjggkhmojjaomaaGreatDoorQ7
set_option linter.unusedVariables false
set_option linter.unusedSimpArgs false
set_option maxHeartbeats 8000000
namespace Go.Proofs.YtjggkhmojjaomaaGreatDoor
open Go.RowKit
mutual
def bk:Mn->List DV
 | .op o t=>[.val (.int .i64 (o:Nat)),jG t,.val (.pointer none),.val (.slice none 0 0)]
 | .bd _ b e=>[.val (.int .i64 0),.val (.pointer none),qZ b,.sl 156 4 e.length (qz e)]
def qz:List Mn->List DV
 | []=>[]
 | m::ms=>bk m++qz ms
end
theorem xE (m:Mn):(bk m).length=4:=by cases m <;> simp [bk]
theorem bI:∀ ms:List Mn,(qz ms).length=ms.length*4
 | []=>by simp [qz]
 | m::ms=>by rw [qz,List.length_append,xE,bI ms];simp;omega
theorem vg:∀ (xs ys:List Mn),qz (xs++ys)=qz xs++qz ys
 | [],ys=>by simp [qz]
 | x::xs,ys=>by simp [qz,vg xs ys]
theorem encMs_one (m:Mn):qz [m]=bk m:=by simp [qz]
theorem zO.lit1 {w:World} {e:TypeId} {sz:Nat} (cs:Array Value) (hn:cs.size=sz) (hc:∀ u∈cs.toList,u.oneCell'=true) (g:Nat) (hg:g=w.heap.size):zO sz (.slice (some ⟨g,0,none⟩) 1 1) 1 cs.toList (w.alloc (.cells cs e)):=by
 subst hg
 refine ⟨by simp [hn],hc,.inl ⟨_,_,rfl,fun j u hu=>?_⟩⟩
 unfold Addr.add
 split
 ·subst j;simp;simpa using hu
 ·simp;simpa using hu
theorem Tryz.infoMn:(Tryz.prog.info? 156).map (fun i=>(i.zero,i.size,i.bytes))=some (some (.agg #[.int .i64 0,.pointer none,.pointer none,.slice none 0 0]),4,48):=by kernel_rfl
def FreshV (w:World) (e:TypeId) (sz n:Nat) (P:World->List Value->Prop) (en:Ending) (w':World):Prop :=
 ∃ a c xs,en=.returned (.slice a n c)/\Own w' e sz (.slice a n c) n xs/\P w' xs/\Below w.heap.size w w'/\∀ g,(Value.slice a n c).ownBlock=some g->w.heap.size<=g
theorem dl:∀ (ts:List Ty) (n:Nat) (t:Ty),opens n (ts++[t])=opens n ts++[.op (n+ts.length) t]
 | [],n,t=>by simp [opens]
 | a::ts,n,t=>by rw [List.cons_append,opens,opens,dl ts (n+1) t,List.cons_append,List.length_cons,show n+1+ts.length=n+(ts.length+1) from by omega]
theorem gW {ts:List Ty} {n k:Nat} {t:Ty} (h:ts[k]? = some t):opens n (ts.take (k+1))=opens n (ts.take k)++[.op (n+k) t]:=by
 have hk:=(List.getElem?_eq_some_iff.1 h).1
 rw [List.take_add_one,h]
 simp only [Option.toList_some]
 rw [dl,List.length_take,Nat.min_eq_left (by omega)]
theorem cD {F:Nat->Prop} {w:World} {t:Ty} {v:Value} (h:Rep F w (jG t) v):∃ b,v=.pointer (some ⟨b,0,none⟩):=by
 cases t with
 | mk ts=>rw [jG,ju] at h;obtain ⟨b,c,h,_⟩:=h;exact ⟨b,h⟩
set_option maxRecDepth 100000 in
theorem cX (F:Nat->Prop) (n:Nat) (ts:List Ty) (kv:Value) (w:World) (h:Rep F w (.sl 33 1 ts.length (jN ts)) kv) (hl:ts.length<=1000) (hn:n<=1000000) :
 Calls Tryz.prog 93 #[.int .i64 (n:Nat),kv] w (FreshV w 156 4 ts.length fun w' xs=>zX F w' (qz (opens n ts)) xs):=by
 obtain ⟨ka,kc,e,_,_,fU⟩:=zP h
 subst e
 have H:=ed fU;clear fU h
 go_enter Tryz.func93,Tryz.ntmps93
 go_wp2_with fail
 go_loopw [5,10] (fun o i wr=>∃ k:Nat,k<=ts.length/\i=.int .i64 k/\∃ a c xs,o=.slice a k c/\Own wr 156 4 (.slice a k c) k xs/\zX (fun i=>F i/\i<w.heap.size) wr (qz (opens n (ts.take k))) xs/\Below w.heap.size w wr/\(∀ g,(Value.slice a k c).ownBlock=some g->w.heap.size<=g)) (fun _ i _=>ts.length-(intOf i).toNat)
 case atStart=>exact ⟨0,Nat.zero_le _,rfl,none,0,[],rfl,World.ownsRow_nil _ _ _ _,by simp [opens,qz,zC],e_ _ _,fun g h=>by simp [Value.ownBlock] at h⟩
 case round =>
  obtain ⟨k,hk,rfl,a,c,xs,rfl,ho,hr,hb,hf⟩:=hrel
  have HO:=ed ho;have HF:=ed hf;have HB:=ed hb;have HR:=ed hr
  clear ho hf hb hr
  by_cases fG:k<ts.length
  ·have mX:(k:Int)<(ts.length:Int):=by omega
   obtain ⟨b,o,u,d,e,_,fh,hd,hc,nI⟩:=H.out k fG
   subst e
   rw [pJ,Option.map_eq_some_iff] at hd
   obtain ⟨t,ht,rfl⟩:=hd
   obtain ⟨ub,rfl⟩:=cD nI
   have q0:=(HB.out.cell (p:=⟨b,o+k,none⟩) fh).trans hc
   have HT:=ed (ef ht nI);clear ht nI hc
   have Ix:IntKind.i64.wrap ((n:Int)+(k:Int))=(n:Int)+(k:Int):=IntWalk.i64_in _ (by omega)
   clear Ix
   go_wp2_with (at_builtin;refine zD rfl _ _ 153 rfl 156 (.agg #[.int .i64 0,.pointer none,.pointer none,.slice none 0 0]) 4 48 Tryz.underlying153 Tryz.infoMn rfl (by decide) (.slice a k c) k xs rfl ?c1 _ 1 [.int .i64 ((n:Int)+(k:Int)),.pointer (some ⟨ub,0,none⟩),.pointer none,.slice none 0 0] rfl ?c2 ?c3 ?c4 ?_)
   case c1=>exact HO.out.alloc _
   case c2=>exact zO.lit1 #[.int .i64 ((n:Int)+(k:Int)),.pointer (some ⟨ub,0,none⟩),.pointer none,.slice none 0 0] rfl (by simp [Value.oneCell']) _ (by simp)
   case c3=>unfold maxLen;omega
   case c4=>omega
   intro a' c' w7 fu fW fR
   have nM:Below w.heap.size w w7:=by
    have h1:=HB.out
    refine (h1.alloc h1.size _).trans (fW.toBelow (by rw [zK];have:=h1.size;omega) fun i hi e=>?_)
    have:=HF.out i e;omega
   have ai:∀ g,(Value.slice a' (k+1) c').ownBlock=some g->w.heap.size<=g:=by
    intro g h
    rcases fR g h with h | h
    ·exact HF.out g h
    ·have h2:=HB.out.size
     omega
   have sA:zX (fun i=>F i/\i<w.heap.size) w7 (qz (opens n (ts.take (k+1)))) (xs++[.int .i64 ((n:Int)+(k:Int)),.pointer (some ⟨ub,0,none⟩),.pointer none,.slice none 0 0]):=by
    rw [gW HT.out.1,vg,encMs_one]
    refine zX.append ?_ ?_
    ·exact (Rep.keep fun b o hf ho=>⟨hf,by rw [nM.block b hf.2,<- HB.out.block b hf.2];exact ho⟩).2 _ _ HR.out
    ·rw [bk]
     refine zQ.2 ⟨_,_,rfl,zH.2 (by rw [Int.natCast_add]),zQ.2 ⟨_,_,rfl,(Rep.keep fun b o hf ho=>⟨⟨hf,zZ ho⟩,by rw [nM.block b (zZ ho)];exact ho⟩).1 _ _ HT.out.2,zQ.2 ⟨_,_,rfl,zH.2 rfl,zQ.2 ⟨_,_,rfl,zH.2 rfl,zC.2 rfl⟩⟩⟩⟩
   have HA:=ed (ef fu (ef sA (ef nM ai)));clear fu sA nM ai fW fR
   go_wp2_with fail
   go_roundw
   case rel=>exact ⟨k+1,by omega,by go_num,a',c',_,rfl,HA.out.1,HA.out.2.1,HA.out.2.2.1,HA.out.2.2.2⟩
   case measure=>simp [intOf];omega
  ·obtain rfl:k=ts.length:=by omega
   go_wp2_with fail
   go_ret
   have h0:=HR.out
   rw [List.take_length] at h0
   exact ⟨a,c,xs,rfl,HO.out,(Rep.keep fun b o hf ho=>⟨hf.1,ho⟩).2 _ _ h0,HB.out,HF.out⟩
end Go.Proofs.YtjggkhmojjaomaaGreatDoor
namespace Go.Proofs.YtjggkhmojjaomaaGreatDoor
open Go.RowKit Go.Extern.Stop Go.Stop Go.Extern Go.Extern.Rtype
theorem Tryz.isTypeOf (v:Value) (w:World):(Extern.ReflectliteType.typeOf #[.iface 212 v]).run Tryz.prog w=.ok (.iface 200 (.agg #[.pointer (some ⟨5,212,none⟩)])) w:=by kernel_rfl
theorem Tryz.callCmp (w:World):Sem.run Tryz.prog (callFunc 147 #[.agg #[.pointer (some ⟨5,212,none⟩)]]) w=.ok (.value (.bool true)) w:=by
 rw [@run_callFunc_extern Tryz.prog 147 _ (Extern.ReflectliteType.method fun t=>do noPackHeld "Comparable" t;pure (.bool (<- typeInfo t).comparable)) Tryz.func147 (by kernel_rfl) (by kernel_rfl) (by kernel_rfl) (by kernel_rfl)]
 have h:((Extern.ReflectliteType.method fun t=>do noPackHeld "Comparable" t;pure (.bool (<- typeInfo t).comparable)) #[.agg #[.pointer (some ⟨5,212,none⟩)]]).run Tryz.prog w=.ok (.bool true) w:=by kernel_rfl
 rw [h];rfl
theorem Tryz.isMethodComparable (v:Value) (w:World):(Go.method 345 200 v "Comparable").run Tryz.prog w=.ok (147,v) w:=by kernel_rfl
theorem Tryz.isComp:(Tryz.prog.info? 212).map (·.comparable)=some true:=by kernel_rfl
theorem Tryz.isSize:(Tryz.prog.info? 234).map (·.size)=some 1:=by kernel_rfl
theorem is_nil (b:Addr) (w:World):Calls Tryz.prog 109 #[.nilIface,.iface 212 (.pointer (some b))] w fun e w'=>e=.returned (.bool false)/\w'=w:=by
 have hn:=run_eql_iface_nil_left (P:=Tryz.prog) w 212 (.pointer (some b)) Tryz.underlying114
 go_enter Tryz.func109,Tryz.ntmps109
 go_wp2
 go_ret
 exact ⟨rfl,rfl⟩
set_option maxRecDepth 100000 in
theorem is_same (a:Addr) (w:World) :
 Calls Tryz.prog 109 #[.iface 212 (.pointer (some a)),.iface 212 (.pointer (some a))] w fun e w'=>e=.returned (.bool true)/\w'=w:=by
 obtain ⟨i,hi,JL⟩:=Option.map_eq_some_iff.1 Tryz.isComp
 obtain ⟨j,hj,hjs⟩:=Option.map_eq_some_iff.1 Tryz.isSize
 have h8:=@run_callFunc_extern Tryz.prog 122 _ Extern.ReflectliteType.typeOf Tryz.func122 (by kernel_rfl) (by kernel_rfl) (by kernel_rfl) (by kernel_rfl)
 have tT:=Tryz.isTypeOf
 have cT:=Tryz.callCmp
 have mR:=Tryz.isMethodComparable
 have ia:=run_eql_iface_ptr_same (P:=Tryz.prog) w a Tryz.underlying114 Tryz.underlying212 hi JL hj
 clear hi JL hj hjs
 go_enter Tryz.func109,Tryz.ntmps109
 go_wp2
 refine wp_loop_rounds 1 ?_
 rw [rounds_succ]
 go_wp2
 go_ret
 exact ⟨rfl,rfl⟩
def uh (w:World):Prop:=∃ a,w.cell? ⟨0,0,none⟩=some (.iface 212 (.pointer (some a)))
theorem uh.but {m:Nat->Prop} {w w':World} (h:uh w) (hb:But m w w') (hm:¬ m 0):uh w':=by
 obtain ⟨a,h⟩:=h
 exact ⟨a,(hb.cell (e9 w _ h) hm).trans h⟩
theorem uh.below {w w':World} (h:uh w) (hb:Below w.heap.size w w'):uh w':=h.but (m:=fun _=>False) (But.ofBelow hb) (fun h=>h)
def Apl (w:World) (aa l:Nat):Prop:=w.heap[aa]? = some (.cells #[.int .i64 (l:Nat)] 178 (0,0))
theorem Apl.cell {w:World} {aa l:Nat} (h:Apl w aa l):w.cell? ⟨aa,0,none⟩=some (.int .i64 (l:Nat))/\w.frozen? ⟨aa,0,none⟩=false/\aa<w.heap.size:=by
 unfold Apl at h
 exact ⟨by simp [World.cell?,h],by simp [World.frozen?,h],zZ h⟩
theorem Apl.below {w w':World} {aa l:Nat} (h:Apl w aa l) (hb:Below w.heap.size w w'):Apl w' aa l:=by unfold Apl;rw [hb.block aa (zZ h)];exact h
theorem Rep.low {F:Nat->Prop} {w:World} {d:DV} {v:Value} (h:Rep F w d v):Rep (fun i=>F i/\i<w.heap.size) w d v:=(Rep.keep fun _ _ hf ho=>⟨⟨hf,zZ ho⟩,ho⟩).1 _ _ h
theorem zX.low {F:Nat->Prop} {w:World} {d:List DV} {v:List Value} (h:zX F w d v):zX (fun i=>F i/\i<w.heap.size) w d v:=(Rep.keep fun _ _ hf ho=>⟨⟨hf,zZ ho⟩,ho⟩).2 _ _ h
theorem Rep.weak {F G:Nat->Prop} {w:World} {d:DV} {v:Value} (h:Rep F w d v) (k:∀ i,F i->G i):Rep G w d v:=(Rep.keep fun _ _ hf ho=>⟨k _ hf,ho⟩).1 _ _ h
def uQ (F:Nat->Prop) (w:World) (aa n:Nat):List Gf->Value->Prop
 | [],v=>v=.nilFunc
 | f :: st,v=>∃ (b1 b2 b3 b4 b5:Nat) (bp ev on:Value) (vv:Nat) (ss:List Bd),v=.func (.func 120) #[] #[.pointer (some ⟨b1,0,none⟩),.pointer (some ⟨b2,0,none⟩),.pointer (some ⟨b3,0,none⟩),.pointer (some ⟨b4,0,none⟩),.pointer (some ⟨b5,0,none⟩)] /\
     (F b1/\F b2/\F b3/\F b4/\F b5)/\w.cell? ⟨b1,0,none⟩=some bp/\Rep F w (qZ (.ask vv ss f.yes f.no)) bp/\w.cell? ⟨b2,0,none⟩=some (.pointer (some ⟨aa,0,none⟩))/\w.cell? ⟨b3,0,none⟩=some ev/\Rep F w (.sl 156 4 f.env.length (qz f.env)) ev/\w.cell? ⟨b4,0,none⟩=some (.int .i64 (n:Nat))/\w.cell? ⟨b5,0,none⟩=some on/\uQ F w aa n st on
theorem uQ.but {F G:Nat->Prop} {w w':World} {aa n:Nat} {m:Nat->Prop} (hb:But m w w') (hF:∀ i,F i->¬ m i/\G i):∀ (st:List Gf) (v:Value),uQ F w aa n st v->uQ G w' aa n st v
 | [],v,h=>h
 | f::st,v,h=>by
   obtain ⟨b1,b2,b3,b4,b5,bp,ev,on,vv,ss,e,⟨n1,n2,n3,n4,n5⟩,c1,r1,c2,c3,r3,c4,c5,r5⟩:=h
   have k:∀ {b:Nat} {u:Value},F b->w.cell? ⟨b,0,none⟩=some u->w'.cell? ⟨b,0,none⟩=some u:=fun hn hc=>(hb.cell (e9 w _ hc) (hF _ hn).1).trans hc
   exact ⟨b1,b2,b3,b4,b5,bp,ev,on,vv,ss,e,⟨(hF _ n1).2,(hF _ n2).2,(hF _ n3).2,(hF _ n4).2,(hF _ n5).2⟩,k n1 c1,r1.but hb hF,k n2 c2,k n3 c3,r3.but hb hF,k n4 c4,k n5 c5,uQ.but hb hF st on r5⟩
theorem uQ.low {F:Nat->Prop} {w:World} {aa n:Nat}:∀ (st:List Gf) (v:Value),uQ F w aa n st v->uQ (fun i=>F i/\i<w.heap.size) w aa n st v
 | [],v,h=>h
 | f::st,v,h=>by
   obtain ⟨b1,b2,b3,b4,b5,bp,ev,on,vv,ss,e,⟨n1,n2,n3,n4,n5⟩,c1,r1,c2,c3,r3,c4,c5,r5⟩:=h
   have lt:∀ {b:Nat} {u:Value},w.cell? ⟨b,0,none⟩=some u->b<w.heap.size:=fun hc=>e9 w _ hc
   exact ⟨b1,b2,b3,b4,b5,bp,ev,on,vv,ss,e,⟨⟨n1,lt c1⟩,⟨n2,lt c2⟩,⟨n3,lt c3⟩,⟨n4,lt c4⟩,⟨n5,lt c5⟩⟩,c1,Rep.low r1,c2,c3,Rep.low r3,c4,c5,uQ.low st on r5⟩
mutual
def okM (B:Nat):Mn->Prop
 | .op o t=>zV t<=15/\o<=B
 | .bd t _ e=>zV t<=15/\e.length<=B/\yC B e
def yC (B:Nat):List Mn->Prop
 | []=>True
 | m::ms=>okM B m/\yC B ms
end
mutual
theorem okM_mono {B C:Nat} (h:B<=C):∀ m,okM B m->okM C m
 | .op o t,k=>by rw [okM] at *;exact ⟨k.1,by omega⟩
 | .bd t b e,k=>by rw [okM] at *;exact ⟨k.1,by omega,k9 h e k.2.2⟩
theorem k9 {B C:Nat} (h:B<=C):∀ ms,yC B ms->yC C ms
 | [],_=>by rw [yC];trivial
 | m::ms,k=>by rw [yC] at *;exact ⟨okM_mono h m k.1,k9 h ms k.2⟩
end
theorem jD {B:Nat}:∀ (a b:List Mn),yC B a->yC B b->yC B (a++b)
 | [],b,_,h=>h
 | x::a,b,h,k=>by rw [yC] at h;exact ⟨h.1,jD a b h.2 k⟩
theorem pT {B:Nat}:∀ (a:List Mn),yC B a->∀ (k:Nat) (m:Mn),a[k]? = some m->okM B m
 | [],_,k,m,h=>by simp at h
 | x::a,hs,k,m,h=>by
   rw [yC] at hs
   cases k with
   | zero=>simp at h;subst h;exact hs.1
   | succ k=>exact pT a hs.2 k m (by simpa using h)
theorem jU {B:Nat}:∀ (ts:List Ty) (n:Nat),(∀ t∈ts,zV t<=15)->n+ts.length<=B+1->yC B (opens n ts)
 | [],n,_,_=>by rw [opens];trivial
 | t::ts,n,h,hn=>by
   simp only [List.length_cons] at hn
   rw [opens,yC];exact ⟨by rw [okM];exact ⟨h t (by simp),by omega⟩,jU ts (n+1) (fun x hx=>h x (by simp [hx])) (by omega)⟩
theorem xp {B:Nat} {env:List Mn} (he:yC B env) (hl:env.length<=B):∀ (ts:List Ty) (ss:List Bd),(∀ t∈ts,zV t<=15)->yC B (owns env ts ss)
 | [],ss,_=>by
   rw [owns]
   ·trivial
   ·intros;contradiction
 | t::ts,[],_=>by
   rw [owns]
   ·trivial
   ·intros;contradiction
 | t::ts,s::ss,h=>by rw [owns,yC];exact ⟨by rw [okM];exact ⟨h t (by simp),hl,he⟩,xp he hl ts ss (fun x hx=>h x (by simp [hx]))⟩
def okGs (B:Nat):List Gf->Prop
 | []=>True
 | f::fs=>f.env.length<=B/\yC B f.env/\okGs B fs
theorem vG {B C:Nat} (h:B<=C):∀ fs,okGs B fs->okGs C fs
 | [],_=>trivial
 | f::fs,k=>⟨by have:=k.1;omega,k9 h _ k.2.1,vG h fs k.2.2⟩
theorem zo {t:Ty} (h:zV t<=15):(∀ a∈t.args,zV a<=15)/\t.args.length<=15:=by
 have hm:=qw t
 constructor
 ·intro a ha
  have key:∀ ts:List Ty,a∈ts->1+zV a<=zt ts:=by
   intro ts
   induction ts with
   | nil=>intro h;simp at h
   | cons x xs ih =>
     intro h
     rcases List.mem_cons.1 h with rfl | h
     ·simp only [zt];omega
     ·have:=ih h;simp only [zt];omega
  have:=key _ ha;omega
 ·have:=qV t.args;omega
def kC (F:Nat->Prop) (aa:Nat) (o:Option (Bd×Nat)) (w:World) (en:Ending) (w':World):Prop :=
 But (· = aa) w w'/\(o=none->∃ a,en=.returned (.tuple #[.pointer none,.iface 212 (.pointer (some a))])/\w.cell? ⟨0,0,none⟩=some (.iface 212 (.pointer (some a)))) /\
  (∀ out l,o=some (out,l)->∃ v,en=.returned (.tuple #[v,.nilIface])/\Apl w' aa l/\Rep (fun i=>F i\/w.heap.size<=i) w' (qZ out) v)
theorem kC.none {F:Nat->Prop} {aa:Nat} {o:Option (Bd×Nat)} {w w':World} {a:Addr} (ho:o=.none) (hb:But (· = aa) w w') (hc:w.cell? ⟨0,0,none⟩=some (.iface 212 (.pointer (some a)))) :
 kC F aa o w (.returned (.tuple #[.pointer none,.iface 212 (.pointer (some a))])) w' :=
 ⟨hb,fun _=>⟨a,rfl,hc⟩,fun _ _ h=>by rw [ho] at h;simp at h⟩
theorem kC.some {F:Nat->Prop} {aa:Nat} {o:Option (Bd×Nat)} {w w':World} {out:Bd} {l:Nat} {v:Value} (ho:o=.some (out,l)) (hb:But (· = aa) w w') (ha:Apl w' aa l) (hr:Rep (fun i=>F i\/w.heap.size<=i) w' (qZ out) v) :
 kC F aa o w (.returned (.tuple #[v,.nilIface])) w' :=
 ⟨hb,fun h=>by rw [ho] at h;simp at h,fun _ _ h=>by rw [ho] at h;simp at h;obtain ⟨rfl,rfl⟩:=h;exact ⟨v,rfl,ha,hr⟩⟩
structure wC (F:Nat->Prop) (aa l d n:Nat) (H:List Ty) (b:Bd) (env:List Mn) (st:List Gf) (bv ev on:Value) (w:World):Prop where
 glob:uh w
 hF:∀ i,F i->i≠aa
 ng:aa≠0
 apl:Apl w aa l
 ld:l<=d
 d20:d<=20000
 fit:jT H b env st
 hn:H.length=n
 el:env.length+16*d<=1000000
 nl:n+16*d<=1000000
 ok:yC (1000000-16*d) env
 okg:okGs (1000000-16*d) st
 rb:Rep F w (qZ b) bv
 re:Rep F w (.sl 156 4 env.length (qz env)) ev
 ro:uQ F w aa n st on
def xi (d:Nat):Prop:=∀ (F:Nat->Prop) (aa l n:Nat) (H:List Ty) (b:Bd) (env:List Mn) (st:List Gf) (bv ev on:Value) (w:World),wC F aa l d n H b env st bv ev on w ->
 Calls Tryz.prog 108 #[.pointer (some ⟨aa,0,none⟩),bv,ev,.int .i64 (n:Nat),on] w (kC F aa (Go.Proofs.YtjggkhmojjaomaaGreatDoor.ev d l b env n st) w)
theorem after_any (d:Nat) (ih:xi d) (F:Nat->Prop) (aa l n:Nat) (H:List Ty) (f:Gf) (st:List Gf) (b1 b2 b3 b4 b5:Nat) (bp ev on:Value) (vv:Nat) (ss:List Bd) (w:World) (c:UInt8) (hg:uh w) (hF:∀ i,F i->i≠aa) (hng:aa≠0) (ha:Apl w aa l) (oW:l<=d) (hd:d<=20000)
 (hf:jT H (if c=116 then f.yes else f.no) f.env st) (hn:H.length=n) (al:f.env.length+16*d<=1000000) (iY:n+16*d<=1000000) (fw:yC (1000000-16*d) f.env) (FP:okGs (1000000-16*d) st)
 (c1:w.cell? ⟨b1,0,none⟩=some bp) (r1:Rep F w (qZ (.ask vv ss f.yes f.no)) bp) (c2:w.cell? ⟨b2,0,none⟩=some (.pointer (some ⟨aa,0,none⟩))) (c3:w.cell? ⟨b3,0,none⟩=some ev) (r3:Rep F w (.sl 156 4 f.env.length (qz f.env)) ev)
 (c4:w.cell? ⟨b4,0,none⟩=some (.int .i64 (n:Nat))) (c5:w.cell? ⟨b5,0,none⟩=some on) (r5:uQ F w aa n st on) :
 Calls Tryz.prog 120 #[.bool (decide (c=116)),.pointer (some ⟨b1,0,none⟩),.pointer (some ⟨b2,0,none⟩),.pointer (some ⟨b3,0,none⟩),.pointer (some ⟨b4,0,none⟩),.pointer (some ⟨b5,0,none⟩)] w (kC F aa (Go.Proofs.YtjggkhmojjaomaaGreatDoor.ev d l (if c=116 then f.yes else f.no) f.env n st) w):=by
 obtain ⟨bb,sl,yv,nv,rfl,_,fJ,_,ry,rn⟩:=uw r1
 have q3:w.cell? ⟨bb,3,none⟩=some yv:=by simp [World.cell?,fJ]
 have q4:w.cell? ⟨bb,4,none⟩=some nv:=by simp [World.cell?,fJ]
 have IH:=ed ih
 have key:∀ (b:Bd) (bv:Value),jT H b f.env st->Rep F w (qZ b) bv->Calls Tryz.prog 108 #[.pointer (some ⟨aa,0,none⟩),bv,ev,.int .i64 (n:Nat),on] w (kC F aa (Go.Proofs.YtjggkhmojjaomaaGreatDoor.ev d l b f.env n st) w) :=
  fun b bv hf hr=>IH.out F aa l n H b f.env st bv ev on w ⟨hg,hF,hng,ha,oW,hd,hf,hn,al,iY,fw,FP,hr,r3,r5⟩
 by_cases hc:c=116
 ·rw [if_pos hc] at hf ⊢
  rw [decide_eq_true hc]
  have K0:=key _ _ hf ry
  generalize Go.Proofs.YtjggkhmojjaomaaGreatDoor.ev d l f.yes f.env n st=o at *
  have K:=ed K0
  clear key K0 hf ry rn r1 r3 r5 fJ IH ih fw FP hg hF ha hn hc
  go_enter Tryz.func120,Tryz.ntmps120
  go_wp2_with fail
  (with_reducible refine K.out.mono ?_)
  rintro en w1 ⟨fP,mZ,fo⟩
  cases o with
  | none =>
    obtain ⟨a,rfl,hc⟩:=mZ rfl
    have HB:=ed (ef fP hc);clear fP mZ fo hc
    go_wp2_with fail
    go_ret2
    exact kC.none rfl HB.out.1 HB.out.2
  | some x =>
    obtain ⟨v,rfl,ha,hr⟩:=fo x.1 x.2 rfl
    have HB:=ed (ef fP (ef ha hr));clear fP mZ fo ha hr
    go_wp2_with fail
    go_ret2
    exact kC.some rfl HB.out.1 HB.out.2.1 HB.out.2.2
 ·rw [if_neg hc] at hf ⊢
  rw [decide_eq_false hc]
  have K0:=key _ _ hf rn
  generalize Go.Proofs.YtjggkhmojjaomaaGreatDoor.ev d l f.no f.env n st=o at *
  have K:=ed K0
  clear key K0 hf ry rn r1 r3 r5 fJ IH ih fw FP hg hF ha hn hc
  go_enter Tryz.func120,Tryz.ntmps120
  go_wp2_with fail
  (with_reducible refine K.out.mono ?_)
  rintro en w1 ⟨fP,mZ,fo⟩
  cases o with
  | none =>
    obtain ⟨a,rfl,hc⟩:=mZ rfl
    have HB:=ed (ef fP hc);clear fP mZ fo hc
    go_wp2_with fail
    go_ret2
    exact kC.none rfl HB.out.1 HB.out.2
  | some x =>
    obtain ⟨v,rfl,ha,hr⟩:=fo x.1 x.2 rfl
    have HB:=ed (ef fP (ef ha hr));clear fP mZ fo ha hr
    go_wp2_with fail
    go_ret2
    exact kC.some rfl HB.out.1 HB.out.2.1 HB.out.2.2
theorem vP {F:Nat->Prop} {w:World}:∀ (ms:List Mn) (us:List Value),zX F w (qz ms) us->∀ u∈us,u.oneCell'=true
 | [],us,h,u,hu=>by rw [qz,zC] at h;subst h;simp at hu
 | m::ms,us,h,u,hu=>by
   rw [qz] at h
   obtain ⟨h1,h2⟩:=h.split
   rw [xE] at h1 h2
   rw [<- List.take_append_drop 4 us] at hu
   rcases List.mem_append.1 hu with hu | hu
   ·cases m with
    | op o t =>
      simp only [bk,zQ,zC,zH] at h1
      obtain ⟨_,_,e,rfl,kv,_,rfl,hk,_,_,rfl,rfl,_,_,rfl,rfl,rfl⟩:=h1
      rw [e] at hu
      obtain ⟨kb,rfl⟩:=cD hk
      simp only [List.mem_cons,List.not_mem_nil,or_false] at hu
      rcases hu with rfl | rfl | rfl | rfl <;> rfl
    | bd t b en =>
      simp only [bk,zQ,zC,zH] at h1
      obtain ⟨_,_,e,rfl,_,_,rfl,rfl,bv,_,rfl,hk,sv,_,rfl,hs,rfl⟩:=h1
      rw [e] at hu
      obtain ⟨kb,rfl⟩:=zi hk
      rw [zp] at hs
      obtain ⟨_,a,c,rfl,_⟩:=hs
      simp only [List.mem_cons,List.not_mem_nil,or_false] at hu
      rcases hu with rfl | rfl | rfl | rfl <;> rfl
   ·exact vP ms _ h2 u hu
theorem mean_at {F:Nat->Prop} {w:World} {env:List Mn} {ev:Value} (h:Rep F w (.sl 156 4 env.length (qz env)) ev) {v:Nat} {m:Mn} (hc:env[v]? = some m) :
 ∃ b o cap x0 x1 x2 x3,ev=.slice (some ⟨b,o,none⟩) env.length cap/\F b/\b<w.heap.size/\w.cell? ⟨b,o+v*4,none⟩=some x0/\w.cell? ⟨b,o+v*4+1,none⟩=some x1/\w.cell? ⟨b,o+v*4+2,none⟩=some x2/\w.cell? ⟨b,o+v*4+3,none⟩=some x3/\zX F w (bk m) [x0,x1,x2,x3]:=by
 have hv:=(List.getElem?_eq_some_iff.1 hc).1
 rw [zp] at h
 obtain ⟨hl,a,cap,rfl,hn,hz,h⟩:=h
 rcases h with h0 | ⟨b,o,cs,fr,rfl,hb,hcs,hr⟩
 ·omega
 have ll:qz env=qz (env.take v)++(bk m++qz (env.drop (v+1))):=by
  have e:env=env.take v++m::env.drop (v+1):=by
   have:env[v]=m:=(List.getElem?_eq_some_iff.1 hc).2
   rw [<- this,List.getElem_cons_drop,List.take_append_drop]
  conv=>lhs;rw [e]
  rw [vg,qz]
 rw [ll] at hr
 have h2:=hr.split.2
 rw [bI,List.length_take,Nat.min_eq_left (by omega)] at h2
 have h3:=h2.split.1
 rw [xE] at h3
 have hlen:=h3.length
 rw [xE] at hlen
 obtain ⟨x0,x1,x2,x3,e1⟩:∃ x0 x1 x2 x3,(((cs.toList.drop o).take (env.length*4)).drop (v*4)).take 4=[x0,x1,x2,x3]:=by
  match hq:(((cs.toList.drop o).take (env.length*4)).drop (v*4)).take 4,hlen with
  | [a,b,c,d],_=>exact ⟨a,b,c,d,rfl⟩
 rw [e1] at h3
 have get:∀ (j:Nat) (u':Value),j<4->[x0,x1,x2,x3][j]? = some u'->w.cell? ⟨b,o+v*4+j,none⟩=some u':=by
  intro j u' hj h
  rw [<- e1,List.getElem?_take,if_pos hj,List.getElem?_drop,List.getElem?_take,if_pos (by omega),List.getElem?_drop] at h
  simp only [World.cell?,hcs]
  simpa [Nat.add_assoc] using h
 exact ⟨b,o,cap,x0,x1,x2,x3,rfl,hb,zZ hcs,get 0 _ (by omega) rfl,get 1 _ (by omega) rfl,get 2 _ (by omega) rfl,get 3 _ (by omega) rfl,h3⟩
theorem dK (f:Nat->Bd->List Mn->Nat->List Gf->Option (Bd×Nat)) (env:List Mn) (n:Nat) (t:Ty) (s:Bd):∀ (ts:List Ty) (ss:List Bd) (l:Nat),ts.length=ss.length ->
 kh f env n l (ts++[t]) (ss++[s])=(kh f env n l ts ss).bind fun x=>(f x.2 s (env++opens n t.args) (n+t.args.length) []).bind fun y=>some (x.1++[y.1],y.2)
 | [],[],l,_=>by
   simp only [List.nil_append,kh,Option.bind_eq_bind,Option.bind_some]
 | [],s'::ss,l,h=>by simp at h
 | t'::ts,[],l,h=>by simp at h
 | t'::ts,s'::ss,l,h=>by
   simp only [List.cons_append,kh,Option.bind_eq_bind]
   cases h1:f l s' (env++opens n t'.args) (n+t'.args.length) [] with
   | none=>rfl
   | some x =>
     simp only [Option.bind_some]
     rw [dK f env n t s ts ss x.2 (by simpa using h)]
     cases h2:kh f env n x.2 ts ss with
     | none=>rfl
     | some y =>
       simp only [Option.bind_some]
       cases h3:f y.2 s (env++opens n t.args) (n+t.args.length) [] with
       | none=>rfl
       | some z=>rfl
theorem evSubs_take {f:Nat->Bd->List Mn->Nat->List Gf->Option (Bd×Nat)} {env:List Mn} {n l k:Nat} {ts:List Ty} {ss:List Bd} {t:Ty} {s:Bd} (ht:ts[k]? = some t) (hs:ss[k]? = some s) :
 kh f env n l (ts.take (k+1)) (ss.take (k+1))=(kh f env n l (ts.take k) (ss.take k)).bind fun x=>(f x.2 s (env++opens n t.args) (n+t.args.length) []).bind fun y=>some (x.1++[y.1],y.2):=by
 have h1:=(List.getElem?_eq_some_iff.1 ht).1
 have h2:=(List.getElem?_eq_some_iff.1 hs).1
 rw [List.take_add_one,List.take_add_one,ht,hs]
 exact dK f env n t s _ _ l (by rw [List.length_take,List.length_take];omega)
theorem dJ {f:Nat->Bd->List Mn->Nat->List Gf->Option (Bd×Nat)} {env:List Mn} {n:Nat}:∀ (k:Nat) (ts:List Ty) (ss:List Bd) (l:Nat),kh f env n l (ts.take k) (ss.take k)=none->kh f env n l ts ss=none
 | 0,ts,ss,l,h=>by simp [kh] at h
 | k+1,[],ss,l,h=>by simp [kh] at h
 | k+1,t::ts,[],l,h=>by simp [kh] at h
 | k+1,t::ts,s::ss,l,h=>by
   simp only [List.take_succ_cons,kh,Option.bind_eq_bind] at h ⊢
   cases h1:f l s (env++opens n t.args) (n+t.args.length) [] with
   | none=>rfl
   | some x =>
     rw [h1] at h
     simp only [Option.bind_some] at h ⊢
     cases h2:kh f env n x.2 (ts.take k) (ss.take k) with
     | none=>rw [dJ k ts ss x.2 h2];rfl
     | some y=>rw [h2] at h;simp at h
theorem dV {d:Nat} (ih:∀ (l:Nat) (b:Bd) (env:List Mn) (n:Nat) (st:List Gf) (r:Bd) (l':Nat),Go.Proofs.YtjggkhmojjaomaaGreatDoor.ev d l b env n st=some (r,l')->l'<=l) {env:List Mn} {n:Nat} :
 ∀ (ts:List Ty) (ss:List Bd) (l:Nat) (xs:List Bd) (l':Nat),kh (Go.Proofs.YtjggkhmojjaomaaGreatDoor.ev d) env n l ts ss=some (xs,l')->l'<=l
 | [],ss,l,xs,l',h=>by simp [kh] at h;omega
 | t::ts,[],l,xs,l',h=>by simp [kh] at h;omega
 | t::ts,s::ss,l,xs,l',h=>by
   simp only [kh,Option.bind_eq_bind,Option.bind_eq_some_iff,Prod.exists] at h
   obtain ⟨x,l1,h1,ys,l2,h2,h3⟩:=h
   simp at h3
   have k1:=ih _ _ _ _ _ _ _ h1
   have k2:=dV ih ts ss _ _ _ h2
   omega
theorem ev_left (d:Nat):∀ (l:Nat) (b:Bd) (env:List Mn) (n:Nat) (st:List Gf) (r:Bd) (l':Nat),Go.Proofs.YtjggkhmojjaomaaGreatDoor.ev d l b env n st=some (r,l')->l'<=l:=by
 induction d with
 | zero=>intro l b env n st r l' h;simp [Go.Proofs.YtjggkhmojjaomaaGreatDoor.ev] at h
 | succ d ih =>
   intro l b env n st r l' h
   cases l with
   | zero=>rw [ev.eq_def] at h;simp at h
   | succ l =>
     cases b with
     | leaf c =>
       by_cases hc:c=117
       ·subst hc;rw [ev_u] at h;simp at h;omega
       ·cases st with
        | nil=>rw [ev_end] at h;simp at h;omega
        | cons f st=>rw [ev_back hc] at h;have:=ih _ _ _ _ _ _ _ h;omega
     | ask v ss y no =>
       cases hv:env[v]? with
       | none=>rw [ev.eq_def] at h;simp [hv] at h
       | some m =>
         cases m with
         | bd t b' e=>rw [ev_bd hv] at h;have:=ih _ _ _ _ _ _ _ h;omega
         | op o t =>
           rw [ev_op hv] at h
           simp only [Option.bind_eq_some_iff,Prod.exists] at h
           obtain ⟨xs,l1,h1,x,l2,h2,z,l3,h3,h4⟩:=h
           simp at h4
           have k1:=dV ih _ _ _ _ _ h1
           have k2:=ih _ _ _ _ _ _ _ h2
           have k3:=ih _ _ _ _ _ _ _ h3
           omega
theorem wK (xs:List Bd) (x:Bd):q_ (xs++[x])=q_ xs++[qZ x]:=by
 induction xs with
 | nil=>simp [q_]
 | cons y ys ih=>simp [q_,ih]
structure KInv (F:Nat->Prop) (aa l n d o:Nat) (env:List Mn) (ts:List Ty) (ss:List Bd) (kv:Value) (w:World) (k lk:Nat) (outs:List Bd) (sv:Value) (us:List Value) (wr:World):Prop where
 evk:kh (Go.Proofs.YtjggkhmojjaomaaGreatDoor.ev d) env n l (ts.take k) (ss.take k)=some (outs,lk)
 ol:outs.length=k
 but:But (· = aa) w wr
 zw:w.heap.size+2<=wr.heap.size
 apl:Apl wr aa lk
 lkl:lk<=l
 box:wr.heap[w.heap.size]? = some (.cells #[.int .i64 (o:Nat),kv,.pointer none,.slice none 0 0] 156 (0,0))
 blk:wr.heap[w.heap.size+1]? = some (.cells #[str [],.int .i64 (o:Nat),sv,.pointer none,.pointer none] 68 (0,0))
 own:Own wr 34 1 sv k us
 rep:zX (fun i=>((F i/\i<w.heap.size)\/w.heap.size+2<=i)/\sv.ownBlock≠some i) wr (q_ outs) us
 fr:∀ g,sv.ownBlock=some g->w.heap.size+2<=g
theorem wJ {w:World} {P:Nat} {a b c d e:Value} {T:TypeId} (h:w.heap[P]? = some (.cells #[a,b,c,d,e] T (0,0))):w.cell? ⟨P,0,none⟩=some a/\w.cell? ⟨P,1,none⟩=some b/\w.cell? ⟨P,2,none⟩=some c/\w.cell? ⟨P,3,none⟩=some d/\w.cell? ⟨P,4,none⟩=some e/\(∀ o,w.frozen? ⟨P,o,none⟩=false) :=
 ⟨by simp [World.cell?,h],by simp [World.cell?,h],by simp [World.cell?,h],by simp [World.cell?,h],by simp [World.cell?,h],fun o=>by simp [World.frozen?,h]⟩
theorem kP {w:World} {P:Nat} {a b c d:Value} {T:TypeId} (h:w.heap[P]? = some (.cells #[a,b,c,d] T (0,0))):w.cell? ⟨P,0,none⟩=some a/\w.cell? ⟨P,1,none⟩=some b/\w.cell? ⟨P,2,none⟩=some c/\w.cell? ⟨P,3,none⟩=some d :=
 ⟨by simp [World.cell?,h],by simp [World.cell?,h],by simp [World.cell?,h],by simp [World.cell?,h]⟩
theorem Own.src {w:World} {e:TypeId} {sz n:Nat} {v:Value} {xs:List Value} (h:Own w e sz v n xs) (hc:∀ u∈xs,u.oneCell'=true):zO sz v n xs w:=by
 refine ⟨h.1,hc,?_⟩
 rcases h.2 with ⟨e,h0⟩ | ⟨g,cap,cur,e,_,hg,_,_,_,ht⟩
 ·exact .inr ⟨e,h0⟩
 ·refine .inl ⟨_,cap,e,fun j u hj=>?_⟩
  rw [<- ht,List.getElem?_take] at hj
  split at hj
  ·unfold Addr.add
   split
   ·subst j;simp only [World.cell?,hg];simpa using hj
   ·simp only [World.cell?,hg];simpa using hj
  ·simp at hj
structure KeptPre (F:Nat->Prop) (aa l d n o vv:Nat) (H:List Ty) (t:Ty) (ss:List Bd) (y no:Bd) (env:List Mn) (st:List Gf) (bv kv ev on:Value) (w:World):Prop where
 glob:uh w
 hF:∀ i,F i->i≠aa
 ng:aa≠0
 apl:Apl w aa l
 ld:l<=d
 d20:d<=20000
 hlen:ss.length=t.args.length
 at15:zV t<=15
 sub:∀ (k:Nat) (a:Ty) (s:Bd),t.args[k]? = some a->ss[k]? = some s->jT (H++a.args) s (env++opens H.length a.args) []
 fy:jT H y env st
 fn:jT H no env st
 hn:H.length=n
 el:env.length+16*(d+1)<=1000000
 nl:n+16*(d+1)<=1000000
 ok:yC (1000000-16*(d+1)) env
 okg:okGs (1000000-16*(d+1)) st
 rb:Rep F w (qZ (.ask vv ss y no)) bv
 rk:Rep F w (jG t) kv
 re:Rep F w (.sl 156 4 env.length (qz env)) ev
 ro:uQ F w aa n (⟨y,no,env⟩::st) on
def xK (d l n o:Nat) (t:Ty) (ss:List Bd) (y no:Bd) (env:List Mn) (st:List Gf):Option (Bd×Nat) :=
 (kh (Go.Proofs.YtjggkhmojjaomaaGreatDoor.ev d) env n l t.args ss).bind fun x=>(Go.Proofs.YtjggkhmojjaomaaGreatDoor.ev d x.2 y env n st).bind fun z=>(Go.Proofs.YtjggkhmojjaomaaGreatDoor.ev d z.2 no env n st).bind fun u=>some (.ask o x.1 z.1 u.1,u.2)
set_option maxRecDepth 100000 in
theorem kept_any (d:Nat) (ih:xi d) (F:Nat->Prop) (aa l n o vv:Nat) (H:List Ty) (t:Ty) (ss:List Bd) (y no:Bd) (env:List Mn) (st:List Gf) (bv kv ev on:Value) (w:World) (h:KeptPre F aa l d n o vv H t ss y no env st bv kv ev on w) :
 Calls Tryz.prog 121 #[.pointer (some ⟨aa,0,none⟩),bv,.agg #[.int .i64 (o:Nat),kv,.pointer none,.slice none 0 0],ev,.int .i64 (n:Nat),on] w (kC F aa (xK d l n o t ss y no env st) w):=by
 have HP:=ed h
 have IH:=ed ih
 obtain ⟨bb,sl,yv,nv,e,aT,fJ,mm,_,_⟩:=uw h.rb
 subst e
 obtain ⟨kb,ks,e,hkF,sK,DN⟩:=kZ h.rk
 subst e
 obtain ⟨sa,sc,e,_,_,BC⟩:=zP mm
 subst e
 obtain ⟨ka,kc,e,_,_,lU⟩:=zP DN
 subst e
 obtain ⟨exs,B7,aU⟩:=zO.ofRep h.re (vP env)
 obtain ⟨ea,ec,e⟩:=aU.slice
 subst e
 obtain ⟨b1,b2,b3,b4,b5,bp,ev5,on5,vv5,ss5,e,⟨n1,n2,n3,n4,n5⟩,c1,r1,c2,c3,r3,c4,c5,r5⟩:=h.ro
 subst e
 have FY:ss.length<=15:=by rw [h.hlen];exact (zo h.at15).2
 have hl16':t.args.length<=15:=(zo h.at15).2
 have J_:=ed h.hlen
 have iY:=h.nl
 have al:=h.el
 have hbaa:=h.hF _ aT
 have hkaa:=h.hF _ hkF
 have fh:=zZ fJ
 have nT:=zZ sK
 have G9:=h.apl.cell.2.2
 have IU:w.cell? ⟨bb,2,none⟩=some (.slice sa ss.length sc):=by simp [World.cell?,fJ]
 have Ae:w.cell? ⟨kb,0,none⟩=some (.slice ka t.args.length kc):=by simp [World.cell?,sK]
 have HA:=ed (ef BC (ef lU (ef B7 aU)))
 have HC:=ed (ef (ef n1 (ef n2 (ef n3 (ef n4 n5)))) (ef c1 (ef r1 (ef c2 (ef c3 (ef r3 (ef c4 (ef c5 r5))))))))
 clear h ih fJ mm sK DN BC lU B7 aU n1 n2 n3 n4 n5 c1 r1 c2 c3 r3 c4 c5 r5 aT hkF
 go_enter Tryz.func121,Tryz.ntmps121
 go_wp2_with fail
 go_loopw [31] (fun i wr=>∃ (k lk:Nat) (outs:List Bd) (sv:Value) (us:List Value),k<=ss.length/\i=.int .i64 k/\KInv F aa l n d o env t.args ss (.pointer (some ⟨kb,0,none⟩)) w k lk outs sv us wr) (fun i _=>ss.length-(intOf i).toNat)
 case atStart =>
  refine ⟨0,l,[],.slice none 0 0,[],Nat.zero_le _,rfl,?_⟩
  have nw:Below w.heap.size w ((w.alloc (.cells #[.int .i64 (o:Nat),.pointer (some ⟨kb,0,none⟩),.pointer none,.slice none 0 0] 156)).alloc (.cells #[str [],.int .i64 (o:Nat),.slice none 0 0,.pointer none,.pointer none] 68)):=((e_ _ _).alloc (ei _) _).alloc (by rw [zK];omega) _
  refine { evk:=by simp [kh],ol:=rfl,but:=But.ofBelow nw,zw:=by simp,apl:=HP.out.apl.below nw,lkl:=ei _,box:=zY (zG _ _),blk:=?_,own:=World.ownsRow_nil _ _ _ _,rep:=by simp [q_,zC],fr:=fun g hg=>by simp [Value.ownBlock] at hg }
  have:=zG (w.alloc (.cells #[.int .i64 (o:Nat),.pointer (some ⟨kb,0,none⟩),.pointer none,.slice none 0 0] 156)) (.cells #[str [],.int .i64 (o:Nat),.slice none 0 0,.pointer none,.pointer none] 68)
  rwa [zK] at this
 case round =>
  rename_i wr
  obtain ⟨k,lk,outs,sv,us,hk,rfl,fH⟩:=hrel
  have HI:=ed fH;clear fH
  by_cases fG:k<ss.length
  ·have mX:(k:Int)<(ss.length:Int):=by omega
   have hlta:k<t.args.length:=by have:=J_.out;omega
   have hlta':(k:Int)<(t.args.length:Int):=by omega
   obtain ⟨sb,so,u,d1,e,lF,Fu,oB,rZ,nI⟩:=HA.out.1 k fG
   subst e
   rw [xJ,Option.map_eq_some_iff] at oB
   obtain ⟨s,hs,rfl⟩:=oB
   obtain ⟨ub,rfl⟩:=zi nI
   obtain ⟨lL,At,u2,d2,e,Cr,Ip,Ah,rD,mD⟩:=HA.out.2.1 k hlta
   subst e
   rw [pJ,Option.map_eq_some_iff] at Ah
   obtain ⟨a,ha,rfl⟩:=Ah
   obtain ⟨kab,s2,rfl,hF3,Jh,FH⟩:=kZ mD
   obtain ⟨a3,k3,rfl⟩:∃ a3 k3,s2=.slice a3 a.args.length k3:=by have h:=FH;rw [zp] at h;obtain ⟨_,a,c,e,_⟩:=h;exact ⟨a,c,e⟩
   have lq:zV a<=15:=(zo HP.out.at15).1 a (List.mem_of_getElem? ha)
   have lB:=(zo lq).2
   have kF:∀ {b:Nat} {j:Nat} {x:Value},F b->w.cell? ⟨b,j,none⟩=some x->wr.cell? ⟨b,j,none⟩=some x:=fun hb hc=>(HI.out.but.cell (e9 w _ hc) (HP.out.hF _ hb)).trans hc
   have q0:=kF lF rZ
   have q1:wr.cell? ⟨kb,0,none⟩=some (.slice (some ⟨lL,At,none⟩) t.args.length kc):=(HI.out.but.cell nT hkaa).trans Ae
   have q2:=kF Cr rD
   have q3:wr.cell? ⟨kab,0,none⟩=some (.slice a3 a.args.length k3):=kF hF3 (by simp [World.cell?,Jh])
   obtain ⟨x0,x1,x2,x3⟩:=kP HI.out.box
   have mC:zO 4 (.slice ea env.length ec) env.length exs wr:=srcSl_but HI.out.but (fun b hb=>HP.out.hF b hb) HP.out.re HA.out.2.2.2
   have HK:=ed (ef hs (ef nI (ef ha (ef FH mC))))
   have lh:=HI.out.zw
   clear hs nI ha mD FH Jh mC kF rZ rD lF Cr hF3 Ae IU
   go_wp2_with (at_builtin;refine zD rfl _ _ 153 rfl 156 (.agg #[.int .i64 0,.pointer none,.pointer none,.slice none 0 0]) 4 48 Tryz.underlying153 Tryz.infoMn rfl (by decide) (.slice none 0 0) 0 [] rfl ?a1 _ env.length exs rfl ?a2 ?a3 ?a4 ?_)
   case a1=>exact World.ownsRow_nil _ _ _ _
   case a2=>exact HK.out.2.2.2.2
   case a3=>unfold maxLen;omega
   case a4=>omega
   intro a6 c6 w6 Di fC Do
   have sk:Below wr.heap.size wr w6:=fC.toBelow (ei _) (fun i _ e=>by simp [Value.ownBlock] at e)
   have EM:∀ g,(Value.slice a6 env.length c6).ownBlock=some g->wr.heap.size<=g:=fun g hg=>by
    rcases Do g hg with h | h
    ·simp [Value.ownBlock] at h
    ·omega
   have IO:Rep (fun i=>F i/\i<w.heap.size) w6 (.sl 33 1 a.args.length (jN a.args)) (.slice a3 a.args.length k3) :=
    Rep.below sk (fun _ h=>h) ((Rep.low HK.out.2.2.2.1).but HI.out.but (fun b hb=>⟨HP.out.hF b hb.1,hb⟩))
   have C7:=ed (cX (fun i=>F i/\i<w.heap.size) n a.args (.slice a3 a.args.length k3) w6 IO (by omega) (by omega))
   have H6:=ed (ef Di (ef sk EM));clear Di fC Do sk EM IO x0 x1 x2 x3 q0 q1 q2 q3
   go_wp2_with fail
   (with_reducible refine C7.out.mono ?_)
   rintro en w7 ⟨a7,c7,xs7,rfl,fu,sA,fW,ai⟩
   clear C7
   have IZ:Own w7 156 4 (.slice a6 env.length c6) env.length exs:=H6.out.1.keep fun g o hg hh=>by rw [fW.block g (zZ hh)];exact hh
   have Ey:=fu.src (vP _ _ sA)
   have JR:Below wr.heap.size wr w7:=zzT H6.out.2.1 fW
   have H7:=ed (ef IZ (ef Ey (ef sA JR)));clear IZ Ey sA JR fu fW ai
   go_wp2_with (at_builtin;refine zD rfl _ _ 153 rfl 156 (.agg #[.int .i64 0,.pointer none,.pointer none,.slice none 0 0]) 4 48 Tryz.underlying153 Tryz.infoMn rfl (by decide) (.slice a6 env.length c6) env.length exs rfl ?e1 _ a.args.length xs7 rfl ?e2 ?e3 ?e4 ?_)
   case e1=>exact H7.out.1
   case e2=>exact H7.out.2.1
   case e3=>unfold maxLen;omega
   case e4=>omega
   intro a8 c8 w8 EF ft Jt
   have hz67:=H7.out.2.2.2.size
   have DY:Below wr.heap.size wr w8:=H7.out.2.2.2.trans (ft.toBelow hz67 fun i hi e=>by have:=H6.out.2.2 i e;omega)
   have rz:∀ g,(Value.slice a8 (env.length+a.args.length) c8).ownBlock=some g->wr.heap.size<=g:=fun g hg=>by
    rcases Jt g hg with h | h
    ·exact H6.out.2.2 g h
    ·omega
   have iI:But (· = aa) w w8:=HI.out.but.trans (But.ofBelow DY)
   have Ke:∀ i,(((F i/\i<w.heap.size)\/w.heap.size+2<=i)/\sv.ownBlock≠some i)->i≠aa:=fun i hi=>by
    rcases hi.1 with hi | hi
    ·exact HP.out.hF i hi.1
    ·omega
   have DD:∀ i,i<w.heap.size->sv.ownBlock≠some i:=fun i hi e=>by have:=HI.out.fr i e;omega
   have Iv:∀ i,sv.ownBlock=some i->i<wr.heap.size:=fun i e=>HI.out.own.lt e
   have lowB:∀ {dv:DV} {v:Value},Rep F w dv v->Rep (fun i=>((F i/\i<w.heap.size)\/w.heap.size+2<=i)/\sv.ownBlock≠some i) w8 dv v:=fun h=>(Rep.low h).but iI (fun b hb=>⟨HP.out.hF b hb.1,.inl hb,DD b hb.2⟩)
   have IQ:Rep (fun i=>((F i/\i<w.heap.size)\/w.heap.size+2<=i)/\sv.ownBlock≠some i) w8 (.sl 156 4 (env++opens n a.args).length (qz (env++opens n a.args))) (.slice a8 (env.length+a.args.length) c8):=by
    rw [List.length_append,kL,vg]
    refine EF.rep (fun g hg=>⟨.inr (by have:=rz g hg;omega),fun e=>by have:=rz g hg;have:=Iv g e;omega⟩) (zX.append ?_ ?_)
    ·exact (zX.low HA.out.2.2.1).but iI (fun b hb=>⟨HP.out.hF b hb.1,.inl hb,DD b hb.2⟩)
    ·refine (Rep.keep fun b o hf hh=>⟨⟨.inl hf,DD b hf.2⟩,?_⟩).2 _ _ H7.out.2.2.1
     rw [ft.block b (zZ hh) (fun e=>by have:=H6.out.2.2 b e;have:=hf.2;omega)];exact hh
   have fF:wC (fun i=>((F i/\i<w.heap.size)\/w.heap.size+2<=i)/\sv.ownBlock≠some i) aa lk d (n+a.args.length) (H++a.args) s (env++opens n a.args) [] (.pointer (some ⟨ub,0,none⟩)) (.slice a8 (env.length+a.args.length) c8) .nilFunc w8 :=
    { glob:=HP.out.glob.but iI (fun e=>HP.out.ng e.symm),hF:=Ke,ng:=HP.out.ng,apl:=HI.out.apl.below DY,ld:=fQ HI.out.lkl HP.out.ld,d20:=HP.out.d20,
      fit:=by have:=HP.out.sub k a s HK.out.2.2.1 HK.out.1;rwa [HP.out.hn] at this,hn:=by rw [List.length_append,HP.out.hn],el:=by rw [List.length_append,kL];omega,nl:=by omega,
      ok:=jD _ _ (k9 (by omega) _ HP.out.ok) (jU _ _ (zo lq).1 (by omega)),okg:=trivial,rb:=lowB HK.out.2.1,re:=IQ,ro:=rfl }
   have C9:=IH.out _ aa lk (n+a.args.length) (H++a.args) s (env++opens n a.args) [] (.pointer (some ⟨ub,0,none⟩)) (.slice a8 (env.length+a.args.length) c8) .nilFunc w8 fF
   rw [Int.natCast_add] at C9
   have mI:=evSubs_take (f:=Go.Proofs.YtjggkhmojjaomaaGreatDoor.ev d) (env:=env) (n:=n) (l:=l) HK.out.2.2.1 HK.out.1
   rw [HI.out.evk] at mI
   simp only [Option.bind_some] at mI
   generalize nA:Go.Proofs.YtjggkhmojjaomaaGreatDoor.ev d lk s (env++opens n a.args) (n+a.args.length) []=oev at *
   have C9':=ed C9
   have H8:=ed (ef DY (ef iI (ef mI nA)));clear C9 fF IQ Ke DY rz iI ft Jt EF mI nA lowB DD Iv
   go_wp2_with fail
   (with_reducible refine C9'.out.mono ?_)
   rintro en w9 ⟨mB,oX,lm⟩
   cases oev with
   | none =>
     obtain ⟨Ko,rfl,Cb⟩:=oX rfl
     have tZ:xK d l n o t ss y no env st=none:=by
      have:=H8.out.2.2.1
      simp only [Option.bind_none] at this
      unfold xK
      rw [dJ (k+1) _ _ _ this];rfl
     have B8:w.cell? ⟨0,0,none⟩=some (.iface 212 (.pointer (some Ko))):=by
      obtain ⟨a0,h0⟩:=HP.out.glob
      have:=(H8.out.2.1.cell (e9 w _ h0) (fun e=>HP.out.ng e.symm)).trans h0
      rw [this] at Cb
      rw [h0];exact Cb
     have HF:=ed (ef tZ (ef (H8.out.2.1.trans mB) B8));clear tZ B8 mB oX lm Cb
     go_wp2_with fail
     go_ret2
     exact kC.none HF.out.1 HF.out.2.1 HF.out.2.2
   | some x =>
     obtain ⟨v,rfl,ha9,oZ⟩:=lm x.1 x.2 rfl
     obtain ⟨vb,rfl⟩:=zi oZ
     obtain ⟨lT,lS,e⟩:=HI.out.own.slice
     subst e
     have hz8:=H8.out.1.size
     have hz9:=mB.size
     have Gx:w9.heap[w.heap.size+1]? = some (.cells #[str [],.int .i64 (o:Nat),.slice lT k lS,.pointer none,.pointer none] 68 (0,0)):=by
      rw [mB.block _ (by omega) (by omega),H8.out.1.block _ (by omega)];exact HI.out.blk
     have Kt:w9.heap[w.heap.size]? = some (.cells #[.int .i64 (o:Nat),.pointer (some ⟨kb,0,none⟩),.pointer none,.slice none 0 0] 156 (0,0)):=by
      rw [mB.block _ (by omega) (by omega),H8.out.1.block _ (by omega)];exact HI.out.box
     have Ia:Own w9 34 1 (.slice lT k lS) k us:=HI.out.own.keep fun g o hg hh=>by
      have h1:=HI.out.fr g hg
      have h2:=zZ hh
      rw [mB.block g (by omega) (by omega),H8.out.1.block g h2];exact hh
     have hll:=ev_left _ _ _ _ _ _ _ _ (H8.out.2.2.2)
     have DL:=HI.out.lkl
     obtain ⟨y0,y1,y2,y3,y4,yf⟩:=wJ Gx
     have H9:=ed (ef mB (ef ha9 (ef oZ (ef Gx (ef Kt Ia)))));clear mB oX lm ha9 oZ Gx Kt Ia y0 y1 y3 y4 yf
     go_wp2_with (at_builtin;refine zD rfl _ _ 66 rfl 34 (.pointer none) 1 8 Tryz.underlying66 Tryz.infoB rfl (by decide) (.slice lT k lS) k us rfl ?f1 _ 1 [.pointer (some ⟨vb,0,none⟩)] rfl ?f2 ?f3 ?f4 ?_)
     case f1=>exact H9.out.2.2.2.2.2.alloc _
     case f2=>exact zO.lit1 #[.pointer (some ⟨vb,0,none⟩)] rfl (by simp [Value.oneCell']) _ (by simp)
     case f3=>unfold maxLen;omega
     case f4=>omega
     intro Dv D_ aI I4 sC Jz
     have hz10:=sC.size
     rw [zK] at hz10
     have ip:∀ i,(Value.slice lT k lS).ownBlock=some i->w.heap.size+2<=i/\i<wr.heap.size:=fun i e=>⟨HI.out.fr i e,HI.out.own.lt e⟩
     have Cw:aI.heap[w.heap.size+1]? = some (.cells #[str [],.int .i64 (o:Nat),.slice lT k lS,.pointer none,.pointer none] 68 (0,0)):=by
      rw [sC.block _ (by rw [zK];omega) (fun e=>by have:=ip _ e;omega),Below.heap_alloc _ _ _ (by omega)];exact H9.out.2.2.2.1
     obtain ⟨y0,y1,y2,y3,y4,yf⟩:=wJ Cw
     have yf2:=yf 2
     have Ax:∀ (g:Nat) (ob:Obj),g≠w.heap.size+1->aI.heap[g]? = some ob->(aI.setCell ⟨w.heap.size+1,2,none⟩ (.slice Dv (k+1) D_)).heap[g]? = some ob:=fun g ob hg hh=>by
      rw [fZ _ _ _ _ (by show g≠w.heap.size+1;exact hg)];exact hh
     have past:∀ (g:Nat) (ob:Obj),(Value.slice lT k lS).ownBlock≠some g->w9.heap[g]? = some ob->aI.heap[g]? = some ob:=fun g ob hg hh=>by
      rw [sC.block g (by rw [zK];have:=zZ hh;omega) hg,Below.heap_alloc _ _ _ (zZ hh)];exact hh
     have fH:KInv F aa l n d o env t.args ss (.pointer (some ⟨kb,0,none⟩)) w (k+1) x.2 (outs++[x.1]) (.slice Dv (k+1) D_) (us++[.pointer (some ⟨vb,0,none⟩)]) (aI.setCell ⟨w.heap.size+1,2,none⟩ (.slice Dv (k+1) D_)):=by
      have Ag:∀ g,(Value.slice Dv (k+1) D_).ownBlock=some g->(Value.slice lT k lS).ownBlock=some g\/w9.heap.size<g:=fun g hg=>by
       rcases Jz g hg with h | h
       ·exact .inl h
       ·exact .inr (by omega)
      refine { evk:=H8.out.2.2.1,ol:=by rw [List.length_append,HI.out.ol];rfl,but:=?_,zw:=by simp [World.setCell];omega,apl:=?_,lkl:=by omega,box:=?_,blk:=?_,own:=?_,rep:=?_,fr:=fun g hg=>?_ }
      ·have h1:But (· = aa) w aI:=((H8.out.2.1.trans H9.out.1).alloc _).trans' sC fun i hi e=>by have:=ip i e;omega
       exact h1.setCell (p:=⟨w.heap.size+1,2,none⟩) (.inr (by show w.heap.size<=w.heap.size+1;omega)) _
      ·exact Ax _ _ (by omega) (past _ _ (fun e=>by have:=ip _ e;omega) H9.out.2.1)
      ·exact Ax _ _ (by omega) (past _ _ (fun e=>by have:=ip _ e;omega) H9.out.2.2.2.2.1)
      ·rw [zy Cw];rfl
      ·exact I4.keep fun g ob hg hh=>Ax _ _ (by
        rcases Ag g hg with h | h
        ·have:=ip g h;omega
        ·omega) hh
      ·rw [wK]
       refine zX.append ?_ (zX.one ?_)
       ·refine (Rep.keep fun b ob hf hh=>?_).2 _ _ HI.out.rep
        have hb:=zZ hh
        have hne:b≠aa/\b≠w.heap.size+1:=by
         rcases hf.1 with h | h
         ·exact ⟨HP.out.hF b h.1,by omega⟩
         ·omega
        refine ⟨⟨hf.1,fun e=>?_⟩,Ax _ _ hne.2 (past _ _ hf.2 ?_)⟩
        ·rcases Ag b e with h | h
         ·exact hf.2 h
         ·omega
        ·rw [H9.out.1.block b (by omega) hne.1,H8.out.1.block b hb];exact hh
       ·refine (Rep.keep fun b ob hf hh=>?_).1 _ _ H9.out.2.2.1
        have hf:(((F b/\b<w.heap.size)\/w.heap.size+2<=b)/\(Value.slice lT k lS).ownBlock≠some b)\/w8.heap.size<=b:=hf
        have hb:=zZ hh
        have Iw:(Value.slice lT k lS).ownBlock≠some b:=by
         rcases hf with h | h
         ·exact h.2
         ·intro e;have:=ip b e;omega
        have ir:((F b/\b<w.heap.size)\/w.heap.size+2<=b):=by
         rcases hf with h | h
         ·exact h.1
         ·exact .inr (by omega)
        refine ⟨⟨ir,fun e=>?_⟩,Ax _ _ (by rcases ir with h | h <;> omega) (past _ _ Iw hh)⟩
        rcases Ag b e with h | h
        ·exact Iw h
        ·omega
      ·rcases Ag g hg with h | h
       ·exact (ip g h).1
       ·omega
     have HN:=ed fH;clear fH Ax past Cw y0 y1 y3 y4 yf I4 sC Jz ip
     go_wp2_with fail
     go_roundw
     case rel=>exact ⟨k+1,x.2,outs++[x.1],.slice Dv (k+1) D_,us++[.pointer (some ⟨vb,0,none⟩)],by omega,by go_num,HN.out⟩
     case measure=>simp [intOf];omega
  ·obtain rfl:k=ss.length:=by omega
   have mW:=HI.out.evk
   rw [List.take_length,List.take_of_length_le (by have:=J_.out;omega)] at mW
   have AFT:Hid (∀ (X:World) (l':Nat),But (· = aa) w X->Apl X aa l'->l'<=l ->
    Calls Tryz.prog 120 #[.bool true,.pointer (some ⟨b1,0,none⟩),.pointer (some ⟨b2,0,none⟩),.pointer (some ⟨b3,0,none⟩),.pointer (some ⟨b4,0,none⟩),.pointer (some ⟨b5,0,none⟩)] X (kC (fun i=>F i/\i<w.heap.size) aa (Go.Proofs.YtjggkhmojjaomaaGreatDoor.ev d l' y env n st) X) /\
    Calls Tryz.prog 120 #[.bool false,.pointer (some ⟨b1,0,none⟩),.pointer (some ⟨b2,0,none⟩),.pointer (some ⟨b3,0,none⟩),.pointer (some ⟨b4,0,none⟩),.pointer (some ⟨b5,0,none⟩)] X (kC (fun i=>F i/\i<w.heap.size) aa (Go.Proofs.YtjggkhmojjaomaaGreatDoor.ev d l' no env n st) X)):=by
    show ∀ (X:World) (l':Nat),_->_
    intro X l' tI haX hlX
    obtain ⟨⟨n1,n2,n3,n4,n5⟩,c1,r1,c2,c3,r3,c4,c5,r5⟩:=HC.out
    have kX:∀ {b:Nat} {x:Value},F b->w.cell? ⟨b,0,none⟩=some x->X.cell? ⟨b,0,none⟩=some x:=fun hb hc=>(tI.cell (e9 w _ hc) (HP.out.hF _ hb)).trans hc
    have rL:∀ b,(F b/\b<w.heap.size)->¬ (b=aa)/\(F b/\b<w.heap.size):=fun b hb=>⟨HP.out.hF b hb.1,hb⟩
    have key:=fun c hf=>after_any d IH.out (fun i=>F i/\i<w.heap.size) aa l' n H ⟨y,no,env⟩ st b1 b2 b3 b4 b5 bp ev5 on5 vv5 ss5 X c (HP.out.glob.but tI (fun e=>HP.out.ng e.symm)) (fun i hi=>HP.out.hF i hi.1) HP.out.ng haX (by have:=HP.out.ld;omega) HP.out.d20
     hf HP.out.hn (by show env.length+_<=_;omega) (by omega) (k9 (by omega) _ HP.out.ok) (vG (by omega) _ HP.out.okg)
     (kX n1 c1) ((Rep.low r1).but tI rL) (kX n2 c2) (kX n3 c3) ((Rep.low r3).but tI rL) (kX n4 c4) (kX n5 c5) (uQ.but tI rL _ _ (uQ.low _ _ r5))
    exact ⟨key 116 HP.out.fy,key 102 HP.out.fn⟩
   have DL:=HI.out.lkl
   have C1:=ed (AFT.out wr lk HI.out.but HI.out.apl DL).1
   have lh:=HI.out.zw
   obtain ⟨lT,lS,e⟩:=HI.out.own.slice
   subst e
   have HFU:=ed mW;clear mW
   generalize JH:Go.Proofs.YtjggkhmojjaomaaGreatDoor.ev d lk y env n st=o1 at *
   have HE1:=ed JH;clear JH
   go_wp2_with fail
   (with_reducible refine C1.out.mono ?_)
   rintro en w1 ⟨fP,mZ,fo⟩
   clear C1
   cases o1 with
   | none =>
     obtain ⟨Ko,rfl,Cb⟩:=mZ rfl
     have tZ:xK d l n o t ss y no env st=none:=by
      unfold xK
      rw [HFU.out];simp only [Option.bind_some];rw [HE1.out];rfl
     have B8:w.cell? ⟨0,0,none⟩=some (.iface 212 (.pointer (some Ko))):=by
      obtain ⟨a0,h0⟩:=HP.out.glob
      have:=(HI.out.but.cell (e9 w _ h0) (fun e=>HP.out.ng e.symm)).trans h0
      rw [this] at Cb
      rw [h0];exact Cb
     have aO:=fP.size
     have AQ:w1.heap[w.heap.size+1]? = some (.cells #[str [],.int .i64 (o:Nat),.slice lT ss.length lS,.pointer none,.pointer none] 68 (0,0)):=by
      rw [fP.block _ (by omega) (by omega)];exact HI.out.blk
     obtain ⟨_,_,_,y3,_,yf⟩:=wJ AQ
     have yf3:=yf 3;clear yf
     have aT:But (· = aa) w (w1.setCell ⟨w.heap.size+1,3,none⟩ (.pointer none)):=(HI.out.but.trans fP).setCell (p:=⟨w.heap.size+1,3,none⟩) (.inr (by show w.heap.size<=w.heap.size+1;omega)) _
     have HF:=ed (ef tZ (ef aT B8));clear tZ B8 fP mZ fo Cb aT AQ
     go_wp2_with fail
     go_ret2
     exact kC.none HF.out.1 HF.out.2.1 HF.out.2.2
   | some z =>
     obtain ⟨v1,rfl,A7,mu⟩:=fo z.1 z.2 rfl
     obtain ⟨zb,rfl⟩:=zi mu
     have hl1:=ev_left _ _ _ _ _ _ _ _ HE1.out
     have aO:=fP.size
     have AQ:w1.heap[w.heap.size+1]? = some (.cells #[str [],.int .i64 (o:Nat),.slice lT ss.length lS,.pointer none,.pointer none] 68 (0,0)):=by
      rw [fP.block _ (by omega) (by omega)];exact HI.out.blk
     obtain ⟨_,_,_,y3,_,yf⟩:=wJ AQ
     have yf3:=yf 3;clear yf
     obtain ⟨W2,fb⟩:=zzN (w1.setCell ⟨w.heap.size+1,3,none⟩ (.pointer (some ⟨zb,0,none⟩)))
     have fY:But (· = aa) w W2:=by rw [<- fb];exact (HI.out.but.trans fP).setCell (p:=⟨w.heap.size+1,3,none⟩) (.inr (by show w.heap.size<=w.heap.size+1;omega)) _
     have i6:∀ (g:Nat) (ob:Obj),g≠w.heap.size+1->w1.heap[g]? = some ob->W2.heap[g]? = some ob:=fun g ob hg hh=>by
      rw [<- fb,fZ _ _ _ _ (by show g≠w.heap.size+1;exact hg)];exact hh
     have Ku:W2.heap[w.heap.size+1]? = some (.cells #[str [],.int .i64 (o:Nat),.slice lT ss.length lS,.pointer (some ⟨zb,0,none⟩),.pointer none] 68 (0,0)):=by
      rw [<- fb,zy AQ];rfl
     have tz:Apl W2 aa z.2:=i6 _ _ (by omega) A7
     have C2:=ed (AFT.out W2 z.2 fY tz (by omega)).2
     have nJ:W2.heap.size=w1.heap.size:=by rw [<- fb];simp [World.setCell]
     have aL:=ed nJ;clear nJ
     have mt:Rep (fun i=>(F i/\i<w.heap.size)\/wr.heap.size<=i) W2 (qZ z.1) (.pointer (some ⟨zb,0,none⟩)):=(Rep.keep fun b ob hf hh=>⟨hf,i6 _ _ (by rcases hf with h | h <;> omega) hh⟩).1 _ _ mu
     have Ib:Own W2 34 1 (.slice lT ss.length lS) ss.length us:=HI.out.own.keep fun g ob hg hh=>by
      have h1:=HI.out.fr g hg
      exact i6 _ _ (by omega) (by rw [fP.block g (zZ hh) (by omega)];exact hh)
     have Hx:zX (fun i=>((F i/\i<w.heap.size)\/w.heap.size+2<=i)/\i≠aa) W2 (q_ outs) us:=(Rep.keep fun b ob hf hh=>by
      have hne:b≠aa/\b≠w.heap.size+1:=by
       rcases hf.1 with h | h
       ·exact ⟨HP.out.hF b h.1,by omega⟩
       ·omega
      exact ⟨⟨hf.1,hne.1⟩,i6 _ _ hne.2 (by rw [fP.block b (zZ hh) hne.1];exact hh)⟩).2 _ _ HI.out.rep
     generalize JG:Go.Proofs.YtjggkhmojjaomaaGreatDoor.ev d z.2 no env n st=o2 at *
     have H2:=ed (ef fY (ef Ku (ef mt (ef Ib (ef Hx (ef JG fb))))));clear fY Ku mt Ib Hx JG fb i6 fP mZ fo A7 mu AQ tz
     go_wp2_with fail
     rw [H2.out.2.2.2.2.2.2]
     (with_reducible refine C2.out.mono ?_)
     rintro en w3 ⟨fE,Ac,i7⟩
     clear C2
     have sX:=fE.size
     have GP:=aL.out
     have Ea:w3.heap[w.heap.size+1]? = some (.cells #[str [],.int .i64 (o:Nat),.slice lT ss.length lS,.pointer (some ⟨zb,0,none⟩),.pointer none] 68 (0,0)):=by
      rw [fE.block _ (by omega) (by omega)];exact H2.out.2.1
     clear GP
     obtain ⟨_,_,_,_,y4,yf⟩:=wJ Ea
     have yf4:=yf 4;clear yf
     cases o2 with
     | none =>
       obtain ⟨Ko,rfl,Cb⟩:=Ac rfl
       have tZ:xK d l n o t ss y no env st=none:=by
        unfold xK
        rw [HFU.out];simp only [Option.bind_some];rw [HE1.out];simp only [Option.bind_some];rw [H2.out.2.2.2.2.2.1];rfl
       have B8:w.cell? ⟨0,0,none⟩=some (.iface 212 (.pointer (some Ko))):=by
        obtain ⟨a0,h0⟩:=HP.out.glob
        have:=(H2.out.1.cell (e9 w _ h0) (fun e=>HP.out.ng e.symm)).trans h0
        rw [this] at Cb
        rw [h0];exact Cb
       have aT:But (· = aa) w (w3.setCell ⟨w.heap.size+1,4,none⟩ (.pointer none)):=(H2.out.1.trans fE).setCell (p:=⟨w.heap.size+1,4,none⟩) (.inr (by show w.heap.size<=w.heap.size+1;omega)) _
       have HF:=ed (ef tZ (ef aT B8));clear tZ B8 fE Ac i7 Cb aT Ea
       go_wp2_with fail
       go_ret2
       exact kC.none HF.out.1 HF.out.2.1 HF.out.2.2
     | some q =>
       obtain ⟨v3,rfl,J6,tG⟩:=i7 q.1 q.2 rfl
       obtain ⟨qb,rfl⟩:=zi tG
       have Ex:xK d l n o t ss y no env st=some (.ask o outs z.1 q.1,q.2):=by
        unfold xK
        rw [HFU.out];simp only [Option.bind_some];rw [HE1.out];simp only [Option.bind_some];rw [H2.out.2.2.2.2.2.1];rfl
       have aT:But (· = aa) w (w3.setCell ⟨w.heap.size+1,4,none⟩ (.pointer (some ⟨qb,0,none⟩))):=(H2.out.1.trans fE).setCell (p:=⟨w.heap.size+1,4,none⟩) (.inr (by show w.heap.size<=w.heap.size+1;omega)) _
       have pastF:∀ (g:Nat) (ob:Obj),g≠w.heap.size+1->w3.heap[g]? = some ob->(w3.setCell ⟨w.heap.size+1,4,none⟩ (.pointer (some ⟨qb,0,none⟩))).heap[g]? = some ob:=fun g ob hg hh=>by
        rw [fZ _ _ _ _ (by show g≠w.heap.size+1;exact hg)];exact hh
       have blkF:(w3.setCell ⟨w.heap.size+1,4,none⟩ (.pointer (some ⟨qb,0,none⟩))).heap[w.heap.size+1]? = some (.cells #[str [],.int .i64 (o:Nat),.slice lT ss.length lS,.pointer (some ⟨zb,0,none⟩),.pointer (some ⟨qb,0,none⟩)] 68 (0,0)):=by
        rw [zy Ea];rfl
       have haF:Apl (w3.setCell ⟨w.heap.size+1,4,none⟩ (.pointer (some ⟨qb,0,none⟩))) aa q.2:=pastF _ _ (by omega) J6
       have GP:=aL.out
       have stay:∀ (b:Nat) (ob:Obj),b≠aa->b≠w.heap.size+1->W2.heap[b]? = some ob->(w3.setCell ⟨w.heap.size+1,4,none⟩ (.pointer (some ⟨qb,0,none⟩))).heap[b]? = some ob:=fun b ob h1 h2 hh =>
        pastF _ _ h2 (by rw [fE.block b (zZ hh) h1];exact hh)
       have BM:Rep (fun i=>F i\/w.heap.size<=i) (w3.setCell ⟨w.heap.size+1,4,none⟩ (.pointer (some ⟨qb,0,none⟩))) (qZ (.ask o outs z.1 q.1)) (.pointer (some ⟨w.heap.size+1,0,none⟩)):=by
        rw [qZ,ju]
        refine ⟨_,_,rfl,.inr (by omega),blkF,?_⟩
        simp only [zQ,zC,zH]
        have aM:=HI.out.ol
        refine ⟨_,_,rfl,rfl,_,_,rfl,rfl,_,_,rfl,?_,_,_,rfl,?_,_,_,rfl,?_,rfl⟩
        ·rw [aM]
         refine Own.rep (xs:=us) (H2.out.2.2.2.1.keep fun g ob hg hh=>stay _ _ (by have:=HI.out.fr g hg;omega) (by have:=HI.out.fr g hg;omega) hh) (fun g hg=>.inr (by have:=HI.out.fr g hg;omega)) ?_
         refine (Rep.keep fun b ob hf hh=>⟨?_,stay _ _ hf.2 (by rcases hf.1 with h | h <;> omega) hh⟩).2 _ _ H2.out.2.2.2.2.1
         rcases hf.1 with h | h
         ·exact .inl h.1
         ·exact .inr (by omega)
        ·refine (Rep.keep fun b ob hf hh=>⟨?_,stay _ _ ?_ (by rcases hf with h | h <;> omega) hh⟩).1 _ _ H2.out.2.2.1
         ·rcases hf with h | h
          ·exact .inl h.1
          ·exact .inr (by omega)
         ·rcases hf with h | h
          ·exact HP.out.hF b h.1
          ·omega
        ·refine (Rep.keep fun b ob hf hh=>⟨?_,pastF _ _ ?_ hh⟩).1 _ _ tG
         ·rcases hf with h | h
          ·exact .inl h.1
          ·exact .inr (by omega)
         ·rcases hf with h | h <;> omega
       have HF:=ed (ef Ex (ef aT (ef haF BM)));clear Ex aT haF BM stay blkF pastF fE Ac i7 J6 tG Ea GP
       go_wp2_with fail
       go_ret2
       exact kC.some HF.out.1 HF.out.2.1 HF.out.2.2.1 HF.out.2.2.2
end Go.Proofs.YtjggkhmojjaomaaGreatDoor
namespace Go.Proofs.YtjggkhmojjaomaaGreatDoor
open Go.RowKit
theorem ev_zero (d:Nat) (b:Bd) (env:List Mn) (n:Nat) (st:List Gf):Go.Proofs.YtjggkhmojjaomaaGreatDoor.ev d 0 b env n st=none:=by
 cases d with
 | zero=>rw [ev.eq_def]
 | succ d=>rw [ev.eq_def]
theorem owns_take {env:List Mn}:∀ (ts:List Ty) (ss:List Bd) (k:Nat) (t:Ty) (s:Bd),ts[k]? = some t->ss[k]? = some s->owns env (ts.take (k+1)) (ss.take (k+1))=owns env (ts.take k) (ss.take k)++[.bd t s env]
 | [],ss,k,t,s,h,_=>by simp at h
 | t'::ts,[],k,t,s,_,h=>by simp at h
 | t'::ts,s'::ss,k,t,s,h1,h2=>by
   cases k with
   | zero =>
     simp at h1 h2;subst h1;subst h2
     simp only [List.take_succ_cons,List.take_zero,owns]
     rfl
   | succ k =>
     simp only [List.getElem?_cons_succ] at h1 h2
     rw [List.take_succ_cons,List.take_succ_cons,List.take_succ_cons,List.take_succ_cons,owns,owns,owns_take ts ss k t s h1 h2];rfl
theorem uQ.form {F:Nat->Prop} {w:World} {aa n:Nat}:∀ {st:List Gf} {on:Value},uQ F w aa n st on->on=.nilFunc\/∃ cs,on=.func (.func 120) #[] cs
 | [],on,h=>.inl h
 | f::st,on,h=>by
   obtain ⟨b1,b2,b3,b4,b5,bp,ev,o5,vv,ss,e,_⟩:=h
   exact .inr ⟨_,e⟩
theorem Tryz.goesNil (w:World):Sem.run Tryz.prog (binOp .eql 192 .nilFunc .nilFunc) w=.ok (.bool true) w:=by kernel_rfl
theorem Tryz.goesFn (f:Fn) (a b:Array Value) (w:World):Sem.run Tryz.prog (binOp .eql 192 (.func f a b) .nilFunc) w=.ok (.bool false) w:=by kernel_rfl
theorem boxes5 (w:World) (p b e l o:Value) (T1 T2 T3 T4 T5:TypeId):∃ W,((((w.alloc (.cells #[p] T1)).alloc (.cells #[b] T2)).alloc (.cells #[e] T3)).alloc (.cells #[l] T4)).alloc (.cells #[o] T5)=W/\Below w.heap.size w W/\w.heap.size+5<=W.heap.size /\
 W.cell? ⟨w.heap.size,0,none⟩=some p/\W.cell? ⟨w.heap.size+1,0,none⟩=some b/\W.cell? ⟨w.heap.size+1+1,0,none⟩=some e/\W.cell? ⟨w.heap.size+1+1+1,0,none⟩=some l/\W.cell? ⟨w.heap.size+1+1+1+1,0,none⟩=some o:=by
 have key:∀ (w:World) (v:Value) (T:TypeId),(w.alloc (.cells #[v] T)).cell? ⟨w.heap.size,0,none⟩=some v:=fun w v T=>by simp
 have k1:=key w p T1
 have k2:=key (w.alloc (.cells #[p] T1)) b T2
 have k3:=key ((w.alloc (.cells #[p] T1)).alloc (.cells #[b] T2)) e T3
 have k4:=key (((w.alloc (.cells #[p] T1)).alloc (.cells #[b] T2)).alloc (.cells #[e] T3)) l T4
 have k5:=key ((((w.alloc (.cells #[p] T1)).alloc (.cells #[b] T2)).alloc (.cells #[e] T3)).alloc (.cells #[l] T4)) o T5
 simp only [zK] at k2 k3 k4 k5
 refine ⟨_,rfl,?_,by simp only [zK];omega,zJ (zJ (zJ (zJ k1))),zJ (zJ (zJ k2)),zJ (zJ k3),zJ k4,k5⟩
 exact (((((e_ w.heap.size w).alloc (ei _) _).alloc (by simp only [zK];omega) _).alloc (by simp only [zK];omega) _).alloc (by simp only [zK];omega) _).alloc (by simp only [zK];omega) _
set_option maxRecDepth 100000 in
theorem eval_out (F:Nat->Prop) (aa d n bb:Nat) (ea:Option Addr) (el ec:Nat) (b:Bd) (env:List Mn) (st:List Gf) (on:Value) (w:World) (lQ:on=.nilFunc\/∃ cs,on=.func (.func 120) #[] cs) (hg:uh w) (hng:aa≠0) (ha:Apl w aa 0) :
 Calls Tryz.prog 108 #[.pointer (some ⟨aa,0,none⟩),.pointer (some ⟨bb,0,none⟩),.slice ea el ec,.int .i64 (n:Nat),on] w (kC F aa (Go.Proofs.YtjggkhmojjaomaaGreatDoor.ev d 0 b env n st) w):=by
 rw [ev_zero]
 obtain ⟨W,hW,fD,rS,q1,q2,q3,q4,q5⟩:=boxes5 w (.pointer (some ⟨aa,0,none⟩)) (.pointer (some ⟨bb,0,none⟩)) (.slice ea el ec) (.int .i64 (n:Nat)) on 176 34 153 3 192
 obtain ⟨c0,f0,lt0⟩:=(ha.below fD).cell
 have c0':W.cell? ⟨aa,0,none⟩=some (.int .i64 0):=c0
 obtain ⟨a0,rq⟩:=hg
 have rZ:=(fD.cell (e9 w _ rq)).trans rq
 have HG:=ed (ef rq (ef hW fD))
 clear ha c0 rq hW fD
 rcases lQ with rfl | ⟨cs,rfl⟩
 all_goals
  go_enter Tryz.func108,Tryz.ntmps108
  go_upto_region 1 with (fail)
  rw [HG.out.2.1]
  go_wp2_with fail
  go_quiet (fail)
  go_wp2_with fail
  go_ret2
  refine kC.none rfl ?_ HG.out.1
  exact But.ofBelow (jt HG.out.2.2 _)
theorem wY {w:World} {aa l n bb:Nat} {ea:Option Addr} {el ec:Nat} {on:Value} {T1 T2 T3 T4 T5:TypeId} (ha:Apl w aa (l+1)) :
 ∃ W W2,((((w.alloc (.cells #[.pointer (some ⟨aa,0,none⟩)] T1)).alloc (.cells #[.pointer (some ⟨bb,0,none⟩)] T2)).alloc (.cells #[.slice ea el ec] T3)).alloc (.cells #[.int .i64 (n:Nat)] T4)).alloc (.cells #[on] T5)=W/\W.setCell ⟨aa,0,none⟩ (.int .i64 (l:Nat))=W2 /\
   W.cell? ⟨w.heap.size,0,none⟩=some (.pointer (some ⟨aa,0,none⟩))/\W.cell? ⟨aa,0,none⟩=some (.int .i64 ((l+1:Nat):Int))/\W.frozen? ⟨aa,0,none⟩=false /\
   But (· = aa) w W2/\Apl W2 aa l/\w.heap.size+5<=W2.heap.size /\
   W2.cell? ⟨w.heap.size,0,none⟩=some (.pointer (some ⟨aa,0,none⟩))/\W2.cell? ⟨w.heap.size+1,0,none⟩=some (.pointer (some ⟨bb,0,none⟩))/\W2.cell? ⟨w.heap.size+1+1,0,none⟩=some (.slice ea el ec)/\W2.cell? ⟨w.heap.size+1+1+1,0,none⟩=some (.int .i64 (n:Nat))/\W2.cell? ⟨w.heap.size+1+1+1+1,0,none⟩=some on:=by
 obtain ⟨W,hW,fD,rS,q1,q2,q3,q4,q5⟩:=boxes5 w (.pointer (some ⟨aa,0,none⟩)) (.pointer (some ⟨bb,0,none⟩)) (.slice ea el ec) (.int .i64 (n:Nat)) on T1 T2 T3 T4 T5
 have haW:=ha.below fD
 obtain ⟨c0,f0,lt0⟩:=haW.cell
 have fG:=ha.cell.2.2
 have fY:But (· = aa) W (W.setCell ⟨aa,0,none⟩ (.int .i64 (l:Nat))):=(But.refl (· = aa) W).setCell (p:=⟨aa,0,none⟩) (.inl rfl) _
 have past:∀ (b:Nat) (v:Value),w.heap.size<=b->W.cell? ⟨b,0,none⟩=some v->(W.setCell ⟨aa,0,none⟩ (.int .i64 (l:Nat))).cell? ⟨b,0,none⟩=some v:=fun b v hb hc=>(fY.cell (e9 W _ hc) (fun e=>by have e:b=aa:=e;omega)).trans hc
 refine ⟨W,_,hW,rfl,q1,c0,f0,(But.ofBelow fD).trans fY,?_,by simpa [World.setCell] using rS,past _ _ (by omega) q1,past _ _ (by omega) q2,past _ _ (by omega) q3,past _ _ (by omega) q4,past _ _ (by omega) q5⟩
 unfold Apl at *
 rw [zy haW];rfl
set_option maxRecDepth 100000 in
theorem eval_end (F:Nat->Prop) (aa d l n bb:Nat) (ea:Option Addr) (el ec:Nat) (c:UInt8) (env:List Mn) (st:List Gf) (on:Value) (w:World) (hF:∀ i,F i->i≠aa) (ha:Apl w aa (l+1)) (hl:l<=20000) (rb:Rep F w (qZ (.leaf c)) (.pointer (some ⟨bb,0,none⟩)))
 (h:(c=117/\(on=.nilFunc\/∃ cs,on=.func (.func 120) #[] cs))\/(c≠117/\on=.nilFunc/\st=[])) :
 Calls Tryz.prog 108 #[.pointer (some ⟨aa,0,none⟩),.pointer (some ⟨bb,0,none⟩),.slice ea el ec,.int .i64 (n:Nat),on] w (kC F aa (Go.Proofs.YtjggkhmojjaomaaGreatDoor.ev (d+1) (l+1) (.leaf c) env n st) w):=by
 have nA:Go.Proofs.YtjggkhmojjaomaaGreatDoor.ev (d+1) (l+1) (.leaf c) env n st=some (.leaf c,l):=by
  rcases h with ⟨rfl,_⟩ | ⟨hc,_,rfl⟩
  ·rw [ev_u]
  ·rw [ev_end]
 rw [nA]
 clear nA
 obtain ⟨W,W2,hW,fb,q0,q1,f1,fY,tz,nJ,p0,p1,p2,p3,p4⟩:=wY (n:=n) (bb:=bb) (ea:=ea) (el:=el) (ec:=ec) (on:=on) (T1:=176) (T2:=34) (T3:=153) (T4:=3) (T5:=192) ha
 have aD:Rep F W2 (qZ (.leaf c)) (.pointer (some ⟨bb,0,none⟩)):=rb.but fY (fun b hb=>⟨hF b hb,hb⟩)
 obtain ⟨b',sl,e,_,fJ,_⟩:=xd aD
 cases e
 have r0:W2.cell? ⟨bb,0,none⟩=some (str [c]):=by simp [World.cell?,fJ]
 have q1':W.cell? ⟨aa,0,none⟩=some (.int .i64 ((l:Int)+1)):=q1
 have DK:((l:Int)+1 == 0)=false:=by rw [beq_eq_false_iff_ne];omega
 have HW:=ed (ef hW (ef fb (ef fY (ef tz aD))))
 have CL:=ed (yE F W2 c (.pointer (some ⟨bb,0,none⟩)) aD)
 clear hW fb fY tz aD rb ha q1 fJ
 rcases h with ⟨rfl,rfl | ⟨cs,rfl⟩⟩ | ⟨hc,rfl,rfl⟩
 ·go_enter Tryz.func108,Tryz.ntmps108
  go_upto_region 1 with (fail)
  rw [HW.out.1]
  go_upto_region 4 with (fail)
  rw [HW.out.2.1]
  go_wp2_with fail
  go_ret2
  exact kC.some rfl HW.out.2.2.1 HW.out.2.2.2.1 (HW.out.2.2.2.2.weak fun i h=>.inl h)
 ·go_enter Tryz.func108,Tryz.ntmps108
  go_upto_region 1 with (fail)
  rw [HW.out.1]
  go_upto_region 4 with (fail)
  rw [HW.out.2.1]
  go_wp2_with fail
  go_ret2
  exact kC.some rfl HW.out.2.2.1 HW.out.2.2.2.1 (HW.out.2.2.2.2.weak fun i h=>.inl h)
 ·have hcc:([c] == [117])=false:=by simpa using hc
  have hgn:=Tryz.goesNil
  go_enter Tryz.func108,Tryz.ntmps108
  go_upto_region 1 with (fail)
  rw [HW.out.1]
  go_upto_region 4 with (fail)
  rw [HW.out.2.1]
  go_wp2_with fail
  (with_reducible refine CL.out.mono ?_)
  rintro en w3 ⟨rfl,rfl⟩
  go_wp2_with fail
  go_ret2
  exact kC.some rfl HW.out.2.2.1 HW.out.2.2.2.1 (HW.out.2.2.2.2.weak fun i h=>.inl h)
theorem bP {F:Nat->Prop} {aa:Nat} {o:Option (Bd×Nat)} {w:World} {a0:Addr} (hc:w.cell? ⟨0,0,none⟩=some (.iface 212 (.pointer (some a0)))) {P:Program} {f:FuncId} {args:Array Value} (h:Calls P f args w (kC F aa o w)) :
 (o=none->Calls P f args w fun en w'=>en=.returned (.tuple #[.pointer none,.iface 212 (.pointer (some a0))])/\But (· = aa) w w') /\
 (∀ x,o=some x->Calls P f args w fun en w'=>∃ vb,en=.returned (.tuple #[.pointer (some ⟨vb,0,none⟩),.nilIface])/\But (· = aa) w w'/\Apl w' aa x.2/\Rep (fun i=>F i\/w.heap.size<=i) w' (qZ x.1) (.pointer (some ⟨vb,0,none⟩))):=by
 refine ⟨fun ho=>h.mono ?_,fun x ho=>h.mono ?_⟩
 ·rintro en w' ⟨hb,hn,_⟩
  obtain ⟨a,rfl,ha⟩:=hn ho
  rw [hc] at ha
  simp at ha;subst ha
  exact ⟨rfl,hb⟩
 ·rintro en w' ⟨hb,_,hy⟩
  obtain ⟨v,rfl,ha,hr⟩:=hy x.1 x.2 ho
  obtain ⟨vb,rfl⟩:=zi hr
  exact ⟨vb,rfl,hb,ha,hr⟩
set_option maxRecDepth 100000 in
theorem eval_back (d:Nat) (ih:xi d) (F:Nat->Prop) (aa l n bb:Nat) (H:List Ty) (ea:Option Addr) (el ec:Nat) (c:UInt8) (env:List Mn) (f:Gf) (st:List Gf) (on:Value) (w:World) (hc:c≠117)
 (h:wC F aa (l+1) (d+1) n H (.leaf c) env (f::st) (.pointer (some ⟨bb,0,none⟩)) (.slice ea el ec) on w) :
 Calls Tryz.prog 108 #[.pointer (some ⟨aa,0,none⟩),.pointer (some ⟨bb,0,none⟩),.slice ea el ec,.int .i64 (n:Nat),on] w (kC F aa (Go.Proofs.YtjggkhmojjaomaaGreatDoor.ev (d+1) (l+1) (.leaf c) env n (f::st)) w):=by
 rw [ev_back hc]
 obtain ⟨b1,b2,b3,b4,b5,bp,ev5,on5,vv5,ss5,e,⟨n1,n2,n3,n4,n5⟩,c1,r1,c2,c3,r3,c4,c5,r5⟩:=h.ro
 subst e
 have oW:=h.ld
 have DS:=h.d20
 have al:=h.okg.1
 have iY:=h.nl
 obtain ⟨W,W2,hW,fb,q0,q1,f1,fY,tz,nJ,p0,p1,p2,p3,p4⟩:=wY (n:=n) (bb:=bb) (ea:=ea) (el:=el) (ec:=ec) (on:=.func (.func 120) #[] #[.pointer (some ⟨b1,0,none⟩),.pointer (some ⟨b2,0,none⟩),.pointer (some ⟨b3,0,none⟩),.pointer (some ⟨b4,0,none⟩),.pointer (some ⟨b5,0,none⟩)]) (T1:=176) (T2:=34) (T3:=153) (T4:=3) (T5:=192) h.apl
 have hF:∀ b,F b->¬ (b=aa)/\F b:=fun b hb=>⟨h.hF b hb,hb⟩
 have aD:Rep F W2 (qZ (.leaf c)) (.pointer (some ⟨bb,0,none⟩)):=h.rb.but fY hF
 obtain ⟨b',sl,e,Ce,fJ,_⟩:=xd aD
 cases e
 have r0:W2.cell? ⟨bb,0,none⟩=some (str [c]):=by simp [World.cell?,fJ]
 have q1':W.cell? ⟨aa,0,none⟩=some (.int .i64 ((l:Int)+1)):=q1
 have DK:((l:Int)+1 == 0)=false:=by rw [beq_eq_false_iff_ne];omega
 have CL:=ed (yE F W2 c (.pointer (some ⟨bb,0,none⟩)) aD)
 have fE:But (· = aa) w W2.drew:=fY.drew
 have kX:∀ {b:Nat} {x:Value},F b->w.cell? ⟨b,0,none⟩=some x->W2.drew.cell? ⟨b,0,none⟩=some x:=fun hb hc=>(fE.cell (e9 w _ hc) (h.hF _ hb)).trans hc
 have Jp:=h.glob.but fE (fun e=>h.ng e.symm)
 obtain ⟨a0,rq⟩:=Jp
 have C:=after_any d ih F aa l n H f st b1 b2 b3 b4 b5 bp ev5 on5 vv5 ss5 W2.drew c ⟨a0,rq⟩ h.hF h.ng tz (by omega) (by omega) (h.fit.back c) h.hn (by omega) (by omega) (k9 (by omega) _ h.okg.2.1) (vG (by omega) _ h.okg.2.2)
  (kX n1 c1) (r1.but fE hF) (kX n2 c2) (kX n3 c3) (r3.but fE hF) (kX n4 c4) (kX n5 c5) (uQ.but fE hF _ _ r5)
 have B8:w.cell? ⟨0,0,none⟩=some (.iface 212 (.pointer (some a0))):=by
  obtain ⟨a1,h1⟩:=h.glob
  have:=(fE.cell (e9 w _ h1) (fun e=>h.ng e.symm)).trans h1
  rw [this] at rq
  rw [h1];exact rq
 have CT:=bP rq C
 have hcc:([c] == [117])=false:=by simpa using hc
 have hgn:=Tryz.goesFn
 have GP:w.heap.size<=W2.drew.heap.size:=fE.size
 have G9:=h.apl.cell.2.2
 have Cd:=h.hF _ Ce
 have KS:Hid (∀ w',But (· = aa) W2.drew w'->w'.cell? ⟨w.heap.size+1+1+1+1,0,none⟩=some (.func (.func 120) #[] #[.pointer (some ⟨b1,0,none⟩),.pointer (some ⟨b2,0,none⟩),.pointer (some ⟨b3,0,none⟩),.pointer (some ⟨b4,0,none⟩),.pointer (some ⟨b5,0,none⟩)])/\w'.cell? ⟨w.heap.size+1,0,none⟩=some (.pointer (some ⟨bb,0,none⟩))/\w'.cell? ⟨bb,0,none⟩=some (str [c])):=by
  show ∀ w',_->_
  intro w' hb
  have k:∀ (b:Nat) (v:Value),b≠aa->W2.cell? ⟨b,0,none⟩=some v->w'.cell? ⟨b,0,none⟩=some v:=fun b v hn hc=>(hb.cell (e9 W2 _ hc) hn).trans hc
  exact ⟨k _ _ (by omega) p4,k _ _ (by omega) p1,k _ _ Cd r0⟩
 have HW:=ed (ef hW (ef fb (ef fE B8)))
 clear hW fb fY fE tz aD q1 fJ C rq B8 kX hF c1 r1 c2 c3 r3 c4 c5 r5 n1 n2 n3 n4 n5 h ih
 generalize EN:decide (c=116)=bo at *
 have G8:([c] == [116])=bo:=by rw [<- EN,Bool.eq_iff_iff];simp
 clear EN
 generalize Go.Proofs.YtjggkhmojjaomaaGreatDoor.ev d l (if c=116 then f.yes else f.no) f.env n st=o at *
 cases o with
 | none =>
   have C:=ed (CT.1 rfl);clear CT
   have HBO:=ed G8;clear G8
   go_enter Tryz.func108,Tryz.ntmps108
   go_upto_region 1 with (fail)
   rw [HW.out.1]
   go_upto_region 4 with (fail)
   rw [HW.out.2.1]
   go_wp2_with fail
   (with_reducible refine CL.out.mono ?_)
   rintro en w3 ⟨rfl,rfl⟩
   go_wp2_with fail
   (with_reducible refine CL.out.mono ?_)
   rintro en w4 ⟨rfl,rfl⟩
   have G8:=HBO.out
   go_wp2_with fail
   go_region_held3 (fun w'=>w'.cell? ⟨w.heap.size+1+1+1+1,0,none⟩=some (.func (.func 120) #[] #[.pointer (some ⟨b1,0,none⟩),.pointer (some ⟨b2,0,none⟩),.pointer (some ⟨b3,0,none⟩),.pointer (some ⟨b4,0,none⟩),.pointer (some ⟨b5,0,none⟩)])/\w'.cell? ⟨w.heap.size+1,0,none⟩=some (.pointer (some ⟨bb,0,none⟩))/\w'.cell? ⟨bb,0,none⟩=some (str [c]))
    (first
     | exact ⟨p4,p1,r0⟩
     | exact KS.out _ fv
     | go_keep)
    (first
     | (go_at_call 120;(with_reducible refine C.out.mono ?_);rintro en w5 ⟨rfl,fv⟩))
   have HF:=ed (HW.out.2.2.1.trans fv);clear fv
   go_wp2_with fail
   go_ret2
   exact kC.none rfl HF.out HW.out.2.2.2
 | some x =>
   have C:=ed (CT.2 x rfl);clear CT
   have HBO:=ed G8;clear G8
   go_enter Tryz.func108,Tryz.ntmps108
   go_upto_region 1 with (fail)
   rw [HW.out.1]
   go_upto_region 4 with (fail)
   rw [HW.out.2.1]
   go_wp2_with fail
   (with_reducible refine CL.out.mono ?_)
   rintro en w3 ⟨rfl,rfl⟩
   go_wp2_with fail
   (with_reducible refine CL.out.mono ?_)
   rintro en w4 ⟨rfl,rfl⟩
   have G8:=HBO.out
   go_wp2_with fail
   go_region_held3 (fun w'=>w'.cell? ⟨w.heap.size+1+1+1+1,0,none⟩=some (.func (.func 120) #[] #[.pointer (some ⟨b1,0,none⟩),.pointer (some ⟨b2,0,none⟩),.pointer (some ⟨b3,0,none⟩),.pointer (some ⟨b4,0,none⟩),.pointer (some ⟨b5,0,none⟩)])/\w'.cell? ⟨w.heap.size+1,0,none⟩=some (.pointer (some ⟨bb,0,none⟩))/\w'.cell? ⟨bb,0,none⟩=some (str [c]))
    (first
     | exact ⟨p4,p1,r0⟩
     | exact KS.out _ fv
     | go_keep)
    (first
     | (go_at_call 120;(with_reducible refine C.out.mono ?_);rintro en w5 ⟨vb,rfl,fv,ha5,oK⟩))
   have HF:=ed (ef (HW.out.2.2.1.trans fv) (ef ha5 oK));clear fv ha5 oK
   go_wp2_with fail
   go_ret2
   exact kC.some rfl HF.out.1 HF.out.2.1 (HF.out.2.2.weak fun i h=>h.imp id fun h=>by omega)
structure AskAt (F:Nat->Prop) (aa l n bb v eb eo el ec:Nat) (on x0 x1 x2 x3:Value) (w w':World):Prop where
 p0:w'.cell? ⟨w.heap.size,0,none⟩=some (.pointer (some ⟨aa,0,none⟩))
 p1:w'.cell? ⟨w.heap.size+1,0,none⟩=some (.pointer (some ⟨bb,0,none⟩))
 p2:w'.cell? ⟨w.heap.size+1+1,0,none⟩=some (.slice (some ⟨eb,eo,none⟩) el ec)
 p3:w'.cell? ⟨w.heap.size+1+1+1,0,none⟩=some (.int .i64 (n:Nat))
 p4:w'.cell? ⟨w.heap.size+1+1+1+1,0,none⟩=some on
 q1:w'.cell? ⟨bb,1,none⟩=some (.int .i64 (v:Nat))
 m0:w'.cell? ⟨eb,eo+v*4,none⟩=some x0
 m1:w'.cell? ⟨eb,eo+v*4+1,none⟩=some x1
 m2:w'.cell? ⟨eb,eo+v*4+2,none⟩=some x2
 m3:w'.cell? ⟨eb,eo+v*4+3,none⟩=some x3
set_option maxRecDepth 100000 in
theorem eval_op (d:Nat) (ih:xi d) (F:Nat->Prop) (aa l n bb v o:Nat) (t:Ty) (H:List Ty) (ea:Option Addr) (el ec:Nat) (ss:List Bd) (y no:Bd) (env:List Mn) (st:List Gf) (on:Value) (w:World) (hv:env[v]? = some (.op o t))
 (h:wC F aa (l+1) (d+1) n H (.ask v ss y no) env st (.pointer (some ⟨bb,0,none⟩)) (.slice ea el ec) on w) :
 Calls Tryz.prog 108 #[.pointer (some ⟨aa,0,none⟩),.pointer (some ⟨bb,0,none⟩),.slice ea el ec,.int .i64 (n:Nat),on] w (kC F aa (Go.Proofs.YtjggkhmojjaomaaGreatDoor.ev (d+1) (l+1) (.ask v ss y no) env n st) w):=by
 obtain ⟨eb,eo,ecap,x0,x1,x2,x3,e,F7,hew,m0,m1,m2,m3,IM⟩:=mean_at h.re hv
 simp only [Value.slice.injEq] at e
 obtain ⟨rfl,rfl,rfl⟩:=e
 simp only [bk,zQ,zC,zH] at IM
 obtain ⟨_,_,e,rfl,kv,_,rfl,hk,_,_,rfl,rfl,_,_,rfl,rfl,rfl⟩:=IM
 simp only [List.cons.injEq,and_true] at e
 obtain ⟨rfl,rfl,rfl,rfl⟩:=e
 obtain ⟨kb,rfl⟩:=cD hk
 have hF:∀ b,F b->¬ (b=aa)/\F b:=fun b hb=>⟨h.hF b hb,hb⟩
 obtain ⟨W,W2,hW,fb,q0,q1,f1,fY,tz,nJ,p0,p1,p2,p3,p4⟩:=wY (n:=n) (bb:=bb) (ea:=some ⟨eb,eo,none⟩) (el:=env.length) (ec:=ec) (on:=on) (T1:=176) (T2:=34) (T3:=153) (T4:=3) (T5:=192) h.apl
 have aD:Rep F W2 (qZ (.ask v ss y no)) (.pointer (some ⟨bb,0,none⟩)):=h.rb.but fY hF
 obtain ⟨b',sl,yv,nv,e,Ce,fJ,_,_,_⟩:=uw aD
 cases e
 have G9:=h.apl.cell.2.2
 have oW:=h.ld
 have DS:=h.d20
 have Cd:=h.hF _ Ce
 have aY:=h.hF _ F7
 have r0:W2.cell? ⟨bb,0,none⟩=some (str []):=by simp [World.cell?,fJ]
 have r1:W2.cell? ⟨bb,1,none⟩=some (.int .i64 (v:Nat)):=by simp [World.cell?,fJ]
 have q1':W.cell? ⟨aa,0,none⟩=some (.int .i64 ((l:Int)+1)):=q1
 have DK:((l:Int)+1 == 0)=false:=by rw [beq_eq_false_iff_ne];omega
 have CL:=ed (xQ F W2 v ss y no (.pointer (some ⟨bb,0,none⟩)) aD)
 have kX:∀ {j:Nat} {x:Value},w.cell? ⟨eb,j,none⟩=some x->W2.cell? ⟨eb,j,none⟩=some x:=fun hc=>(fY.cell (e9 w _ hc) aY).trans hc
 have fU:AskAt F aa l n bb v eb eo env.length ec on (.int .i64 (o:Nat)) (.pointer (some ⟨kb,0,none⟩)) (.pointer none) (.slice none 0 0) w W2:=⟨p0,p1,p2,p3,p4,r1,kX m0,kX m1,kX m2,kX m3⟩
 have KS:Hid (∀ w',But (· = aa) W2 w'->AskAt F aa l n bb v eb eo env.length ec on (.int .i64 (o:Nat)) (.pointer (some ⟨kb,0,none⟩)) (.pointer none) (.slice none 0 0) w w'):=by
  show ∀ w',_->_
  intro w' hb
  have k:∀ {b j:Nat} {v:Value},b≠aa->W2.cell? ⟨b,j,none⟩=some v->w'.cell? ⟨b,j,none⟩=some v:=fun hn hc=>(hb.cell (e9 W2 _ hc) hn).trans hc
  exact ⟨k (by omega) fU.p0,k (by omega) fU.p1,k (by omega) fU.p2,k (by omega) fU.p3,k (by omega) fU.p4,k Cd fU.q1,k aY fU.m0,k aY fU.m1,k aY fU.m2,k aY fU.m3⟩
 have Eq:=(List.getElem?_eq_some_iff.1 hv).1
 have lI:(0:Int)<=(v:Int):=by omega
 have se:(v:Int)<(env.length:Int):=by omega
 have lQ:=uQ.form h.ro
 have HW:=ed (ef hW (ef fb (ef fY (ef tz (ef aD (ef hk fU))))))
 have HP:=ed (ef h (ef hv ih))
 clear hW fb fY tz aD hk fU q1 fJ m0 m1 m2 m3 kX hF h hv ih p0 p1 p2 p3 p4 r1
 rcases lQ with rfl | ⟨cs,rfl⟩
 all_goals
  go_enter Tryz.func108,Tryz.ntmps108
  go_upto_region 1 with (fail)
  rw [HW.out.1]
  go_upto_region 4 with (fail)
  rw [HW.out.2.1]
  have p1:=(KS.out W2 (But.refl _ _)).p1
  go_wp2_with fail
  (with_reducible refine CL.out.mono ?_)
  rintro en w3 ⟨rfl,rfl⟩
  go_wp2_with fail
  (with_reducible refine CL.out.mono ?_)
  rintro en w4 ⟨rfl,rfl⟩
  go_wp2_with fail
  have A4:=KS.out w4 (But.refl _ _)
  have s1:=A4.p1;have s2:=A4.p2;have s3:=A4.q1;have s4:=A4.m0;have s5:=A4.m1;have s6:=A4.m2;have s7:=A4.m3;clear A4
  go_region_held3 (fun w'=>w'.cell? ⟨w.heap.size+1+1,0,none⟩=some (.slice (some ⟨eb,eo,none⟩) env.length ec)/\w'.cell? ⟨w.heap.size+1,0,none⟩=some (.pointer (some ⟨bb,0,none⟩))/\w'.cell? ⟨bb,1,none⟩=some (.int .i64 (v:Nat))/\w'.cell? ⟨eb,eo+v*4,none⟩=some (.int .i64 (o:Nat))/\w'.cell? ⟨eb,eo+v*4+1,none⟩=some (.pointer (some ⟨kb,0,none⟩))/\w'.cell? ⟨eb,eo+v*4+2,none⟩=some (.pointer none)/\w'.cell? ⟨eb,eo+v*4+3,none⟩=some (.slice none 0 0))
   (first
    | exact ⟨s2,s1,s3,s4,s5,s6,s7⟩
    | exact ⟨zJ (w:=w4.drew) s2,zJ (w:=w4.drew) s1,zJ (w:=w4.drew) s3,zJ (w:=w4.drew) s4,zJ (w:=w4.drew) s5,zJ (w:=w4.drew) s6,zJ (w:=w4.drew) s7⟩
    | go_keep)
   (fail)
  obtain ⟨W5,D6⟩:=zzN ((w4.alloc (.cells #[.int .i64 (o:Nat),.pointer (some ⟨kb,0,none⟩),.pointer none,.slice none 0 0] 156)).drew)
  have nU:Below w4.heap.size w4 W5:=by rw [<- D6];exact ((e_ _ _).alloc (ei _) _).drew
  have tB:W5.heap[w4.heap.size]? = some (.cells #[.int .i64 (o:Nat),.pointer (some ⟨kb,0,none⟩),.pointer none,.slice none 0 0] 156 (0,0)):=by rw [<- D6];exact zG w4 _
  rw [D6]
  clear D6 s1 s2 s3 s4 s5 s6 s7
  obtain ⟨y0,y1,y2,y3⟩:=kP tB
  have A5:=KS.out W5 (But.ofBelow nU)
  have tC:But (· = aa) w W5:=HW.out.2.2.1.trans (But.ofBelow nU)
  have fF:=HP.out.1
  have lF:∀ i,F i->¬ (i=aa)/\(F i\/w.heap.size<=i):=fun i hi=>⟨fF.hF i hi,.inl hi⟩
  have A6:=fF.fit.keep HP.out.2.1
  have hK:KeptPre (fun i=>F i\/w.heap.size<=i) aa l d n o v H t ss y no env st (.pointer (some ⟨bb,0,none⟩)) (.pointer (some ⟨kb,0,none⟩)) (.slice (some ⟨eb,eo,none⟩) env.length ec) (.func (.func 120) #[] #[.pointer (some ⟨w.heap.size+1,0,none⟩),.pointer (some ⟨w.heap.size,0,none⟩),.pointer (some ⟨w.heap.size+1+1,0,none⟩),.pointer (some ⟨w.heap.size+1+1+1,0,none⟩),.pointer (some ⟨w.heap.size+1+1+1+1,0,none⟩)]) W5:=by
   have IX:=pT _ fF.ok v _ HP.out.2.1
   rw [okM] at IX
   have mj:=fF.rb.but tC lF
   have BL:=fF.re.but tC lF
   have hFF:∀ i,(F i\/w.heap.size<=i)->i≠aa:=by
    intro i hi
    rcases hi with hi | hi
    ·exact fF.hF i hi
    ·omega
   exact { glob:=fF.glob.but tC (fun e=>fF.ng e.symm),hF:=hFF,ng:=fF.ng,apl:=(HW.out.2.2.2.1).below nU,ld:=by omega,d20:=by omega,
           hlen:=A6.1,at15:=IX.1,sub:=A6.2.2.1,fy:=A6.2.2.2.1,fn:=A6.2.2.2.2,hn:=fF.hn,el:=fF.el,nl:=fF.nl,ok:=fF.ok,okg:=fF.okg,rb:=mj,
           rk:=(HW.out.2.2.2.2.2.1).but tC lF,re:=BL,
           ro:=⟨_,_,_,_,_,_,_,_,v,ss,rfl,⟨.inr (by omega),.inr (by omega),.inr (by omega),.inr (by omega),.inr (by omega)⟩,A5.p1,mj,A5.p0,A5.p2,BL,A5.p3,A5.p4,uQ.but tC lF _ _ fF.ro⟩ }
  have C:=kept_any d HP.out.2.2 _ aa l n o v H t ss y no env st _ _ _ _ W5 hK
  obtain ⟨a0,rq⟩:=fF.glob
  have Aj:=(tC.cell (e9 w _ rq) (fun e=>fF.ng e.symm)).trans rq
  have CT:=bP Aj C
  have nA:Go.Proofs.YtjggkhmojjaomaaGreatDoor.ev (d+1) (l+1) (.ask v ss y no) env n st=xK d l n o t ss y no env st:=ev_op HP.out.2.1
  clear C hK Aj
  generalize xK d l n o t ss y no env st=oo at *
  have s0:=A5.p0;have s1:=A5.p1;have s2:=A5.p2;have s3:=A5.p3
  have HX:=ed (ef tC rq);clear tC rq A5 lF A6 fF nU tB
  cases oo with
  | none =>
    have C:=ed (CT.1 rfl);clear CT
    have HE:=ed nA;clear nA
    go_wp2_with fail
    (with_reducible refine C.out.mono ?_)
    rintro en w6 ⟨rfl,fC⟩
    have HF:=ed (HX.out.1.trans fC);clear fC
    go_wp2_with fail
    go_ret2
    exact kC.none HE.out HF.out HX.out.2
  | some x =>
    have C:=ed (CT.2 x rfl);clear CT
    have HE:=ed nA;clear nA
    have hz5:=HX.out.1.size
    go_wp2_with fail
    (with_reducible refine C.out.mono ?_)
    rintro en w6 ⟨vb,rfl,fC,J5,my⟩
    have HF:=ed (ef (HX.out.1.trans fC) (ef J5 my));clear fC J5 my
    go_wp2_with fail
    go_ret2
    exact kC.some HE.out HF.out.1 HF.out.2.1 (HF.out.2.2.weak fun i h=>by
     rcases h with (h | h) | h
     ·exact .inl h
     ·exact .inr h
     ·exact .inr (by omega))
structure BInv (G:Nat->Prop) (e env:List Mn) (t:Ty) (ss:List Bd) (W:World) (k:Nat) (a:Option Addr) (c:Nat) (xs:List Value) (wr:World):Prop where
 own:Own wr 156 4 (.slice a (e.length+k) c) (e.length+k) xs
 rep:zX (fun i=>G i/\i<W.heap.size) wr (qz (e++owns env (t.args.take k) (ss.take k))) xs
 bel:Below W.heap.size W wr
 fr:∀ g,(Value.slice a (e.length+k) c).ownBlock=some g->W.heap.size<=g
theorem xy {env:List Mn}:∀ (ts:List Ty) (ss:List Bd),ss.length=ts.length->(owns env ts ss).length=ts.length
 | [],[],_=>by simp [owns]
 | [],s::ss,h=>by simp at h
 | t::ts,[],h=>by simp at h
 | t::ts,s::ss,h=>by rw [owns,List.length_cons,List.length_cons,xy ts ss (by simpa using h)]
set_option maxRecDepth 100000 in
theorem eval_bd (d:Nat) (ih:xi d) (F:Nat->Prop) (aa l n bb v:Nat) (t:Ty) (H:List Ty) (ea:Option Addr) (el ec:Nat) (ss:List Bd) (y no b':Bd) (env e':List Mn) (st:List Gf) (on:Value) (w:World) (hv:env[v]? = some (.bd t b' e'))
 (h:wC F aa (l+1) (d+1) n H (.ask v ss y no) env st (.pointer (some ⟨bb,0,none⟩)) (.slice ea el ec) on w) :
 Calls Tryz.prog 108 #[.pointer (some ⟨aa,0,none⟩),.pointer (some ⟨bb,0,none⟩),.slice ea el ec,.int .i64 (n:Nat),on] w (kC F aa (Go.Proofs.YtjggkhmojjaomaaGreatDoor.ev (d+1) (l+1) (.ask v ss y no) env n st) w):=by
 obtain ⟨eb,eo,ecap,x0,x1,x2,x3,e,F7,hew,m0,m1,m2,m3,IM⟩:=mean_at h.re hv
 simp only [Value.slice.injEq] at e
 obtain ⟨rfl,rfl,rfl⟩:=e
 simp only [bk,zQ,zC,zH] at IM
 obtain ⟨_,_,e,rfl,_,_,rfl,rfl,bv2,_,rfl,hk,sv2,_,rfl,iU,rfl⟩:=IM
 simp only [List.cons.injEq,and_true] at e
 obtain ⟨rfl,rfl,rfl,rfl⟩:=e
 obtain ⟨kb,rfl⟩:=zi hk
 obtain ⟨news,me,mC⟩:=zO.ofRep iU (vP e')
 obtain ⟨a2,c2,e⟩:=mC.slice
 subst e
 have hF:∀ b,F b->¬ (b=aa)/\F b:=fun b hb=>⟨h.hF b hb,hb⟩
 obtain ⟨W,W2,hW,fb,q0,q1,f1,fY,tz,nJ,p0,p1,p2,p3,p4⟩:=wY (n:=n) (bb:=bb) (ea:=some ⟨eb,eo,none⟩) (el:=env.length) (ec:=ec) (on:=on) (T1:=176) (T2:=34) (T3:=153) (T4:=3) (T5:=192) h.apl
 have aD:Rep F W2 (qZ (.ask v ss y no)) (.pointer (some ⟨bb,0,none⟩)):=h.rb.but fY hF
 obtain ⟨b9,sl,yv,nv,e,Ce,fJ,mm,_,_⟩:=uw aD
 cases e
 obtain ⟨sa,sc,e,_,_,BC⟩:=zP mm
 subst e
 have G9:=h.apl.cell.2.2
 have oW:=h.ld
 have DS:=h.d20
 have Cd:=h.hF _ Ce
 have aY:=h.hF _ F7
 have r0:W2.cell? ⟨bb,0,none⟩=some (str []):=by simp [World.cell?,fJ]
 have r1:W2.cell? ⟨bb,1,none⟩=some (.int .i64 (v:Nat)):=by simp [World.cell?,fJ]
 have r2:W2.cell? ⟨bb,2,none⟩=some (.slice sa ss.length sc):=by simp [World.cell?,fJ]
 have q1':W.cell? ⟨aa,0,none⟩=some (.int .i64 ((l:Int)+1)):=q1
 have DK:((l:Int)+1 == 0)=false:=by rw [beq_eq_false_iff_ne];omega
 have CL:=ed (xQ F W2 v ss y no (.pointer (some ⟨bb,0,none⟩)) aD)
 have kX:∀ {j:Nat} {x:Value},w.cell? ⟨eb,j,none⟩=some x->W2.cell? ⟨eb,j,none⟩=some x:=fun hc=>(fY.cell (e9 w _ hc) aY).trans hc
 have fU:AskAt F aa l n bb v eb eo env.length ec on (.int .i64 0) (.pointer none) (.pointer (some ⟨kb,0,none⟩)) (.slice a2 e'.length c2) w W2:=⟨p0,p1,p2,p3,p4,r1,kX m0,kX m1,kX m2,kX m3⟩
 have KS:Hid (∀ w',But (· = aa) W2 w'->AskAt F aa l n bb v eb eo env.length ec on (.int .i64 0) (.pointer none) (.pointer (some ⟨kb,0,none⟩)) (.slice a2 e'.length c2) w w'):=by
  show ∀ w',_->_
  intro w' hb
  have k:∀ {b j:Nat} {v:Value},b≠aa->W2.cell? ⟨b,j,none⟩=some v->w'.cell? ⟨b,j,none⟩=some v:=fun hn hc=>(hb.cell (e9 W2 _ hc) hn).trans hc
  exact ⟨k (by omega) fU.p0,k (by omega) fU.p1,k (by omega) fU.p2,k (by omega) fU.p3,k (by omega) fU.p4,k Cd fU.q1,k aY fU.m0,k aY fU.m1,k aY fU.m2,k aY fU.m3⟩
 have Eq:=(List.getElem?_eq_some_iff.1 hv).1
 have lI:(0:Int)<=(v:Int):=by omega
 have se:(v:Int)<(env.length:Int):=by omega
 have lQ:=uQ.form h.ro
 have HW:=ed (ef hW (ef fb (ef fY (ef tz (ef aD (ef hk (ef fU (ef r2 (ef BC (ef iU (ef me mC)))))))))))
 have HP:=ed (ef h (ef hv ih))
 have Ca:=h.fit.call hv
 have mE:=pT _ h.ok v _ hv
 rw [okM] at mE
 have ig:=Ca.1
 have FY:=(zo mE.1).2
 have hl16s:ss.length<=15:=by omega
 have hel2:=mE.2.1
 have al:=h.el
 have HL:=ed (ef Ca mE)
 clear hW fb fY tz aD hk fU r2 BC iU me mC Ca mE mm ig q1 fJ m0 m1 m2 m3 kX hF h hv ih p0 p1 p2 p3 p4 r1
 rcases lQ with rfl | ⟨cs,rfl⟩
 all_goals
  go_enter Tryz.func108,Tryz.ntmps108
  go_upto_region 1 with (fail)
  rw [HW.out.1]
  go_upto_region 4 with (fail)
  rw [HW.out.2.1]
  have p1:=(KS.out W2 (But.refl _ _)).p1
  go_wp2_with fail
  (with_reducible refine CL.out.mono ?_)
  rintro en w3 ⟨rfl,rfl⟩
  go_wp2_with fail
  (with_reducible refine CL.out.mono ?_)
  rintro en w4 ⟨rfl,rfl⟩
  go_wp2_with fail
  have A4:=KS.out w4 (But.refl _ _)
  have s1:=A4.p1;have s2:=A4.p2;have s3:=A4.q1;have s4:=A4.m0;have s5:=A4.m1;have s6:=A4.m2;have s7:=A4.m3;clear A4
  go_region_held3 (fun w'=>w'.cell? ⟨w.heap.size+1+1,0,none⟩=some (.slice (some ⟨eb,eo,none⟩) env.length ec)/\w'.cell? ⟨w.heap.size+1,0,none⟩=some (.pointer (some ⟨bb,0,none⟩))/\w'.cell? ⟨bb,1,none⟩=some (.int .i64 (v:Nat))/\w'.cell? ⟨eb,eo+v*4,none⟩=some (.int .i64 0)/\w'.cell? ⟨eb,eo+v*4+1,none⟩=some (.pointer none)/\w'.cell? ⟨eb,eo+v*4+2,none⟩=some (.pointer (some ⟨kb,0,none⟩))/\w'.cell? ⟨eb,eo+v*4+3,none⟩=some (.slice a2 e'.length c2))
   (first
    | exact ⟨s2,s1,s3,s4,s5,s6,s7⟩
    | exact ⟨zJ (w:=w4.drew) s2,zJ (w:=w4.drew) s1,zJ (w:=w4.drew) s3,zJ (w:=w4.drew) s4,zJ (w:=w4.drew) s5,zJ (w:=w4.drew) s6,zJ (w:=w4.drew) s7⟩
    | go_keep)
   (fail)
  obtain ⟨W5,D6⟩:=zzN ((w4.alloc (.cells #[.int .i64 0,.pointer none,.pointer (some ⟨kb,0,none⟩),.slice a2 e'.length c2] 156)).drew)
  have nU:Below w4.heap.size w4 W5:=by rw [<- D6];exact ((e_ _ _).alloc (ei _) _).drew
  have tB:W5.heap[w4.heap.size]? = some (.cells #[.int .i64 0,.pointer none,.pointer (some ⟨kb,0,none⟩),.slice a2 e'.length c2] 156 (0,0)):=by rw [<- D6];exact zG w4 _
  rw [D6]
  clear D6 s1 s2 s3 s4 s5 s6 s7
  have hz45:w4.heap.size<W5.heap.size:=zZ tB
  obtain ⟨y0,y1,y2,y3⟩:=kP tB
  have A5:=KS.out W5 (But.ofBelow nU)
  have tC:But (· = aa) w W5:=HW.out.2.2.1.trans (But.ofBelow nU)
  have fF:=HP.out.1
  have lF:∀ i,F i->¬ (i=aa)/\(F i\/w.heap.size<=i):=fun i hi=>⟨fF.hF i hi,.inl hi⟩
  have nA:Go.Proofs.YtjggkhmojjaomaaGreatDoor.ev (d+1) (l+1) (.ask v ss y no) env n st=Go.Proofs.YtjggkhmojjaomaaGreatDoor.ev d l b' (e'++owns env t.args ss) n (⟨y,no,env⟩::st):=ev_bd HP.out.2.1
  have Ev:zO 4 (.slice a2 e'.length c2) e'.length news W5:=srcSl_but tC (fun b hb=>fF.hF b hb) HW.out.2.2.2.2.2.2.2.2.2.1 HW.out.2.2.2.2.2.2.2.2.2.2.2
  have z2:W5.cell? ⟨bb,2,none⟩=some (.slice sa ss.length sc):=(nU.cell (e9 w4 _ HW.out.2.2.2.2.2.2.2.1)).trans HW.out.2.2.2.2.2.2.2.1
  have HX:=ed (ef tC (ef nU (ef tB (ef nA Ev))));clear tC nU tB nA Ev
  have s1:=A5.p1;have s2:=A5.p2
  have HA5:=ed A5;clear A5
  go_wp2_with (at_builtin;refine zD rfl _ _ 153 rfl 156 (.agg #[.int .i64 0,.pointer none,.pointer none,.slice none 0 0]) 4 48 Tryz.underlying153 Tryz.infoMn rfl (by decide) (.slice none 0 0) 0 [] rfl ?a1 _ e'.length news rfl ?a2 ?a3 ?a4 ?_)
  case a1=>exact World.ownsRow_nil _ _ _ _
  case a2=>exact HX.out.2.2.2.2
  case a3=>unfold maxLen;omega
  case a4=>omega
  intro a6 c6 w6 Di fC Do
  have sk:Below W5.heap.size W5 w6:=fC.toBelow (ei _) (fun i _ e=>by simp [Value.ownBlock] at e)
  have EM:∀ g,(Value.slice a6 e'.length c6).ownBlock=some g->W5.heap.size<=g:=fun g hg=>by
   rcases Do g hg with h | h
   ·simp [Value.ownBlock] at h
   ·omega
  have my:zX (fun i=>(F i\/w.heap.size<=i)/\i<W5.heap.size) w6 (qz (e'++owns env (t.args.take 0) (ss.take 0))) news:=by
   have h0:=(zX.low HW.out.2.2.2.2.2.2.2.2.2.2.1).but HX.out.1 (F':=fun i=>(F i\/w.heap.size<=i)/\i<W5.heap.size) (fun b hb=>⟨fF.hF b hb.1,.inl hb.1,by have:=HX.out.1.size;omega⟩)
   rw [List.take_zero,List.take_zero,owns.eq_def,List.append_nil]
   exact (Rep.keep fun b o hf hh=>⟨hf,by rw [sk.block b hf.2];exact hh⟩).2 _ _ h0
  have HI0:=ed (show BInv (fun i=>F i\/w.heap.size<=i) e' env t ss W5 0 a6 c6 news w6 from ⟨Di,my,sk,EM⟩)
  have z2:=(sk.cell (e9 W5 _ z2)).trans z2
  have s1:=(sk.cell (e9 W5 _ s1)).trans s1
  clear Di my sk EM fC Do fF lF
  go_wp2_with fail
  go_loopw [14,78] (fun o i wr=>∃ k:Nat,k<=ss.length/\i=.int .i64 k/\∃ a c xs,o=.slice a (e'.length+k:Nat) c/\BInv (fun i=>F i\/w.heap.size<=i) e' env t ss W5 k a c xs wr) (fun _ i _=>ss.length-(intOf i).toNat)
  case atStart=>exact ⟨0,Nat.zero_le _,rfl,a6,c6,news,rfl,HI0.out⟩
  case round =>
   rename_i wr
   obtain ⟨k,hk,rfl,a,c,xs,rfl,fH⟩:=hrel
   have HI:=ed fH;clear fH
   have fF:=HP.out.1
   have oM:Below w4.heap.size w4 wr:=HX.out.2.1.trans (HI.out.bel.mono (by omega))
   have aW:But (· = aa) w wr:=HW.out.2.2.1.trans (But.ofBelow oM)
   have hz5:=HX.out.1.size
   have AR:=KS.out wr (But.ofBelow oM)
   by_cases fG:k<ss.length
   ·have mX:(k:Int)<(ss.length:Int):=by omega
    obtain ⟨sb,so,u,d1,e,lF,Fu,oB,rZ,nI⟩:=HW.out.2.2.2.2.2.2.2.2.1 k fG
    subst e
    rw [xJ,Option.map_eq_some_iff] at oB
    obtain ⟨s,hs,rfl⟩:=oB
    obtain ⟨ub,rfl⟩:=zi nI
    have EH:k<t.args.length:=by have:=HL.out.1.1;omega
    obtain ⟨ta,r_⟩:∃ ta,t.args[k]? = some ta:=⟨_,List.getElem?_eq_getElem EH⟩
    have q0:=(oM.cell (e9 w4 _ rZ)).trans rZ
    have q1:=AR.p2
    have HK:=ed (ef hs (ef nI (ef r_ (ef oM aW))));clear hs nI r_ oM aW rZ fF AR
    go_wp2_with (at_builtin;refine zD rfl _ _ 153 rfl 156 (.agg #[.int .i64 0,.pointer none,.pointer none,.slice none 0 0]) 4 48 Tryz.underlying153 Tryz.infoMn rfl (by decide) (.slice a (e'.length+k) c) (e'.length+k) xs rfl ?c1 _ 1 [.int .i64 0,.pointer none,.pointer (some ⟨ub,0,none⟩),.slice (some ⟨eb,eo,none⟩) env.length ec] rfl ?c2 ?c3 ?c4 ?_)
    case c1=>exact HI.out.own.alloc _
    case c2=>exact zO.lit1 #[.int .i64 0,.pointer none,.pointer (some ⟨ub,0,none⟩),.slice (some ⟨eb,eo,none⟩) env.length ec] rfl (by simp [Value.oneCell']) _ (by simp)
    case c3=>unfold maxLen;omega
    case c4=>omega
    intro a7 c7 w7 fu fW fR
    have hzr:=HI.out.bel.size
    have D3:Below W5.heap.size W5 w7:=by
     refine (HI.out.bel.alloc hzr _).trans (fW.toBelow (by rw [zK];omega) fun i hi e=>?_)
     have:=HI.out.fr i e;omega
    have ai:∀ g,(Value.slice a7 (e'.length+(k+1)) c7).ownBlock=some g->W5.heap.size<=g:=by
     intro g h
     rcases fR g h with h | h
     ·exact HI.out.fr g h
     ·omega
    have n_:∀ (b:Nat) (o:Obj),b<w4.heap.size->w4.heap[b]? = some o->w7.heap[b]? = some o:=fun b o hb hh=>by
     rw [D3.block b (by omega),HX.out.2.1.block b hb];exact hh
    have sA:zX (fun i=>(F i\/w.heap.size<=i)/\i<W5.heap.size) w7 (qz (e'++owns env (t.args.take (k+1)) (ss.take (k+1)))) (xs++[.int .i64 0,.pointer none,.pointer (some ⟨ub,0,none⟩),.slice (some ⟨eb,eo,none⟩) env.length ec]):=by
     rw [owns_take _ _ _ _ _ HK.out.2.2.1 HK.out.1,<- List.append_assoc,vg,encMs_one]
     refine zX.append ?_ ?_
     ·exact (Rep.keep fun b o hf ho=>⟨hf,by rw [D3.block b hf.2,<- HI.out.bel.block b hf.2];exact ho⟩).2 _ _ HI.out.rep
     ·rw [bk]
      have hre4:=HP.out.1.re.but (F':=F) HW.out.2.2.1 (fun b hb=>⟨HP.out.1.hF b hb,hb⟩)
      have kk:=(Rep.keep (F:=F) (F':=fun i=>(F i\/w.heap.size<=i)/\i<W5.heap.size) (w:=w4) (w':=w7) fun b o hf hh=>⟨⟨.inl hf,by have:=zZ hh;omega⟩,n_ b o (zZ hh) hh⟩).1
      refine zQ.2 ⟨_,_,rfl,zH.2 rfl,zQ.2 ⟨_,_,rfl,zH.2 rfl,zQ.2 ⟨_,_,rfl,kk _ _ HK.out.2.1,zQ.2 ⟨_,_,rfl,kk _ _ hre4,zC.2 rfl⟩⟩⟩⟩
    have HN:=ed (show BInv (fun i=>F i\/w.heap.size<=i) e' env t ss W5 (k+1) a7 c7 _ w7 from ⟨fu,sA,D3,ai⟩);clear fu sA D3 ai fW fR n_
    go_wp2_with fail
    go_roundw
    case rel=>exact ⟨k+1,by omega,by go_num,a7,c7,_,rfl,HN.out⟩
    case measure=>simp [intOf];omega
   ·obtain rfl:k=ss.length:=by omega
    have rW:=HI.out.rep
    have ig:=HL.out.1.1
    rw [List.take_length,List.take_of_length_le (by omega)] at rW
    have hlen:(e'++owns env t.args ss).length=e'.length+ss.length:=by rw [List.length_append,xy _ _ ig,ig]
    have lF:∀ i,F i->¬ (i=aa)/\(F i\/w.heap.size<=i):=fun i hi=>⟨fF.hF i hi,.inl hi⟩
    have hFF:∀ i,(F i\/w.heap.size<=i)->i≠aa:=by
     intro i hi
     rcases hi with hi | hi
     ·exact fF.hF i hi
     ·omega
    have BK:Rep (fun i=>F i\/w.heap.size<=i) wr (.sl 156 4 (e'++owns env t.args ss).length (qz (e'++owns env t.args ss))) (.slice a (e'.length+ss.length) c):=by
     rw [hlen]
     exact HI.out.own.rep (fun g hg=>.inr (by have:=HI.out.fr g hg;omega)) ((Rep.keep fun b o hf ho=>⟨hf.1,ho⟩).2 _ _ rW)
    have mj:=fF.rb.but aW lF
    have BL:=fF.re.but aW lF
    have mE:=HL.out.2
    have iY:=fF.nl
    have hK:wC (fun i=>F i\/w.heap.size<=i) aa l d n H b' (e'++owns env t.args ss) (⟨y,no,env⟩::st) (.pointer (some ⟨kb,0,none⟩)) (.slice a (e'.length+ss.length) c) (.func (.func 120) #[] #[.pointer (some ⟨w.heap.size+1,0,none⟩),.pointer (some ⟨w.heap.size,0,none⟩),.pointer (some ⟨w.heap.size+1+1,0,none⟩),.pointer (some ⟨w.heap.size+1+1+1,0,none⟩),.pointer (some ⟨w.heap.size+1+1+1+1,0,none⟩)]) wr:=by
     exact { glob:=fF.glob.but aW (fun e=>fF.ng e.symm),hF:=hFF,ng:=fF.ng,apl:=(HW.out.2.2.2.1).below oM,ld:=by omega,d20:=by omega,
             fit:=HL.out.1.2,hn:=fF.hn,el:=by rw [hlen];omega,nl:=by omega,
             ok:=jD _ _ (k9 (by omega) _ mE.2.2) (xp (k9 (by omega) _ fF.ok) (by omega) _ _ (zo mE.1).1),
             okg:=⟨by show env.length<=_;omega,k9 (by omega) _ fF.ok,vG (by omega) _ fF.okg⟩,rb:=HW.out.2.2.2.2.2.1.but aW lF,re:=BK,
             ro:=⟨_,_,_,_,_,_,_,_,v,ss,rfl,⟨.inr (by omega),.inr (by omega),.inr (by omega),.inr (by omega),.inr (by omega)⟩,AR.p1,mj,AR.p0,AR.p2,BL,AR.p3,AR.p4,uQ.but aW lF _ _ fF.ro⟩ }
    have C:=HP.out.2.2 _ aa l n H b' (e'++owns env t.args ss) (⟨y,no,env⟩::st) _ _ _ wr hK
    obtain ⟨a0,rq⟩:=fF.glob
    have Aj:=(aW.cell (e9 w _ rq) (fun e=>fF.ng e.symm)).trans rq
    have CT:=bP Aj C
    have nA:=HX.out.2.2.2.1
    clear C hK Aj rW BK mj BL
    generalize Go.Proofs.YtjggkhmojjaomaaGreatDoor.ev d l b' (e'++owns env t.args ss) n (⟨y,no,env⟩::st)=oo at *
    have s0:=AR.p0;have s3:=AR.p3
    have tB:=(HI.out.bel.block w4.heap.size (by omega)).trans HX.out.2.2.1
    obtain ⟨y0,y1,y2,y3⟩:=kP tB
    have hzr:=aW.size
    have HY:=ed (ef aW rq);clear aW rq AR lF fF tB oM y0 y1 y3 hlen mE ig
    cases oo with
    | none =>
      have C:=ed (CT.1 rfl);clear CT
      have HE:=ed nA;clear nA
      go_wp2_with fail
      (with_reducible refine C.out.mono ?_)
      rintro en w6' ⟨rfl,fC⟩
      have HF:=ed (HY.out.1.trans fC);clear fC
      go_wp2_with fail
      go_ret2
      exact kC.none HE.out HF.out HY.out.2
    | some x =>
      have C:=ed (CT.2 x rfl);clear CT
      have HE:=ed nA;clear nA
      go_wp2_with fail
      (with_reducible refine C.out.mono ?_)
      rintro en w6' ⟨vb,rfl,fC,J5,my⟩
      have HF:=ed (ef (HY.out.1.trans fC) (ef J5 my));clear fC J5 my
      go_wp2_with fail
      go_ret2
      exact kC.some HE.out HF.out.1 HF.out.2.1 (HF.out.2.2.weak fun i h=>by
       rcases h with (h | h) | h
       ·exact .inl h
       ·exact .inr h
       ·exact .inr (by omega))
theorem eval_any (d:Nat):xi d:=by
 induction d with
 | zero =>
   intro F aa l n H b env st bv ev on w h
   obtain rfl:l=0:=by have:=h.ld;omega
   obtain ⟨bb,rfl⟩:=zi h.rb
   obtain ⟨_,a,c,rfl,_⟩:=zp.1 h.re
   exact eval_out F aa 0 n bb a _ c b env st on w h.ro.form h.glob h.ng h.apl
 | succ d ih =>
   intro F aa l n H b env st bv ev on w h
   obtain ⟨bb,rfl⟩:=zi h.rb
   obtain ⟨_,a,c,rfl,_⟩:=zp.1 h.re
   cases l with
   | zero=>exact eval_out F aa (d+1) n bb a _ c b env st on w h.ro.form h.glob h.ng h.apl
   | succ l =>
     have oW:=h.ld
     have hd:=h.d20
     cases b with
     | leaf x =>
       by_cases hx:x=117
       ·exact eval_end F aa d l n bb a _ c x env st on w h.hF h.apl (by omega) h.rb (.inl ⟨hx,h.ro.form⟩)
       ·cases st with
        | nil=>exact eval_end F aa d l n bb a _ c x env [] on w h.hF h.apl (by omega) h.rb (.inr ⟨hx,h.ro,rfl⟩)
        | cons f st=>exact eval_back d ih F aa l n bb H a _ c x env f st on w hx h
     | ask v ss y no =>
       obtain ⟨m,t,hh,hm,_⟩:=h.fit.ask
       cases m with
       | op o t=>exact eval_op d ih F aa l n bb v o t H a _ c ss y no env st on w hm h
       | bd t b' e'=>exact eval_bd d ih F aa l n bb v t H a _ c ss y no b' env e' st on w hm h
theorem dQ {d:Nat} (ih:∀ (l:Nat) (b:Bd) (env:List Mn) (n:Nat) (st:List Gf) (r:Bd) (l':Nat),Go.Proofs.YtjggkhmojjaomaaGreatDoor.ev d l b env n st=some (r,l')->zW r+l'<=l) {env:List Mn} {n:Nat} :
 ∀ (ts:List Ty) (ss:List Bd) (l:Nat) (xs:List Bd) (l':Nat),kh (Go.Proofs.YtjggkhmojjaomaaGreatDoor.ev d) env n l ts ss=some (xs,l')->zR xs+l'<=l
 | [],ss,l,xs,l',h=>by simp [kh] at h;obtain ⟨rfl,rfl⟩:=h;simp [zR]
 | t::ts,[],l,xs,l',h=>by simp [kh] at h;obtain ⟨rfl,rfl⟩:=h;simp [zR]
 | t::ts,s::ss,l,xs,l',h=>by
   simp only [kh,Option.bind_eq_bind,Option.bind_eq_some_iff,Prod.exists] at h
   obtain ⟨x,l1,h1,ys,l2,h2,h3⟩:=h
   simp at h3
   obtain ⟨rfl,rfl⟩:=h3
   have k1:=ih _ _ _ _ _ _ _ h1
   have k2:=dQ ih ts ss _ _ _ h2
   rw [zR]
   omega
theorem ev_size (d:Nat):∀ (l:Nat) (b:Bd) (env:List Mn) (n:Nat) (st:List Gf) (r:Bd) (l':Nat),Go.Proofs.YtjggkhmojjaomaaGreatDoor.ev d l b env n st=some (r,l')->zW r+l'<=l:=by
 induction d with
 | zero=>intro l b env n st r l' h;simp [Go.Proofs.YtjggkhmojjaomaaGreatDoor.ev] at h
 | succ d ih =>
   intro l b env n st r l' h
   cases l with
   | zero=>rw [ev.eq_def] at h;simp at h
   | succ l =>
     cases b with
     | leaf c =>
       by_cases hc:c=117
       ·subst hc;rw [ev_u] at h;simp at h;obtain ⟨rfl,rfl⟩:=h;rw [zW];omega
       ·cases st with
        | nil=>rw [ev_end] at h;simp at h;obtain ⟨rfl,rfl⟩:=h;rw [zW];omega
        | cons f st=>rw [ev_back hc] at h;have:=ih _ _ _ _ _ _ _ h;omega
     | ask v ss y no =>
       cases hv:env[v]? with
       | none=>rw [ev.eq_def] at h;simp [hv] at h
       | some m =>
         cases m with
         | bd t b' e=>rw [ev_bd hv] at h;have:=ih _ _ _ _ _ _ _ h;omega
         | op o t =>
           rw [ev_op hv] at h
           simp only [Option.bind_eq_some_iff,Prod.exists] at h
           obtain ⟨xs,l1,h1,x,l2,h2,z,l3,h3,h4⟩:=h
           simp at h4
           obtain ⟨rfl,rfl⟩:=h4
           have k1:=dQ ih _ _ _ _ _ h1
           have k2:=ih _ _ _ _ _ _ _ h2
           have k3:=ih _ _ _ _ _ _ _ h3
           rw [zW]
           omega
theorem fits_any (F:Nat->Prop) (w:World) (b:Bd) (v:Value) (hv:Rep F w (qZ b) v) (hn:zW b<=20000) :
 Calls Tryz.prog 55 #[v] w fun en w'=>en=.returned (.bool (decide (zW b<=200/\kR b<=100)))/\Below w.heap.size w w':=by
 obtain ⟨vb,rfl⟩:=zi hv
 have hL:Lim 20000:=by unfold Lim;omega
 have C1:=ed (size_any 20000 b hn hL F w _ hv)
 go_enter Tryz.func55,Tryz.ntmps55
 go_wp2_with fail
 (with_reducible refine C1.out.mono ?_)
 rintro en w1 ⟨rfl,fP⟩
 have C2:=ed (depth_any 20000 b hn hL F w1 _ (Rep.below fP (fun _ h=>h) hv))
 have HB:=ed fP;clear fP
 by_cases rP:zW b<=200
 ·have h1:decide ((zW b:Int)<=200)=true:=decide_eq_true (by omega)
  go_wp2_with fail
  (with_reducible refine C2.out.mono ?_)
  rintro en w2 ⟨rfl,fY⟩
  have hb:=zzT HB.out fY
  clear fY
  by_cases ij:kR b<=100
  ·have h2:decide ((kR b:Int)<=100)=true:=decide_eq_true (by omega)
   have HE:=ed (ef (show decide (zW b<=200/\kR b<=100)=true from decide_eq_true ⟨rP,ij⟩) hb);clear hb
   go_wp2_with fail
   go_ret
   rw [HE.out.1]
   exact ⟨rfl,HE.out.2⟩
  ·have h2:decide ((kR b:Int)<=100)=false:=decide_eq_false (by omega)
   have HE:=ed (ef (show decide (zW b<=200/\kR b<=100)=false from decide_eq_false (by omega)) hb);clear hb
   go_wp2_with fail
   go_ret
   rw [HE.out.1]
   exact ⟨rfl,HE.out.2⟩
 ·have h1:decide ((zW b:Int)<=200)=false:=decide_eq_false (by omega)
  have HE:=ed (show decide (zW b<=200/\kR b<=100)=false from decide_eq_false (by omega))
  go_wp2_with fail
  go_ret
  rw [HE.out]
  exact ⟨rfl,HB.out⟩
def qD (F:Nat->Prop) (w:World) (o:Option Bd) (en:Ending) (w':World):Prop :=
 ∃ v,en=.returned v/\Below w.heap.size w w'/\(o=none->v=.pointer none)/\∀ b,o=some b->Rep (fun i=>F i\/w.heap.size<=i) w' (qZ b) v
structure BecPre (F:Nat->Prop) (n:Nat) (H:List Ty) (b:Bd) (env:List Mn) (bv ev:Value) (w:World):Prop where
 glob:uh w
 fit:jT H b env []
 hn:H.length=n
 nl:n<=1000
 el:env.length<=1000
 ok:yC 1000 env
 rb:Rep F w (qZ b) bv
 re:Rep F w (.sl 156 4 env.length (qz env)) ev
set_option maxRecDepth 100000 in
theorem become_any (F:Nat->Prop) (n:Nat) (H:List Ty) (b:Bd) (env:List Mn) (bv ev:Value) (w:World) (h:BecPre F n H b env bv ev w) :
 Calls Tryz.prog 94 #[bv,ev,.int .i64 (n:Nat)] w (qD F w (jp b env n)):=by
 obtain ⟨bb,rfl⟩:=zi h.rb
 obtain ⟨_,ea,ec,rfl,_⟩:=zp.1 h.re
 obtain ⟨a0,rq⟩:=h.glob
 have BY:=e9 w _ rq
 have hlt1:0<w.heap.size:=BY
 have nw:Below w.heap.size w (w.alloc (.cells #[.int .i64 20000] 178)):=(e_ _ _).alloc (ei _) _
 have hrbA:=Rep.below nw (fun _ h=>h) h.rb
 have hreA:=Rep.below nw (fun _ h=>h) h.re
 have DU:=(nw.cell BY).trans rq
 have kA:∀ {dv:DV} {v:Value},Rep F w dv v->Rep (fun i=>F i/\i<w.heap.size) (w.alloc (.cells #[.int .i64 20000] 178)) dv v:=fun h=>(Rep.keep fun b o hf ho=>⟨⟨hf,zZ ho⟩,zY ho⟩).1 _ _ h
 have iY:=h.nl
 have al:=h.el
 have hE:wC (fun i=>F i/\i<w.heap.size) w.heap.size 20000 20000 n H b env [] (.pointer (some ⟨bb,0,none⟩)) (.slice ea env.length ec) .nilFunc (w.alloc (.cells #[.int .i64 20000] 178)) :=
  { glob:=⟨a0,DU⟩,hF:=fun i hi e=>by have:=hi.2;omega,ng:=by omega,apl:=zG _ _,ld:=ei _,d20:=ei _,fit:=h.fit,hn:=h.hn,el:=by omega,nl:=by omega,
    ok:=k9 (by omega) _ h.ok,okg:=trivial,rb:=kA h.rb,re:=kA h.re,ro:=rfl }
 have C:=eval_any 20000 _ _ _ _ _ _ _ _ _ _ _ _ hE
 have CT:=bP DU C
 have hsz:=ev_size 20000 20000 b env n []
 have JP:(Go.Proofs.YtjggkhmojjaomaaGreatDoor.ev 20000 20000 b env n []=none->jp b env n=none)/\∀ x,Go.Proofs.YtjggkhmojjaomaaGreatDoor.ev 20000 20000 b env n []=some x->((zW x.1<=200/\kR x.1<=100)->jp b env n=some x.1)/\(¬ (zW x.1<=200/\kR x.1<=100)->jp b env n=none):=by
  unfold jp
  refine ⟨fun h=>by rw [h],fun x h=>?_⟩
  rw [h]
  exact ⟨fun h=>if_pos h,fun h=>if_neg h⟩
 clear hE C kA hrbA hreA h
 generalize jp b env n=r at *
 generalize Go.Proofs.YtjggkhmojjaomaaGreatDoor.ev 20000 20000 b env n []=oo at *
 have HS:=ed (ef hsz (ef nw (ef rq JP)));clear hsz nw rq DU JP
 cases oo with
 | none =>
   have C:=ed (CT.1 rfl);clear CT
   go_enter Tryz.func94,Tryz.ntmps94
   go_wp2_with fail
   (with_reducible refine C.out.mono ?_)
   rintro en w1 ⟨rfl,fP⟩
   have fY:Below w.heap.size w w1:=HS.out.2.1.trans (fP.toBelow (by rw [zK];omega) fun i hi e=>by have e:i=w.heap.size:=e;omega)
   have rZ:=(fY.cell BY).trans HS.out.2.2.1
   have C2:=ed (is_same a0 w1)
   have HB:=ed fY;clear fP fY
   go_wp2_with fail
   (with_reducible refine C2.out.mono ?_)
   rintro en w2 ⟨rfl,rfl⟩
   go_wp2_with fail
   go_ret
   exact ⟨_,rfl,HB.out,fun _=>rfl,fun b h=>by have h0:r=none:=HS.out.2.2.2.1 (by simp);rw [h0] at h;simp at h⟩
 | some x =>
   have C:=ed (CT.2 x rfl);clear CT
   go_enter Tryz.func94,Tryz.ntmps94
   go_wp2_with fail
   (with_reducible refine C.out.mono ?_)
   rintro en w1 ⟨vb,rfl,fP,_,mu⟩
   have fY:Below w.heap.size w w1:=HS.out.2.1.trans (fP.toBelow (by rw [zK];omega) fun i hi e=>by have e:i=w.heap.size:=e;omega)
   have rZ:=(fY.cell BY).trans HS.out.2.2.1
   have C2:=ed (is_nil a0 w1)
   have hz:=HS.out.1 x.1 x.2 rfl
   have C3:=ed (fits_any _ w1 x.1 _ mu (by omega))
   have HB:=ed (ef fY mu);clear fP fY mu hz
   go_wp2_with fail
   (with_reducible refine C2.out.mono ?_)
   rintro en w2 ⟨rfl,rfl⟩
   by_cases nF:zW x.1<=200/\kR x.1<=100
   ·rw [decide_eq_true nF] at C3
    have HF:=ed nF;clear nF
    go_wp2_with fail
    (with_reducible refine C3.out.mono ?_)
    rintro en w3 ⟨rfl,fE⟩
    have mp:=ed fE;clear fE
    go_wp2_with fail
    go_ret
    have hr:=(HS.out.2.2.2.2 x rfl).1 HF.out
    refine ⟨_,rfl,zzT HB.out.1 mp.out,fun h=>?_,fun b h=>?_⟩
    ·rw [hr] at h;simp at h
    ·rw [hr] at h
     obtain rfl:=Option.some.inj h
     refine Rep.weak (Rep.below mp.out (fun _ h=>h) HB.out.2) fun i h=>?_
     rcases h with h | h
     ·exact .inl h.1
     ·rw [zK] at h;exact .inr (by omega)
   ·rw [decide_eq_false nF] at C3
    have HF:=ed nF;clear nF
    go_wp2_with fail
    (with_reducible refine C3.out.mono ?_)
    rintro en w3 ⟨rfl,fE⟩
    have mp:=ed fE;clear fE
    go_wp2_with fail
    go_ret
    exact ⟨_,rfl,zzT HB.out.1 mp.out,fun _=>rfl,fun b h=>by rw [(HS.out.2.2.2.2 x rfl).2 HF.out] at h;simp at h⟩
def zq (bs:List Ty) (a:Ty) (n:Bd) (rest:List Ty):List Mn:=opens 0 bs++(.bd a n (opens 0 bs)::opens bs.length rest)
structure AppPre (F:Nat->Prop) (bs rest:List Ty) (a:Ty) (m n:Bd) (mv nv bv rv:Value) (w:World):Prop where
 glob:uh w
 fit:jT (bs++rest) m (zq bs a n rest) []
 a15:zV a<=15
 bl:bs.length<=100
 rl:rest.length<=100
 b15:∀ t∈bs,zV t<=15
 r15:∀ t∈rest,zV t<=15
 rm:Rep F w (qZ m) mv
 rn:Rep F w (qZ n) nv
 rb:Rep F w (.sl 33 1 bs.length (jN bs)) bv
 rr:Rep F w (.sl 33 1 rest.length (jN rest)) rv
set_option maxRecDepth 100000 in
theorem apply_any (F:Nat->Prop) (bs rest:List Ty) (a:Ty) (m n:Bd) (mv nv bv rv:Value) (w:World) (h:AppPre F bs rest a m n mv nv bv rv w) :
 Calls Tryz.prog 76 #[mv,nv,bv,rv] w (qD F w (jp m (zq bs a n rest) (bs.length+rest.length))):=by
 obtain ⟨mb,rfl⟩:=zi h.rm
 obtain ⟨nb,rfl⟩:=zi h.rn
 obtain ⟨_,ba,bc,rfl,_⟩:=zp.1 h.rb
 obtain ⟨_,ra,rc,rfl,_⟩:=zp.1 h.rr
 have hbl:=h.bl
 have EC:=h.rl
 have C1:Calls Tryz.prog 93 #[.int .i64 0,.slice ba bs.length bc] w (FreshV w 156 4 bs.length fun w' xs=>zX F w' (qz (opens 0 bs)) xs):=cX F 0 bs _ w h.rb (by omega) (by omega)
 have C1:=ed C1
 have HP:=ed h;clear h
 go_enter Tryz.func76,Tryz.ntmps76
 go_wp2_with fail
 (with_reducible refine C1.out.mono ?_)
 rintro en w1 ⟨a1,c1,io,rfl,GY,mu,fP,JF⟩
 have rV:=GY.src (vP _ _ mu)
 have H1:=ed (ef GY (ef mu (ef fP (ef JF rV))));clear GY mu fP JF rV C1
 go_wp2_with (at_builtin;refine zD rfl _ _ 153 rfl 156 (.agg #[.int .i64 0,.pointer none,.pointer none,.slice none 0 0]) 4 48 Tryz.underlying153 Tryz.infoMn rfl (by decide) (.slice none 0 0) 0 [] rfl ?a1 _ bs.length io rfl ?a2 ?a3 ?a4 ?_)
 case a1=>exact World.ownsRow_nil _ _ _ _
 case a2=>exact H1.out.2.2.2.2
 case a3=>unfold maxLen;omega
 case a4=>omega
 intro a2 c2 w2 ho2 fY G6
 have JO:Below w1.heap.size w1 w2:=fY.toBelow (ei _) (fun i _ e=>by simp [Value.ownBlock] at e)
 have hf2:∀ g,(Value.slice a2 bs.length c2).ownBlock=some g->w1.heap.size<=g:=fun g hg=>by
  rcases G6 g hg with h | h
  ·simp [Value.ownBlock] at h
  ·omega
 have H2:=ed (ef ho2 (ef JO hf2));clear ho2 fY G6 JO hf2
 go_wp2_with (at_builtin;refine zD rfl _ _ 153 rfl 156 (.agg #[.int .i64 0,.pointer none,.pointer none,.slice none 0 0]) 4 48 Tryz.underlying153 Tryz.infoMn rfl (by decide) (.slice a2 bs.length c2) bs.length io rfl ?b1 _ 1 [.int .i64 0,.pointer none,.pointer (some ⟨nb,0,none⟩),.slice a1 bs.length c1] rfl ?b2 ?b3 ?b4 ?_)
 case b1=>exact H2.out.1.alloc _
 case b2=>exact zO.lit1 #[.int .i64 0,.pointer none,.pointer (some ⟨nb,0,none⟩),.slice a1 bs.length c1] rfl (by simp [Value.oneCell']) _ (by simp)
 case b3=>unfold maxLen;omega
 case b4=>omega
 intro a3 c3 w3 ho3 fE G5
 have nJ:=H2.out.2.1.size
 have aO:=H1.out.2.2.1.size
 have Gc:Below w1.heap.size w1 w3:=(H2.out.2.1.alloc nJ _).trans (fE.toBelow (by rw [zK];omega) fun i hi e=>by have:=H2.out.2.2 i e;omega)
 have hf3:∀ g,(Value.slice a3 (bs.length+1) c3).ownBlock=some g->w1.heap.size<=g:=fun g hg=>by
  rcases G5 g hg with h | h
  ·exact H2.out.2.2 g h
  ·omega
 have Gh:Below w.heap.size w w3:=H1.out.2.2.1.trans (Gc.mono aO)
 have C4:=ed (cX (fun i=>F i/\i<w.heap.size) bs.length rest _ w3 (Rep.below Gh (fun _ h=>h) (Rep.low HP.out.rr)) (by omega) (by omega))
 have H3:=ed (ef ho3 (ef Gc (ef hf3 Gh)));clear ho3 fE G5 Gc hf3 Gh
 go_wp2_with fail
 (with_reducible refine C4.out.mono ?_)
 rintro en w4 ⟨a4,c4,xs4,rfl,ho4,im,fx,hf4⟩
 clear C4
 have rX:=ho4.src (vP _ _ im)
 have I0:Own w4 156 4 (.slice a3 (bs.length+1) c3) (bs.length+1) (io++[.int .i64 0,.pointer none,.pointer (some ⟨nb,0,none⟩),.slice a1 bs.length c1]):=H3.out.1.keep fun g o hg hh=>by rw [fx.block g (zZ hh)];exact hh
 have H4:=ed (ef I0 (ef rX (ef im (ef fx hf4))));clear I0 rX im fx hf4 ho4
 go_wp2_with (at_builtin;refine zD rfl _ _ 153 rfl 156 (.agg #[.int .i64 0,.pointer none,.pointer none,.slice none 0 0]) 4 48 Tryz.underlying153 Tryz.infoMn rfl (by decide) (.slice a3 (bs.length+1) c3) (bs.length+1) (io++[.int .i64 0,.pointer none,.pointer (some ⟨nb,0,none⟩),.slice a1 bs.length c1]) rfl ?d1 _ rest.length xs4 rfl ?d2 ?d3 ?d4 ?_)
 case d1=>exact H4.out.1
 case d2=>exact H4.out.2.1
 case d3=>unfold maxLen;omega
 case d4=>omega
 intro a5 c5 w5 sM fv sN
 have sX:=H3.out.2.1.size
 have hz4:=H4.out.2.2.2.1.size
 have DZ:Below w1.heap.size w1 w5:=(H3.out.2.1.trans (H4.out.2.2.2.1.mono sX)).trans (fv.toBelow (by omega) fun i hi e=>by have:=H3.out.2.2.1 i e;omega)
 have hf5:∀ g,(Value.slice a5 (bs.length+1+rest.length) c5).ownBlock=some g->w1.heap.size<=g:=fun g hg=>by
  rcases sN g hg with h | h
  ·exact H3.out.2.2.1 g h
  ·omega
 have lH:Below w.heap.size w w5:=H1.out.2.2.1.trans (DZ.mono aO)
 have hlen:(zq bs a n rest).length=bs.length+1+rest.length:=by unfold zq;simp [kL];omega
 have BK:Rep (fun i=>F i\/w.heap.size<=i) w5 (.sl 156 4 (zq bs a n rest).length (qz (zq bs a n rest))) (.slice a5 (bs.length+1+rest.length) c5):=by
  rw [hlen]
  refine sM.rep (fun g hg=>.inr (by have:=hf5 g hg;omega)) ?_
  have e:qz (zq bs a n rest)=qz (opens 0 bs)++(bk (.bd a n (opens 0 bs))++qz (opens bs.length rest)):=by unfold zq;rw [vg,qz]
  rw [e]
  have k1:∀ {ds:List DV} {us:List Value},zX F w1 ds us->zX (fun i=>F i\/w.heap.size<=i) w5 ds us:=fun h=>(Rep.keep fun b o hf hh=>⟨.inl hf,by rw [DZ.block b (zZ hh)];exact hh⟩).2 _ _ h
  refine zX.append (k1 H1.out.2.1) (zX.append (vs:=[.int .i64 0,.pointer none,.pointer (some ⟨nb,0,none⟩),.slice a1 bs.length c1]) (us:=xs4) ?_ ?_)
  ·rw [bk]
   have r1:Rep (fun i=>F i\/w.heap.size<=i) w5 (qZ n) (.pointer (some ⟨nb,0,none⟩)):=(Rep.below lH (fun _ h=>h) HP.out.rn).weak fun i h=>.inl h
   have r2:Rep (fun i=>F i\/w.heap.size<=i) w5 (.sl 156 4 (opens 0 bs).length (qz (opens 0 bs))) (.slice a1 bs.length c1):=by
    rw [kL]
    refine (H1.out.1.keep fun g o hg hh=>?_).rep (fun g hg=>.inr (H1.out.2.2.2.1 g hg)) (k1 H1.out.2.1)
    rw [DZ.block g (zZ hh)];exact hh
   exact zQ.2 ⟨_,_,rfl,zH.2 rfl,zQ.2 ⟨_,_,rfl,zH.2 rfl,zQ.2 ⟨_,_,rfl,r1,zQ.2 ⟨_,_,rfl,r2,zC.2 rfl⟩⟩⟩⟩
  ·refine (Rep.keep fun b o hf hh=>⟨.inl hf.1,?_⟩).2 _ _ H4.out.2.2.1
   have fG:=hf.2
   rw [fv.block b (zZ hh) (fun e=>by have:=H3.out.2.2.1 b e;omega)];exact hh
 have hE:BecPre (fun i=>F i\/w.heap.size<=i) (bs.length+rest.length) (bs++rest) m (zq bs a n rest) (.pointer (some ⟨mb,0,none⟩)) (.slice a5 (bs.length+1+rest.length) c5) w5 :=
  { glob:=HP.out.glob.below lH,fit:=HP.out.fit,hn:=List.length_append ..,nl:=by omega,el:=by omega,
    ok:=jD _ _ (jU _ _ HP.out.b15 (by omega)) ⟨⟨HP.out.a15,by rw [kL];omega,jU _ _ HP.out.b15 (by omega)⟩,jU _ _ HP.out.r15 (by omega)⟩,
    rb:=(Rep.below lH (fun _ h=>h) HP.out.rm).weak fun i h=>.inl h,re:=BK }
 have C6:=become_any _ _ _ _ _ _ _ w5 hE
 rw [Int.natCast_add] at C6
 generalize jp m (zq bs a n rest) (bs.length+rest.length)=r at *
 have C6:=ed C6
 have HB:=ed lH;clear BK hE hlen lH DZ hf5 sM fv sN
 go_wp2_with fail
 (with_reducible refine C6.out.mono ?_)
 rintro en w6 ⟨v,rfl,fC,aS,aF⟩
 have H6:=ed (ef fC (ef aS aF));clear fC aS aF
 go_wp2_with fail
 go_ret
 refine ⟨v,rfl,zzT HB.out H6.out.1,H6.out.2.1,fun b h=>(H6.out.2.2 b h).weak fun i h=>?_⟩
 have hz:=HB.out.size
 rcases h with (h | h) | h
 ·exact .inl h
 ·exact .inr h
 ·exact .inr (by omega)
theorem wH {F:Nat->Prop} {w:World} {e:TypeId} {n b o cap:Nat} {d:DV} {ds:List DV} (h:Rep F w (.sl e 1 (n+1) (d::ds)) (.slice (some ⟨b,o,none⟩) (n+1) cap)) :
 Rep F w (.sl e 1 n ds) (.slice (some ⟨b,o+1,none⟩) n (cap-1)):=by
 rw [zp] at h ⊢
 obtain ⟨hl,a,c,e1,hn,hz,h⟩:=h
 simp only [Value.slice.injEq] at e1
 obtain ⟨rfl,_,rfl⟩:=e1
 refine ⟨by simpa using hl,_,_,rfl,by omega,fun h=>by simp at h,.inr ?_⟩
 rcases h with h0 | ⟨b',o',cs,fr,e2,hb,hcs,hr⟩
 ·omega
 simp only [Option.some.injEq,Addr.mk.injEq,and_true] at e2
 obtain ⟨rfl,rfl⟩:=e2
 refine ⟨_,_,cs,fr,rfl,hb,hcs,?_⟩
 have h2:=hr
 rw [zQ] at h2
 obtain ⟨v,vs,e3,_,h4⟩:=h2
 have:vs=List.take (n*1) (List.drop (o+1) cs.toList):=by
  have h5:=congrArg (List.drop 1) e3
  rw [List.drop_take,List.drop_drop] at h5
  simpa using h5.symm
 rw [<- this];exact h4
end Go.Proofs.YtjggkhmojjaomaaGreatDoor

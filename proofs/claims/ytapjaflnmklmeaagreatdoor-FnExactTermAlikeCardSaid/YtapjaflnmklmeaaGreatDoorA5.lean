import Derived.Test.YtapjaflnmklmeaaGreatDoorP14
import Derived.Test.YtapjaflnmklmeaaGreatDoorW15
import Derived.LaidEql
import Derived.Stop.Asserts
import Derived.RowKitTokens
import Derived.Test.YtapjaflnmklmeaaGreatDoorP17
/- What stands for a level where strategies are applied, in memory: impl's; the walk of opens. -/
namespace Go.Proofs.YtapjaflnmklmeaaGreatDoor
open Go.RowKit
mutual
def encM:Mn→List DV
 | .op o t=>[.val (.int .i64 (o:Nat)),encK t,.val (.pointer none),.val (.slice none 0 0)]
 | .bd _ b e=>[.val (.int .i64 0),.val (.pointer none),encB b,.sl 145 4 e.length (encMs e)]
def encMs:List Mn→List DV
 | []=>[]
 | m::ms=>encM m++encMs ms
end
theorem encM_length (m:Mn):(encM m).length=4:=by cases m <;> simp [encM]
theorem encMs_length:∀ ms:List Mn,(encMs ms).length=ms.length*4
 | []=>by simp [encMs]
 | m::ms=>by rw [encMs,List.length_append,encM_length,encMs_length ms];simp;omega
theorem encMs_append:∀ (xs ys:List Mn),encMs (xs++ys)=encMs xs++encMs ys
 | [],ys=>by simp [encMs]
 | x::xs,ys=>by simp [encMs,encMs_append xs ys]
theorem encMs_one (m:Mn):encMs [m]=encM m:=by simp [encMs]
theorem SrcSl.lit1 {w:World} {e:TypeId} {sz:Nat} (cs:Array Value) (hn:cs.size=sz) (hc:∀ u∈cs.toList,u.oneCell'=true) (g:Nat) (hg:g=w.heap.size):SrcSl sz (.slice (some ⟨g,0,none⟩) 1 1) 1 cs.toList (w.alloc (.cells cs e)):=by
 subst hg
 refine ⟨by simp [hn],hc,.inl ⟨_,_,rfl,fun j u hu=>?_⟩⟩
 unfold Addr.add
 split
 ·subst j;simp;simpa using hu
 ·simp;simpa using hu
theorem Tryz.infoMn:(Tryz.prog.info? 145).map (fun i=>(i.zero,i.size,i.bytes))=some (some (.agg #[.int .i64 0,.pointer none,.pointer none,.slice none 0 0]),4,48):=by kernel_rfl
def FreshV (w:World) (e:TypeId) (sz n:Nat) (P:World→List Value→Prop) (en:Ending) (w':World):Prop :=
 ∃ a c xs,en=.returned (.slice a n c)∧Own w' e sz (.slice a n c) n xs∧P w' xs∧Below w.heap.size w w'∧∀ g,(Value.slice a n c).ownBlock=some g→w.heap.size≤g
theorem opens_snoc:∀ (ts:List Ty) (n:Nat) (t:Ty),opens n (ts++[t])=opens n ts++[.op (n+ts.length) t]
 | [],n,t=>by simp [opens]
 | a::ts,n,t=>by rw [List.cons_append,opens,opens,opens_snoc ts (n+1) t,List.cons_append,List.length_cons,show n+1+ts.length=n+(ts.length+1) from by omega]
theorem opens_take {ts:List Ty} {n k:Nat} {t:Ty} (h:ts[k]? = some t):opens n (ts.take (k+1))=opens n (ts.take k)++[.op (n+k) t]:=by
 have hk:=(List.getElem?_eq_some_iff.1 h).1
 rw [List.take_add_one,h]
 simp only [Option.toList_some]
 rw [opens_snoc,List.length_take,Nat.min_eq_left (by omega)]
theorem encK_ptr' {F:Nat→Prop} {w:World} {t:Ty} {v:Value} (h:Rep F w (encK t) v):∃ b,v=.pointer (some ⟨b,0,none⟩):=by
 cases t with
 | mk ts=>rw [encK,Rep_ptr] at h;obtain ⟨b,c,h,_⟩:=h;exact ⟨b,h⟩
set_option maxRecDepth 100000 in
set_option maxHeartbeats 2000000 in
theorem opens_any (F:Nat→Prop) (n:Nat) (ts:List Ty) (kv:Value) (w:World) (h:Rep F w (.sl 43 1 ts.length (encKs ts)) kv) (hl:ts.length≤1000) (hn:n≤1000000) :
 Calls Tryz.prog 85 #[.int .i64 (n:Nat),kv] w (FreshV w 145 4 ts.length fun w' xs=>Reps F w' (encMs (opens n ts)) xs):=by
 obtain ⟨ka,kc,e,_,_,hat⟩:=Rep_sl1_open h
 subst e
 have H:=Lib.hid hat;clear hat h
 go_enter Tryz.func85,Tryz.ntmps85
 go_wp2_with fail
 go_loopw [5,10] (fun o i wr=>∃ k:Nat,k≤ts.length∧i=.int .i64 k∧∃ a c xs,o=.slice a k c∧Own wr 145 4 (.slice a k c) k xs∧Reps (fun i=>F i∧i<w.heap.size) wr (encMs (opens n (ts.take k))) xs∧Below w.heap.size w wr∧(∀ g,(Value.slice a k c).ownBlock=some g→w.heap.size≤g)) (fun _ i _=>ts.length-(intOf i).toNat)
 case atStart=>exact ⟨0,Nat.zero_le _,rfl,none,0,[],rfl,World.ownsRow_nil _ _ _ _,by simp [opens,encMs,Reps_nil],Below.refl _ _,fun g h=>by simp [Value.ownBlock] at h⟩
 case round =>
  obtain ⟨k,hk,rfl,a,c,xs,rfl,ho,hr,hb,hf⟩:=hrel
  have HO:=Lib.hid ho;have HF:=Lib.hid hf;have HB:=Lib.hid hb;have HR:=Lib.hid hr
  clear ho hf hb hr
  by_cases hlt:k<ts.length
  ·have hlt':(k:Int)<(ts.length:Int):=by omega
   obtain ⟨b,o,u,d,e,_,hbw,hd,hc,hru⟩:=H.out k hlt
   subst e
   rw [encKs_at,Option.map_eq_some_iff] at hd
   obtain ⟨t,ht,rfl⟩:=hd
   obtain ⟨ub,rfl⟩:=encK_ptr' hru
   have q0:=(HB.out.cell (p:=⟨b,o+k,none⟩) hbw).trans hc
   have HT:=Lib.hid (And.intro ht hru);clear ht hru hc
   have hsum:IntKind.i64.wrap ((n:Int)+(k:Int))=(n:Int)+(k:Int):=IntWalk.i64_in _ (by omega)
   clear hsum
   go_wp2_with (at_builtin;refine wpList_append_gen rfl _ _ 142 rfl 145 (.agg #[.int .i64 0,.pointer none,.pointer none,.slice none 0 0]) 4 48 Tryz.underlying142 Tryz.infoMn rfl (by decide) (.slice a k c) k xs rfl ?c1 _ 1 [.int .i64 ((n:Int)+(k:Int)),.pointer (some ⟨ub,0,none⟩),.pointer none,.slice none 0 0] rfl ?c2 ?c3 ?c4 ?_)
   case c1=>exact HO.out.alloc _
   case c2=>exact SrcSl.lit1 #[.int .i64 ((n:Int)+(k:Int)),.pointer (some ⟨ub,0,none⟩),.pointer none,.slice none 0 0] rfl (by simp [Value.oneCell']) _ (by simp)
   case c3=>unfold maxLen;omega
   case c4=>omega
   intro a' c' w7 ho7 hb7 hg7
   have hb17:Below w.heap.size w w7:=by
    have h1:=HB.out
    refine (h1.alloc h1.size _).trans (hb7.toBelow (by rw [size_alloc];have:=h1.size;omega) fun i hi e=>?_)
    have:=HF.out i e;omega
   have hf7:∀ g,(Value.slice a' (k+1) c').ownBlock=some g→w.heap.size≤g:=by
    intro g h
    rcases hg7 g h with h | h
    ·exact HF.out g h
    ·have h2:=HB.out.size
     omega
   have hr7:Reps (fun i=>F i∧i<w.heap.size) w7 (encMs (opens n (ts.take (k+1)))) (xs++[.int .i64 ((n:Int)+(k:Int)),.pointer (some ⟨ub,0,none⟩),.pointer none,.slice none 0 0]):=by
    rw [opens_take HT.out.1,encMs_append,encMs_one]
    refine Reps.append ?_ ?_
    ·exact (Rep.keep fun b o hf ho=>⟨hf,by rw [hb17.block b hf.2,← HB.out.block b hf.2];exact ho⟩).2 _ _ HR.out
    ·rw [encM]
     refine Reps_cons.2 ⟨_,_,rfl,Rep_val.2 (by rw [Int.natCast_add]),Reps_cons.2 ⟨_,_,rfl,(Rep.keep fun b o hf ho=>⟨⟨hf,lt_of_heap ho⟩,by rw [hb17.block b (lt_of_heap ho)];exact ho⟩).1 _ _ HT.out.2,Reps_cons.2 ⟨_,_,rfl,Rep_val.2 rfl,Reps_cons.2 ⟨_,_,rfl,Rep_val.2 rfl,Reps_nil.2 rfl⟩⟩⟩⟩
   have HA:=Lib.hid (And.intro ho7 (And.intro hr7 (And.intro hb17 hf7)));clear ho7 hr7 hb17 hf7 hb7 hg7
   go_wp2_with fail
   go_roundw
   case rel=>exact ⟨k+1,by omega,by go_num,a',c',_,rfl,HA.out.1,HA.out.2.1,HA.out.2.2.1,HA.out.2.2.2⟩
   case measure=>simp [intOf];omega
  ·obtain rfl:k=ts.length:=by omega
   go_wp2_with fail
   go_ret
   have h0:=HR.out
   rw [List.take_length] at h0
   exact ⟨a,c,xs,rfl,HO.out,(Rep.keep fun b o hf ho=>⟨hf.1,ho⟩).2 _ _ h0,HB.out,HF.out⟩
end Go.Proofs.YtapjaflnmklmeaaGreatDoor
namespace Go.Proofs.YtapjaflnmklmeaaGreatDoor
open Go.RowKit Go.Extern.Stop Go.Stop Go.Extern Go.Extern.Rtype
theorem Tryz.isTypeOf (v:Value) (w:World):(Extern.ReflectliteType.typeOf #[.iface 200 v]).run Tryz.prog w=.ok (.iface 188 (.agg #[.pointer (some ⟨5,200,none⟩)])) w:=by kernel_rfl
theorem Tryz.callCmp (w:World):Sem.run Tryz.prog (callFunc 137 #[.agg #[.pointer (some ⟨5,200,none⟩)]]) w=.ok (.value (.bool true)) w:=by
 rw [@run_callFunc_extern Tryz.prog 137 _ (Extern.ReflectliteType.method fun t=>do noPackHeld "Comparable" t;pure (.bool (← typeInfo t).comparable)) Tryz.func137 (by kernel_rfl) (by kernel_rfl) (by kernel_rfl) (by kernel_rfl)]
 have h:((Extern.ReflectliteType.method fun t=>do noPackHeld "Comparable" t;pure (.bool (← typeInfo t).comparable)) #[.agg #[.pointer (some ⟨5,200,none⟩)]]).run Tryz.prog w=.ok (.bool true) w:=by kernel_rfl
 rw [h];rfl
theorem Tryz.isMethodComparable (v:Value) (w:World):(Go.method 333 188 v "Comparable").run Tryz.prog w=.ok (137,v) w:=by kernel_rfl
theorem Tryz.isComp:(Tryz.prog.info? 200).map (·.comparable)=some true:=by kernel_rfl
theorem Tryz.isSize:(Tryz.prog.info? 222).map (·.size)=some 1:=by kernel_rfl
theorem is_nil (b:Addr) (w:World):Calls Tryz.prog 99 #[.nilIface,.iface 200 (.pointer (some b))] w fun e w'=>e=.returned (.bool false)∧w'=w:=by
 have hn:=run_eql_iface_nil_left (P:=Tryz.prog) w 200 (.pointer (some b)) Tryz.underlying117
 go_enter Tryz.func99,Tryz.ntmps99
 go_wp2
 go_ret
 exact ⟨rfl,rfl⟩
set_option maxRecDepth 100000 in
theorem is_same (a:Addr) (w:World) :
 Calls Tryz.prog 99 #[.iface 200 (.pointer (some a)),.iface 200 (.pointer (some a))] w fun e w'=>e=.returned (.bool true)∧w'=w:=by
 obtain ⟨i,hi,hcmp⟩:=Option.map_eq_some_iff.1 Tryz.isComp
 obtain ⟨j,hj,hjs⟩:=Option.map_eq_some_iff.1 Tryz.isSize
 have h8:=@run_callFunc_extern Tryz.prog 112 _ Extern.ReflectliteType.typeOf Tryz.func112 (by kernel_rfl) (by kernel_rfl) (by kernel_rfl) (by kernel_rfl)
 have tT:=Tryz.isTypeOf
 have cT:=Tryz.callCmp
 have mR:=Tryz.isMethodComparable
 have heq:=run_eql_iface_ptr_same (P:=Tryz.prog) w a Tryz.underlying117 Tryz.underlying200 hi hcmp hj
 clear hi hcmp hj hjs
 go_enter Tryz.func99,Tryz.ntmps99
 go_wp2
 refine wp_loop_rounds 1 ?_
 rw [rounds_succ]
 go_wp2
 go_ret
 exact ⟨rfl,rfl⟩
end Go.Proofs.YtapjaflnmklmeaaGreatDoor
namespace Go.Proofs.YtapjaflnmklmeaaGreatDoor
open Go.RowKit
def GlobE (w:World):Prop:=∃ a,w.cell? ⟨0,0,none⟩=some (.iface 200 (.pointer (some a)))
theorem GlobE.but {m:Nat→Prop} {w w':World} (h:GlobE w) (hb:But m w w') (hm:¬ m 0):GlobE w':=by
 obtain ⟨a,h⟩:=h
 exact ⟨a,(hb.cell (World.block_lt_of_cell? w _ h) hm).trans h⟩
theorem GlobE.below {w w':World} (h:GlobE w) (hb:Below w.heap.size w w'):GlobE w':=h.but (m:=fun _=>False) (But.ofBelow hb) (fun h=>h)
def Apl (w:World) (aa l:Nat):Prop:=w.heap[aa]? = some (.cells #[.int .i64 (l:Nat)] 165 (0,0))
theorem Apl.cell {w:World} {aa l:Nat} (h:Apl w aa l):w.cell? ⟨aa,0,none⟩=some (.int .i64 (l:Nat))∧w.frozen? ⟨aa,0,none⟩=false∧aa<w.heap.size:=by
 unfold Apl at h
 exact ⟨by simp [World.cell?,h],by simp [World.frozen?,h],lt_of_heap h⟩
theorem Apl.below {w w':World} {aa l:Nat} (h:Apl w aa l) (hb:Below w.heap.size w w'):Apl w' aa l:=by unfold Apl;rw [hb.block aa (lt_of_heap h)];exact h
theorem Rep.low {F:Nat→Prop} {w:World} {d:DV} {v:Value} (h:Rep F w d v):Rep (fun i=>F i∧i<w.heap.size) w d v:=(Rep.keep fun _ _ hf ho=>⟨⟨hf,lt_of_heap ho⟩,ho⟩).1 _ _ h
theorem Reps.low {F:Nat→Prop} {w:World} {d:List DV} {v:List Value} (h:Reps F w d v):Reps (fun i=>F i∧i<w.heap.size) w d v:=(Rep.keep fun _ _ hf ho=>⟨⟨hf,lt_of_heap ho⟩,ho⟩).2 _ _ h
theorem Rep.weak {F G:Nat→Prop} {w:World} {d:DV} {v:Value} (h:Rep F w d v) (k:∀ i,F i→G i):Rep G w d v:=(Rep.keep fun _ _ hf ho=>⟨k _ hf,ho⟩).1 _ _ h
def OnRep (F:Nat→Prop) (w:World) (aa n:Nat):List Gf→Value→Prop
 | [],v=>v=.nilFunc
 | f :: st,v=>∃ (b1 b2 b3 b4 b5:Nat) (bp ev on:Value) (vv:Nat) (ss:List Bd),v=.func (.func 110) #[] #[.pointer (some ⟨b1,0,none⟩),.pointer (some ⟨b2,0,none⟩),.pointer (some ⟨b3,0,none⟩),.pointer (some ⟨b4,0,none⟩),.pointer (some ⟨b5,0,none⟩)] ∧
     (F b1∧F b2∧F b3∧F b4∧F b5)∧w.cell? ⟨b1,0,none⟩=some bp∧Rep F w (encB (.ask vv ss f.yes f.no)) bp∧w.cell? ⟨b2,0,none⟩=some (.pointer (some ⟨aa,0,none⟩))∧w.cell? ⟨b3,0,none⟩=some ev∧Rep F w (.sl 145 4 f.env.length (encMs f.env)) ev∧w.cell? ⟨b4,0,none⟩=some (.int .i64 (n:Nat))∧w.cell? ⟨b5,0,none⟩=some on∧OnRep F w aa n st on
theorem OnRep.but {F G:Nat→Prop} {w w':World} {aa n:Nat} {m:Nat→Prop} (hb:But m w w') (hF:∀ i,F i→¬ m i∧G i):∀ (st:List Gf) (v:Value),OnRep F w aa n st v→OnRep G w' aa n st v
 | [],v,h=>h
 | f::st,v,h=>by
   obtain ⟨b1,b2,b3,b4,b5,bp,ev,on,vv,ss,e,⟨n1,n2,n3,n4,n5⟩,c1,r1,c2,c3,r3,c4,c5,r5⟩:=h
   have k:∀ {b:Nat} {u:Value},F b→w.cell? ⟨b,0,none⟩=some u→w'.cell? ⟨b,0,none⟩=some u:=fun hn hc=>(hb.cell (World.block_lt_of_cell? w _ hc) (hF _ hn).1).trans hc
   exact ⟨b1,b2,b3,b4,b5,bp,ev,on,vv,ss,e,⟨(hF _ n1).2,(hF _ n2).2,(hF _ n3).2,(hF _ n4).2,(hF _ n5).2⟩,k n1 c1,r1.but hb hF,k n2 c2,k n3 c3,r3.but hb hF,k n4 c4,k n5 c5,OnRep.but hb hF st on r5⟩
theorem OnRep.low {F:Nat→Prop} {w:World} {aa n:Nat}:∀ (st:List Gf) (v:Value),OnRep F w aa n st v→OnRep (fun i=>F i∧i<w.heap.size) w aa n st v
 | [],v,h=>h
 | f::st,v,h=>by
   obtain ⟨b1,b2,b3,b4,b5,bp,ev,on,vv,ss,e,⟨n1,n2,n3,n4,n5⟩,c1,r1,c2,c3,r3,c4,c5,r5⟩:=h
   have lt:∀ {b:Nat} {u:Value},w.cell? ⟨b,0,none⟩=some u→b<w.heap.size:=fun hc=>World.block_lt_of_cell? w _ hc
   exact ⟨b1,b2,b3,b4,b5,bp,ev,on,vv,ss,e,⟨⟨n1,lt c1⟩,⟨n2,lt c2⟩,⟨n3,lt c3⟩,⟨n4,lt c4⟩,⟨n5,lt c5⟩⟩,c1,Rep.low r1,c2,c3,Rep.low r3,c4,c5,OnRep.low st on r5⟩
mutual
def okM (B:Nat):Mn→Prop
 | .op o t=>atomsT t≤15∧o≤B
 | .bd t _ e=>atomsT t≤15∧e.length≤B∧okMs B e
def okMs (B:Nat):List Mn→Prop
 | []=>True
 | m::ms=>okM B m∧okMs B ms
end
mutual
theorem okM_mono {B C:Nat} (h:B≤C):∀ m,okM B m→okM C m
 | .op o t,k=>by rw [okM] at *;exact ⟨k.1,by omega⟩
 | .bd t b e,k=>by rw [okM] at *;exact ⟨k.1,by omega,okMs_mono h e k.2.2⟩
theorem okMs_mono {B C:Nat} (h:B≤C):∀ ms,okMs B ms→okMs C ms
 | [],_=>by rw [okMs];trivial
 | m::ms,k=>by rw [okMs] at *;exact ⟨okM_mono h m k.1,okMs_mono h ms k.2⟩
end
theorem okMs_append {B:Nat}:∀ (a b:List Mn),okMs B a→okMs B b→okMs B (a++b)
 | [],b,_,h=>h
 | x::a,b,h,k=>by rw [okMs] at h;exact ⟨h.1,okMs_append a b h.2 k⟩
theorem okMs_at {B:Nat}:∀ (a:List Mn),okMs B a→∀ (k:Nat) (m:Mn),a[k]? = some m→okM B m
 | [],_,k,m,h=>by simp at h
 | x::a,hs,k,m,h=>by
   rw [okMs] at hs
   cases k with
   | zero=>simp at h;subst h;exact hs.1
   | succ k=>exact okMs_at a hs.2 k m (by simpa using h)
theorem okMs_opens {B:Nat}:∀ (ts:List Ty) (n:Nat),(∀ t∈ts,atomsT t≤15)→n+ts.length≤B+1→okMs B (opens n ts)
 | [],n,_,_=>by rw [opens];trivial
 | t::ts,n,h,hn=>by
   simp only [List.length_cons] at hn
   rw [opens,okMs];exact ⟨by rw [okM];exact ⟨h t (by simp),by omega⟩,okMs_opens ts (n+1) (fun x hx=>h x (by simp [hx])) (by omega)⟩
theorem okMs_owns {B:Nat} {env:List Mn} (he:okMs B env) (hl:env.length≤B):∀ (ts:List Ty) (ss:List Bd),(∀ t∈ts,atomsT t≤15)→okMs B (owns env ts ss)
 | [],ss,_=>by
   rw [owns]
   ·trivial
   ·intros;contradiction
 | t::ts,[],_=>by
   rw [owns]
   ·trivial
   ·intros;contradiction
 | t::ts,s::ss,h=>by rw [owns,okMs];exact ⟨by rw [okM];exact ⟨h t (by simp),hl,he⟩,okMs_owns he hl ts ss (fun x hx=>h x (by simp [hx]))⟩
def okGs (B:Nat):List Gf→Prop
 | []=>True
 | f::fs=>f.env.length≤B∧okMs B f.env∧okGs B fs
theorem okGs_mono {B C:Nat} (h:B≤C):∀ fs,okGs B fs→okGs C fs
 | [],_=>trivial
 | f::fs,k=>⟨by have:=k.1;omega,okMs_mono h _ k.2.1,okGs_mono h fs k.2.2⟩
theorem args_atoms {t:Ty} (h:atomsT t≤15):(∀ a∈t.args,atomsT a≤15)∧t.args.length≤15:=by
 have hm:=atomsT_mk t
 constructor
 ·intro a ha
  have key:∀ ts:List Ty,a∈ts→1+atomsT a≤atomsTs ts:=by
   intro ts
   induction ts with
   | nil=>intro h;simp at h
   | cons x xs ih =>
     intro h
     rcases List.mem_cons.1 h with rfl | h
     ·simp only [atomsTs];omega
     ·have:=ih h;simp only [atomsTs];omega
  have:=key _ ha;omega
 ·have:=length_le_atomsTs t.args;omega
def EvalPost (F:Nat→Prop) (aa:Nat) (o:Option (Bd×Nat)) (w:World) (en:Ending) (w':World):Prop :=
 But (· = aa) w w'∧(o=none→∃ a,en=.returned (.tuple #[.pointer none,.iface 200 (.pointer (some a))])∧w.cell? ⟨0,0,none⟩=some (.iface 200 (.pointer (some a)))) ∧
  (∀ out l,o=some (out,l)→∃ v,en=.returned (.tuple #[v,.nilIface])∧Apl w' aa l∧Rep (fun i=>F i∨w.heap.size≤i) w' (encB out) v)
theorem EvalPost.none {F:Nat→Prop} {aa:Nat} {o:Option (Bd×Nat)} {w w':World} {a:Addr} (ho:o=.none) (hb:But (· = aa) w w') (hc:w.cell? ⟨0,0,none⟩=some (.iface 200 (.pointer (some a)))) :
 EvalPost F aa o w (.returned (.tuple #[.pointer none,.iface 200 (.pointer (some a))])) w' :=
 ⟨hb,fun _=>⟨a,rfl,hc⟩,fun _ _ h=>by rw [ho] at h;simp at h⟩
theorem EvalPost.some {F:Nat→Prop} {aa:Nat} {o:Option (Bd×Nat)} {w w':World} {out:Bd} {l:Nat} {v:Value} (ho:o=.some (out,l)) (hb:But (· = aa) w w') (ha:Apl w' aa l) (hr:Rep (fun i=>F i∨w.heap.size≤i) w' (encB out) v) :
 EvalPost F aa o w (.returned (.tuple #[v,.nilIface])) w' :=
 ⟨hb,fun h=>by rw [ho] at h;simp at h,fun _ _ h=>by rw [ho] at h;simp at h;obtain ⟨rfl,rfl⟩:=h;exact ⟨v,rfl,ha,hr⟩⟩
structure EvalPre (F:Nat→Prop) (aa l d n:Nat) (H:List Ty) (b:Bd) (env:List Mn) (st:List Gf) (bv ev on:Value) (w:World):Prop where
 glob:GlobE w
 hF:∀ i,F i→i≠aa
 ng:aa≠0
 apl:Apl w aa l
 ld:l≤d
 d20:d≤20000
 fit:EvFit H b env st
 hn:H.length=n
 el:env.length+16*d≤1000000
 nl:n+16*d≤1000000
 ok:okMs (1000000-16*d) env
 okg:okGs (1000000-16*d) st
 rb:Rep F w (encB b) bv
 re:Rep F w (.sl 145 4 env.length (encMs env)) ev
 ro:OnRep F w aa n st on
def EvalSaid (d:Nat):Prop:=∀ (F:Nat→Prop) (aa l n:Nat) (H:List Ty) (b:Bd) (env:List Mn) (st:List Gf) (bv ev on:Value) (w:World),EvalPre F aa l d n H b env st bv ev on w →
 Calls Tryz.prog 98 #[.pointer (some ⟨aa,0,none⟩),bv,ev,.int .i64 (n:Nat),on] w (EvalPost F aa (Go.Proofs.YtapjaflnmklmeaaGreatDoor.ev d l b env n st) w)
set_option maxHeartbeats 1000000 in
theorem after_any (d:Nat) (ih:EvalSaid d) (F:Nat→Prop) (aa l n:Nat) (H:List Ty) (f:Gf) (st:List Gf) (b1 b2 b3 b4 b5:Nat) (bp ev on:Value) (vv:Nat) (ss:List Bd) (w:World) (c:UInt8) (hg:GlobE w) (hF:∀ i,F i→i≠aa) (hng:aa≠0) (ha:Apl w aa l) (hld:l≤d) (hd:d≤20000)
 (hf:EvFit H (if c=116 then f.yes else f.no) f.env st) (hn:H.length=n) (hel:f.env.length+16*d≤1000000) (hnl:n+16*d≤1000000) (hok:okMs (1000000-16*d) f.env) (hokg:okGs (1000000-16*d) st)
 (c1:w.cell? ⟨b1,0,none⟩=some bp) (r1:Rep F w (encB (.ask vv ss f.yes f.no)) bp) (c2:w.cell? ⟨b2,0,none⟩=some (.pointer (some ⟨aa,0,none⟩))) (c3:w.cell? ⟨b3,0,none⟩=some ev) (r3:Rep F w (.sl 145 4 f.env.length (encMs f.env)) ev)
 (c4:w.cell? ⟨b4,0,none⟩=some (.int .i64 (n:Nat))) (c5:w.cell? ⟨b5,0,none⟩=some on) (r5:OnRep F w aa n st on) :
 Calls Tryz.prog 110 #[.bool (decide (c=116)),.pointer (some ⟨b1,0,none⟩),.pointer (some ⟨b2,0,none⟩),.pointer (some ⟨b3,0,none⟩),.pointer (some ⟨b4,0,none⟩),.pointer (some ⟨b5,0,none⟩)] w (EvalPost F aa (Go.Proofs.YtapjaflnmklmeaaGreatDoor.ev d l (if c=116 then f.yes else f.no) f.env n st) w):=by
 obtain ⟨bb,sl,yv,nv,rfl,_,hblk,_,ry,rn⟩:=ask_open r1
 have q3:w.cell? ⟨bb,3,none⟩=some yv:=by simp [World.cell?,hblk]
 have q4:w.cell? ⟨bb,4,none⟩=some nv:=by simp [World.cell?,hblk]
 have IH:=Lib.hid ih
 have key:∀ (b:Bd) (bv:Value),EvFit H b f.env st→Rep F w (encB b) bv→Calls Tryz.prog 98 #[.pointer (some ⟨aa,0,none⟩),bv,ev,.int .i64 (n:Nat),on] w (EvalPost F aa (Go.Proofs.YtapjaflnmklmeaaGreatDoor.ev d l b f.env n st) w) :=
  fun b bv hf hr=>IH.out F aa l n H b f.env st bv ev on w ⟨hg,hF,hng,ha,hld,hd,hf,hn,hel,hnl,hok,hokg,hr,r3,r5⟩
 by_cases hc:c=116
 ·rw [if_pos hc] at hf ⊢
  rw [decide_eq_true hc]
  have K0:=key _ _ hf ry
  generalize Go.Proofs.YtapjaflnmklmeaaGreatDoor.ev d l f.yes f.env n st=o at *
  have K:=Lib.hid K0
  clear key K0 hf ry rn r1 r3 r5 hblk IH ih hok hokg hg hF ha hn hc
  go_enter Tryz.func110,Tryz.ntmps110
  go_wp2_with fail
  (with_reducible refine K.out.mono ?_)
  rintro en w1 ⟨hb1,hn1,hy1⟩
  cases o with
  | none =>
    obtain ⟨a,rfl,hc⟩:=hn1 rfl
    have HB:=Lib.hid (And.intro hb1 hc);clear hb1 hn1 hy1 hc
    go_wp2_with fail
    go_ret2
    exact EvalPost.none rfl HB.out.1 HB.out.2
  | some x =>
    obtain ⟨v,rfl,ha,hr⟩:=hy1 x.1 x.2 rfl
    have HB:=Lib.hid (And.intro hb1 (And.intro ha hr));clear hb1 hn1 hy1 ha hr
    go_wp2_with fail
    go_ret2
    exact EvalPost.some rfl HB.out.1 HB.out.2.1 HB.out.2.2
 ·rw [if_neg hc] at hf ⊢
  rw [decide_eq_false hc]
  have K0:=key _ _ hf rn
  generalize Go.Proofs.YtapjaflnmklmeaaGreatDoor.ev d l f.no f.env n st=o at *
  have K:=Lib.hid K0
  clear key K0 hf ry rn r1 r3 r5 hblk IH ih hok hokg hg hF ha hn hc
  go_enter Tryz.func110,Tryz.ntmps110
  go_wp2_with fail
  (with_reducible refine K.out.mono ?_)
  rintro en w1 ⟨hb1,hn1,hy1⟩
  cases o with
  | none =>
    obtain ⟨a,rfl,hc⟩:=hn1 rfl
    have HB:=Lib.hid (And.intro hb1 hc);clear hb1 hn1 hy1 hc
    go_wp2_with fail
    go_ret2
    exact EvalPost.none rfl HB.out.1 HB.out.2
  | some x =>
    obtain ⟨v,rfl,ha,hr⟩:=hy1 x.1 x.2 rfl
    have HB:=Lib.hid (And.intro hb1 (And.intro ha hr));clear hb1 hn1 hy1 ha hr
    go_wp2_with fail
    go_ret2
    exact EvalPost.some rfl HB.out.1 HB.out.2.1 HB.out.2.2
end Go.Proofs.YtapjaflnmklmeaaGreatDoor
namespace Go.Proofs.YtapjaflnmklmeaaGreatDoor
open Go.RowKit
theorem oneCell_encMs {F:Nat→Prop} {w:World}:∀ (ms:List Mn) (us:List Value),Reps F w (encMs ms) us→∀ u∈us,u.oneCell'=true
 | [],us,h,u,hu=>by rw [encMs,Reps_nil] at h;subst h;simp at hu
 | m::ms,us,h,u,hu=>by
   rw [encMs] at h
   obtain ⟨h1,h2⟩:=h.split
   rw [encM_length] at h1 h2
   rw [← List.take_append_drop 4 us] at hu
   rcases List.mem_append.1 hu with hu | hu
   ·cases m with
    | op o t =>
      simp only [encM,Reps_cons,Reps_nil,Rep_val] at h1
      obtain ⟨_,_,e,rfl,kv,_,rfl,hk,_,_,rfl,rfl,_,_,rfl,rfl,rfl⟩:=h1
      rw [e] at hu
      obtain ⟨kb,rfl⟩:=encK_ptr' hk
      simp only [List.mem_cons,List.not_mem_nil,or_false] at hu
      rcases hu with rfl | rfl | rfl | rfl <;> rfl
    | bd t b en =>
      simp only [encM,Reps_cons,Reps_nil,Rep_val] at h1
      obtain ⟨_,_,e,rfl,_,_,rfl,rfl,bv,_,rfl,hk,sv,_,rfl,hs,rfl⟩:=h1
      rw [e] at hu
      obtain ⟨kb,rfl⟩:=encB_ptr hk
      rw [Rep_sl] at hs
      obtain ⟨_,a,c,rfl,_⟩:=hs
      simp only [List.mem_cons,List.not_mem_nil,or_false] at hu
      rcases hu with rfl | rfl | rfl | rfl <;> rfl
   ·exact oneCell_encMs ms _ h2 u hu
theorem mean_at {F:Nat→Prop} {w:World} {env:List Mn} {ev:Value} (h:Rep F w (.sl 145 4 env.length (encMs env)) ev) {v:Nat} {m:Mn} (hc:env[v]? = some m) :
 ∃ b o cap x0 x1 x2 x3,ev=.slice (some ⟨b,o,none⟩) env.length cap∧F b∧b<w.heap.size∧w.cell? ⟨b,o+v*4,none⟩=some x0∧w.cell? ⟨b,o+v*4+1,none⟩=some x1∧w.cell? ⟨b,o+v*4+2,none⟩=some x2∧w.cell? ⟨b,o+v*4+3,none⟩=some x3∧Reps F w (encM m) [x0,x1,x2,x3]:=by
 have hv:=(List.getElem?_eq_some_iff.1 hc).1
 rw [Rep_sl] at h
 obtain ⟨hl,a,cap,rfl,hn,hz,h⟩:=h
 rcases h with h0 | ⟨b,o,cs,fr,rfl,hb,hcs,hr⟩
 ·omega
 have hsplit:encMs env=encMs (env.take v)++(encM m++encMs (env.drop (v+1))):=by
  have e:env=env.take v++m::env.drop (v+1):=by
   have:env[v]=m:=(List.getElem?_eq_some_iff.1 hc).2
   rw [← this,List.getElem_cons_drop,List.take_append_drop]
  conv=>lhs;rw [e]
  rw [encMs_append,encMs]
 rw [hsplit] at hr
 have h2:=hr.split.2
 rw [encMs_length,List.length_take,Nat.min_eq_left (by omega)] at h2
 have h3:=h2.split.1
 rw [encM_length] at h3
 have hlen:=h3.length
 rw [encM_length] at hlen
 obtain ⟨x0,x1,x2,x3,e1⟩:∃ x0 x1 x2 x3,(((cs.toList.drop o).take (env.length*4)).drop (v*4)).take 4=[x0,x1,x2,x3]:=by
  match hq:(((cs.toList.drop o).take (env.length*4)).drop (v*4)).take 4,hlen with
  | [a,b,c,d],_=>exact ⟨a,b,c,d,rfl⟩
 rw [e1] at h3
 have get:∀ (j:Nat) (u':Value),j<4→[x0,x1,x2,x3][j]? = some u'→w.cell? ⟨b,o+v*4+j,none⟩=some u':=by
  intro j u' hj h
  rw [← e1,List.getElem?_take,if_pos hj,List.getElem?_drop,List.getElem?_take,if_pos (by omega),List.getElem?_drop] at h
  simp only [World.cell?,hcs]
  simpa [Nat.add_assoc] using h
 exact ⟨b,o,cap,x0,x1,x2,x3,rfl,hb,lt_of_heap hcs,get 0 _ (by omega) rfl,get 1 _ (by omega) rfl,get 2 _ (by omega) rfl,get 3 _ (by omega) rfl,h3⟩
theorem evSubs_snoc (f:Nat→Bd→List Mn→Nat→List Gf→Option (Bd×Nat)) (env:List Mn) (n:Nat) (t:Ty) (s:Bd):∀ (ts:List Ty) (ss:List Bd) (l:Nat),ts.length=ss.length →
 evSubs f env n l (ts++[t]) (ss++[s])=(evSubs f env n l ts ss).bind fun x=>(f x.2 s (env++opens n t.args) (n+t.args.length) []).bind fun y=>some (x.1++[y.1],y.2)
 | [],[],l,_=>by
   simp only [List.nil_append,evSubs,Option.bind_eq_bind,Option.bind_some]
 | [],s'::ss,l,h=>by simp at h
 | t'::ts,[],l,h=>by simp at h
 | t'::ts,s'::ss,l,h=>by
   simp only [List.cons_append,evSubs,Option.bind_eq_bind]
   cases h1:f l s' (env++opens n t'.args) (n+t'.args.length) [] with
   | none=>rfl
   | some x =>
     simp only [Option.bind_some]
     rw [evSubs_snoc f env n t s ts ss x.2 (by simpa using h)]
     cases h2:evSubs f env n x.2 ts ss with
     | none=>rfl
     | some y =>
       simp only [Option.bind_some]
       cases h3:f y.2 s (env++opens n t.args) (n+t.args.length) [] with
       | none=>rfl
       | some z=>rfl
theorem evSubs_take {f:Nat→Bd→List Mn→Nat→List Gf→Option (Bd×Nat)} {env:List Mn} {n l k:Nat} {ts:List Ty} {ss:List Bd} {t:Ty} {s:Bd} (ht:ts[k]? = some t) (hs:ss[k]? = some s) :
 evSubs f env n l (ts.take (k+1)) (ss.take (k+1))=(evSubs f env n l (ts.take k) (ss.take k)).bind fun x=>(f x.2 s (env++opens n t.args) (n+t.args.length) []).bind fun y=>some (x.1++[y.1],y.2):=by
 have h1:=(List.getElem?_eq_some_iff.1 ht).1
 have h2:=(List.getElem?_eq_some_iff.1 hs).1
 rw [List.take_add_one,List.take_add_one,ht,hs]
 exact evSubs_snoc f env n t s _ _ l (by rw [List.length_take,List.length_take];omega)
theorem evSubs_none {f:Nat→Bd→List Mn→Nat→List Gf→Option (Bd×Nat)} {env:List Mn} {n:Nat}:∀ (k:Nat) (ts:List Ty) (ss:List Bd) (l:Nat),evSubs f env n l (ts.take k) (ss.take k)=none→evSubs f env n l ts ss=none
 | 0,ts,ss,l,h=>by simp [evSubs] at h
 | k+1,[],ss,l,h=>by simp [evSubs] at h
 | k+1,t::ts,[],l,h=>by simp [evSubs] at h
 | k+1,t::ts,s::ss,l,h=>by
   simp only [List.take_succ_cons,evSubs,Option.bind_eq_bind] at h ⊢
   cases h1:f l s (env++opens n t.args) (n+t.args.length) [] with
   | none=>rfl
   | some x =>
     rw [h1] at h
     simp only [Option.bind_some] at h ⊢
     cases h2:evSubs f env n x.2 (ts.take k) (ss.take k) with
     | none=>rw [evSubs_none k ts ss x.2 h2];rfl
     | some y=>rw [h2] at h;simp at h
theorem evSubs_left {d:Nat} (ih:∀ (l:Nat) (b:Bd) (env:List Mn) (n:Nat) (st:List Gf) (r:Bd) (l':Nat),Go.Proofs.YtapjaflnmklmeaaGreatDoor.ev d l b env n st=some (r,l')→l'≤l) {env:List Mn} {n:Nat} :
 ∀ (ts:List Ty) (ss:List Bd) (l:Nat) (xs:List Bd) (l':Nat),evSubs (Go.Proofs.YtapjaflnmklmeaaGreatDoor.ev d) env n l ts ss=some (xs,l')→l'≤l
 | [],ss,l,xs,l',h=>by simp [evSubs] at h;omega
 | t::ts,[],l,xs,l',h=>by simp [evSubs] at h;omega
 | t::ts,s::ss,l,xs,l',h=>by
   simp only [evSubs,Option.bind_eq_bind,Option.bind_eq_some_iff,Prod.exists] at h
   obtain ⟨x,l1,h1,ys,l2,h2,h3⟩:=h
   simp at h3
   have k1:=ih _ _ _ _ _ _ _ h1
   have k2:=evSubs_left ih ts ss _ _ _ h2
   omega
theorem ev_left (d:Nat):∀ (l:Nat) (b:Bd) (env:List Mn) (n:Nat) (st:List Gf) (r:Bd) (l':Nat),Go.Proofs.YtapjaflnmklmeaaGreatDoor.ev d l b env n st=some (r,l')→l'≤l:=by
 induction d with
 | zero=>intro l b env n st r l' h;simp [Go.Proofs.YtapjaflnmklmeaaGreatDoor.ev] at h
 | succ d ih =>
   intro l b env n st r l' h
   cases l with
   | zero=>rw [ev.eq_def] at h;simp at h
   | succ l =>
     cases b with
     | leaf c =>
       by_cases hc:c=117
       ·subst hc;rw [ev_u] at h;simp at h;omega
       ·cases st with
        | nil=>rw [ev_end] at h;simp at h;omega
        | cons f st=>rw [ev_back hc] at h;have:=ih _ _ _ _ _ _ _ h;omega
     | ask v ss y no =>
       cases hv:env[v]? with
       | none=>rw [ev.eq_def] at h;simp [hv] at h
       | some m =>
         cases m with
         | bd t b' e=>rw [ev_bd hv] at h;have:=ih _ _ _ _ _ _ _ h;omega
         | op o t =>
           rw [ev_op hv] at h
           simp only [Option.bind_eq_some_iff,Prod.exists] at h
           obtain ⟨xs,l1,h1,x,l2,h2,z,l3,h3,h4⟩:=h
           simp at h4
           have k1:=evSubs_left ih _ _ _ _ _ h1
           have k2:=ih _ _ _ _ _ _ _ h2
           have k3:=ih _ _ _ _ _ _ _ h3
           omega
theorem encBs_snoc (xs:List Bd) (x:Bd):encBs (xs++[x])=encBs xs++[encB x]:=by
 induction xs with
 | nil=>simp [encBs]
 | cons y ys ih=>simp [encBs,ih]
structure KInv (F:Nat→Prop) (aa l n d o:Nat) (env:List Mn) (ts:List Ty) (ss:List Bd) (kv:Value) (w:World) (k lk:Nat) (outs:List Bd) (sv:Value) (us:List Value) (wr:World):Prop where
 evk:evSubs (Go.Proofs.YtapjaflnmklmeaaGreatDoor.ev d) env n l (ts.take k) (ss.take k)=some (outs,lk)
 ol:outs.length=k
 but:But (· = aa) w wr
 zw:w.heap.size+2≤wr.heap.size
 apl:Apl wr aa lk
 lkl:lk≤l
 box:wr.heap[w.heap.size]? = some (.cells #[.int .i64 (o:Nat),kv,.pointer none,.slice none 0 0] 145 (0,0))
 blk:wr.heap[w.heap.size+1]? = some (.cells #[str [],.int .i64 (o:Nat),sv,.pointer none,.pointer none] 72 (0,0))
 own:Own wr 44 1 sv k us
 rep:Reps (fun i=>((F i∧i<w.heap.size)∨w.heap.size+2≤i)∧sv.ownBlock≠some i) wr (encBs outs) us
 fr:∀ g,sv.ownBlock=some g→w.heap.size+2≤g
theorem cells5 {w:World} {P:Nat} {a b c d e:Value} {T:TypeId} (h:w.heap[P]? = some (.cells #[a,b,c,d,e] T (0,0))):w.cell? ⟨P,0,none⟩=some a∧w.cell? ⟨P,1,none⟩=some b∧w.cell? ⟨P,2,none⟩=some c∧w.cell? ⟨P,3,none⟩=some d∧w.cell? ⟨P,4,none⟩=some e∧(∀ o,w.frozen? ⟨P,o,none⟩=false) :=
 ⟨by simp [World.cell?,h],by simp [World.cell?,h],by simp [World.cell?,h],by simp [World.cell?,h],by simp [World.cell?,h],fun o=>by simp [World.frozen?,h]⟩
theorem cells4 {w:World} {P:Nat} {a b c d:Value} {T:TypeId} (h:w.heap[P]? = some (.cells #[a,b,c,d] T (0,0))):w.cell? ⟨P,0,none⟩=some a∧w.cell? ⟨P,1,none⟩=some b∧w.cell? ⟨P,2,none⟩=some c∧w.cell? ⟨P,3,none⟩=some d :=
 ⟨by simp [World.cell?,h],by simp [World.cell?,h],by simp [World.cell?,h],by simp [World.cell?,h]⟩
end Go.Proofs.YtapjaflnmklmeaaGreatDoor
namespace Go.Proofs.YtapjaflnmklmeaaGreatDoor
open Go.RowKit
theorem Own.src {w:World} {e:TypeId} {sz n:Nat} {v:Value} {xs:List Value} (h:Own w e sz v n xs) (hc:∀ u∈xs,u.oneCell'=true):SrcSl sz v n xs w:=by
 refine ⟨h.1,hc,?_⟩
 rcases h.2 with ⟨e,h0⟩ | ⟨g,cap,cur,e,_,hg,_,_,_,ht⟩
 ·exact .inr ⟨e,h0⟩
 ·refine .inl ⟨_,cap,e,fun j u hj=>?_⟩
  rw [← ht,List.getElem?_take] at hj
  split at hj
  ·unfold Addr.add
   split
   ·subst j;simp only [World.cell?,hg];simpa using hj
   ·simp only [World.cell?,hg];simpa using hj
  ·simp at hj
structure KeptPre (F:Nat→Prop) (aa l d n o vv:Nat) (H:List Ty) (t:Ty) (ss:List Bd) (y no:Bd) (env:List Mn) (st:List Gf) (bv kv ev on:Value) (w:World):Prop where
 glob:GlobE w
 hF:∀ i,F i→i≠aa
 ng:aa≠0
 apl:Apl w aa l
 ld:l≤d
 d20:d≤20000
 hlen:ss.length=t.args.length
 at15:atomsT t≤15
 sub:∀ (k:Nat) (a:Ty) (s:Bd),t.args[k]? = some a→ss[k]? = some s→EvFit (H++a.args) s (env++opens H.length a.args) []
 fy:EvFit H y env st
 fn:EvFit H no env st
 hn:H.length=n
 el:env.length+16*(d+1)≤1000000
 nl:n+16*(d+1)≤1000000
 ok:okMs (1000000-16*(d+1)) env
 okg:okGs (1000000-16*(d+1)) st
 rb:Rep F w (encB (.ask vv ss y no)) bv
 rk:Rep F w (encK t) kv
 re:Rep F w (.sl 145 4 env.length (encMs env)) ev
 ro:OnRep F w aa n (⟨y,no,env⟩::st) on
def keptOf (d l n o:Nat) (t:Ty) (ss:List Bd) (y no:Bd) (env:List Mn) (st:List Gf):Option (Bd×Nat) :=
 (evSubs (Go.Proofs.YtapjaflnmklmeaaGreatDoor.ev d) env n l t.args ss).bind fun x=>(Go.Proofs.YtapjaflnmklmeaaGreatDoor.ev d x.2 y env n st).bind fun z=>(Go.Proofs.YtapjaflnmklmeaaGreatDoor.ev d z.2 no env n st).bind fun u=>some (.ask o x.1 z.1 u.1,u.2)
set_option maxRecDepth 100000 in
set_option maxHeartbeats 8000000 in
theorem kept_any (d:Nat) (ih:EvalSaid d) (F:Nat→Prop) (aa l n o vv:Nat) (H:List Ty) (t:Ty) (ss:List Bd) (y no:Bd) (env:List Mn) (st:List Gf) (bv kv ev on:Value) (w:World) (h:KeptPre F aa l d n o vv H t ss y no env st bv kv ev on w) :
 Calls Tryz.prog 111 #[.pointer (some ⟨aa,0,none⟩),bv,.agg #[.int .i64 (o:Nat),kv,.pointer none,.slice none 0 0],ev,.int .i64 (n:Nat),on] w (EvalPost F aa (keptOf d l n o t ss y no env st) w):=by
 have HP:=Lib.hid h
 have IH:=Lib.hid ih
 obtain ⟨bb,sl,yv,nv,e,hbF,hblk,hsl,_,_⟩:=ask_open h.rb
 subst e
 obtain ⟨kb,ks,e,hkF,hkb,hks⟩:=encK_open h.rk
 subst e
 obtain ⟨sa,sc,e,_,_,hsat⟩:=Rep_sl1_open hsl
 subst e
 obtain ⟨ka,kc,e,_,_,hkat⟩:=Rep_sl1_open hks
 subst e
 obtain ⟨exs,hexs,hesrc⟩:=SrcSl.ofRep h.re (oneCell_encMs env)
 obtain ⟨ea,ec,e⟩:=hesrc.slice
 subst e
 obtain ⟨b1,b2,b3,b4,b5,bp,ev5,on5,vv5,ss5,e,⟨n1,n2,n3,n4,n5⟩,c1,r1,c2,c3,r3,c4,c5,r5⟩:=h.ro
 subst e
 have hl16:ss.length≤15:=by rw [h.hlen];exact (args_atoms h.at15).2
 have hl16':t.args.length≤15:=(args_atoms h.at15).2
 have hLEN:=Lib.hid h.hlen
 have hnl:=h.nl
 have hel:=h.el
 have hbaa:=h.hF _ hbF
 have hkaa:=h.hF _ hkF
 have hbw:=lt_of_heap hblk
 have hkw:=lt_of_heap hkb
 have haw:=h.apl.cell.2.2
 have hq2:w.cell? ⟨bb,2,none⟩=some (.slice sa ss.length sc):=by simp [World.cell?,hblk]
 have hk0:w.cell? ⟨kb,0,none⟩=some (.slice ka t.args.length kc):=by simp [World.cell?,hkb]
 have HA:=Lib.hid (And.intro hsat (And.intro hkat (And.intro hexs hesrc)))
 have HC:=Lib.hid (And.intro (And.intro n1 (And.intro n2 (And.intro n3 (And.intro n4 n5)))) (And.intro c1 (And.intro r1 (And.intro c2 (And.intro c3 (And.intro r3 (And.intro c4 (And.intro c5 r5))))))))
 clear h ih hblk hsl hkb hks hsat hkat hexs hesrc n1 n2 n3 n4 n5 c1 r1 c2 c3 r3 c4 c5 r5 hbF hkF
 go_enter Tryz.func111,Tryz.ntmps111
 go_wp2_with fail
 go_loopw [31] (fun i wr=>∃ (k lk:Nat) (outs:List Bd) (sv:Value) (us:List Value),k≤ss.length∧i=.int .i64 k∧KInv F aa l n d o env t.args ss (.pointer (some ⟨kb,0,none⟩)) w k lk outs sv us wr) (fun i _=>ss.length-(intOf i).toNat)
 case atStart =>
  refine ⟨0,l,[],.slice none 0 0,[],Nat.zero_le _,rfl,?_⟩
  have hbA:Below w.heap.size w ((w.alloc (.cells #[.int .i64 (o:Nat),.pointer (some ⟨kb,0,none⟩),.pointer none,.slice none 0 0] 145)).alloc (.cells #[str [],.int .i64 (o:Nat),.slice none 0 0,.pointer none,.pointer none] 72)):=((Below.refl _ _).alloc (Nat.le_refl _) _).alloc (by rw [size_alloc];omega) _
  refine { evk:=by simp [evSubs],ol:=rfl,but:=But.ofBelow hbA,zw:=by simp,apl:=HP.out.apl.below hbA,lkl:=Nat.le_refl _,box:=heap_past (heap_new _ _),blk:=?_,own:=World.ownsRow_nil _ _ _ _,rep:=by simp [encBs,Reps_nil],fr:=fun g hg=>by simp [Value.ownBlock] at hg }
  have:=heap_new (w.alloc (.cells #[.int .i64 (o:Nat),.pointer (some ⟨kb,0,none⟩),.pointer none,.slice none 0 0] 145)) (.cells #[str [],.int .i64 (o:Nat),.slice none 0 0,.pointer none,.pointer none] 72)
  rwa [size_alloc] at this
 case round =>
  rename_i wr
  obtain ⟨k,lk,outs,sv,us,hk,rfl,hinv⟩:=hrel
  have HI:=Lib.hid hinv;clear hinv
  by_cases hlt:k<ss.length
  ·have hlt':(k:Int)<(ss.length:Int):=by omega
   have hlta:k<t.args.length:=by have:=hLEN.out;omega
   have hlta':(k:Int)<(t.args.length:Int):=by omega
   obtain ⟨sb,so,u,d1,e,hF1,hw1,hd1,hc1,hru⟩:=HA.out.1 k hlt
   subst e
   rw [encBs_at,Option.map_eq_some_iff] at hd1
   obtain ⟨s,hs,rfl⟩:=hd1
   obtain ⟨ub,rfl⟩:=encB_ptr hru
   obtain ⟨kb2,ko2,u2,d2,e,hF2,hw2,hd2,hc2,hrk⟩:=HA.out.2.1 k hlta
   subst e
   rw [encKs_at,Option.map_eq_some_iff] at hd2
   obtain ⟨a,ha,rfl⟩:=hd2
   obtain ⟨kab,s2,rfl,hF3,hkab,hrs2⟩:=encK_open hrk
   obtain ⟨a3,k3,rfl⟩:∃ a3 k3,s2=.slice a3 a.args.length k3:=by have h:=hrs2;rw [Rep_sl] at h;obtain ⟨_,a,c,e,_⟩:=h;exact ⟨a,c,e⟩
   have haa:atomsT a≤15:=(args_atoms HP.out.at15).1 a (List.mem_of_getElem? ha)
   have hal:=(args_atoms haa).2
   have kF:∀ {b:Nat} {j:Nat} {x:Value},F b→w.cell? ⟨b,j,none⟩=some x→wr.cell? ⟨b,j,none⟩=some x:=fun hb hc=>(HI.out.but.cell (World.block_lt_of_cell? w _ hc) (HP.out.hF _ hb)).trans hc
   have q0:=kF hF1 hc1
   have q1:wr.cell? ⟨kb,0,none⟩=some (.slice (some ⟨kb2,ko2,none⟩) t.args.length kc):=(HI.out.but.cell hkw hkaa).trans hk0
   have q2:=kF hF2 hc2
   have q3:wr.cell? ⟨kab,0,none⟩=some (.slice a3 a.args.length k3):=kF hF3 (by simp [World.cell?,hkab])
   obtain ⟨x0,x1,x2,x3⟩:=cells4 HI.out.box
   have hsrc:SrcSl 4 (.slice ea env.length ec) env.length exs wr:=srcSl_but HI.out.but (fun b hb=>HP.out.hF b hb) HP.out.re HA.out.2.2.2
   have HK:=Lib.hid (And.intro hs (And.intro hru (And.intro ha (And.intro hrs2 hsrc))))
   have hzw:=HI.out.zw
   clear hs hru ha hrk hrs2 hkab hsrc kF hc1 hc2 hF1 hF2 hF3 hk0 hq2
   go_wp2_with (at_builtin;refine wpList_append_gen rfl _ _ 142 rfl 145 (.agg #[.int .i64 0,.pointer none,.pointer none,.slice none 0 0]) 4 48 Tryz.underlying142 Tryz.infoMn rfl (by decide) (.slice none 0 0) 0 [] rfl ?a1 _ env.length exs rfl ?a2 ?a3 ?a4 ?_)
   case a1=>exact World.ownsRow_nil _ _ _ _
   case a2=>exact HK.out.2.2.2.2
   case a3=>unfold maxLen;omega
   case a4=>omega
   intro a6 c6 w6 ho6 hb6 hg6
   have hbl6:Below wr.heap.size wr w6:=hb6.toBelow (Nat.le_refl _) (fun i _ e=>by simp [Value.ownBlock] at e)
   have hf6:∀ g,(Value.slice a6 env.length c6).ownBlock=some g→wr.heap.size≤g:=fun g hg=>by
    rcases hg6 g hg with h | h
    ·simp [Value.ownBlock] at h
    ·omega
   have hrk6:Rep (fun i=>F i∧i<w.heap.size) w6 (.sl 43 1 a.args.length (encKs a.args)) (.slice a3 a.args.length k3) :=
    Rep.below hbl6 (fun _ h=>h) ((Rep.low HK.out.2.2.2.1).but HI.out.but (fun b hb=>⟨HP.out.hF b hb.1,hb⟩))
   have C7:=Lib.hid (opens_any (fun i=>F i∧i<w.heap.size) n a.args (.slice a3 a.args.length k3) w6 hrk6 (by omega) (by omega))
   have H6:=Lib.hid (And.intro ho6 (And.intro hbl6 hf6));clear ho6 hb6 hg6 hbl6 hf6 hrk6 x0 x1 x2 x3 q0 q1 q2 q3
   go_wp2_with fail
   (with_reducible refine C7.out.mono ?_)
   rintro en w7 ⟨a7,c7,xs7,rfl,ho7,hr7,hb7,hf7⟩
   clear C7
   have ho67:Own w7 145 4 (.slice a6 env.length c6) env.length exs:=H6.out.1.keep fun g o hg hh=>by rw [hb7.block g (lt_of_heap hh)];exact hh
   have hs7:=ho7.src (oneCell_encMs _ _ hr7)
   have hb67:Below wr.heap.size wr w7:=H6.out.2.1.trans (hb7.mono H6.out.2.1.size)
   have H7:=Lib.hid (And.intro ho67 (And.intro hs7 (And.intro hr7 hb67)));clear ho67 hs7 hr7 hb67 ho7 hb7 hf7
   go_wp2_with (at_builtin;refine wpList_append_gen rfl _ _ 142 rfl 145 (.agg #[.int .i64 0,.pointer none,.pointer none,.slice none 0 0]) 4 48 Tryz.underlying142 Tryz.infoMn rfl (by decide) (.slice a6 env.length c6) env.length exs rfl ?e1 _ a.args.length xs7 rfl ?e2 ?e3 ?e4 ?_)
   case e1=>exact H7.out.1
   case e2=>exact H7.out.2.1
   case e3=>unfold maxLen;omega
   case e4=>omega
   intro a8 c8 w8 ho8 hb8 hg8
   have hz67:=H7.out.2.2.2.size
   have hbl8:Below wr.heap.size wr w8:=H7.out.2.2.2.trans (hb8.toBelow hz67 fun i hi e=>by have:=H6.out.2.2 i e;omega)
   have hf8:∀ g,(Value.slice a8 (env.length+a.args.length) c8).ownBlock=some g→wr.heap.size≤g:=fun g hg=>by
    rcases hg8 g hg with h | h
    ·exact H6.out.2.2 g h
    ·omega
   have hb08:But (· = aa) w w8:=HI.out.but.trans (But.ofBelow hbl8)
   have hF2':∀ i,(((F i∧i<w.heap.size)∨w.heap.size+2≤i)∧sv.ownBlock≠some i)→i≠aa:=fun i hi=>by
    rcases hi.1 with hi | hi
    ·exact HP.out.hF i hi.1
    ·omega
   have hsvl:∀ i,i<w.heap.size→sv.ownBlock≠some i:=fun i hi e=>by have:=HI.out.fr i e;omega
   have hsvw:∀ i,sv.ownBlock=some i→i<wr.heap.size:=fun i e=>HI.out.own.lt e
   have lowB:∀ {dv:DV} {v:Value},Rep F w dv v→Rep (fun i=>((F i∧i<w.heap.size)∨w.heap.size+2≤i)∧sv.ownBlock≠some i) w8 dv v:=fun h=>(Rep.low h).but hb08 (fun b hb=>⟨HP.out.hF b hb.1,.inl hb,hsvl b hb.2⟩)
   have hre8:Rep (fun i=>((F i∧i<w.heap.size)∨w.heap.size+2≤i)∧sv.ownBlock≠some i) w8 (.sl 145 4 (env++opens n a.args).length (encMs (env++opens n a.args))) (.slice a8 (env.length+a.args.length) c8):=by
    rw [List.length_append,opens_length,encMs_append]
    refine ho8.rep (fun g hg=>⟨.inr (by have:=hf8 g hg;omega),fun e=>by have:=hf8 g hg;have:=hsvw g e;omega⟩) (Reps.append ?_ ?_)
    ·exact (Reps.low HA.out.2.2.1).but hb08 (fun b hb=>⟨HP.out.hF b hb.1,.inl hb,hsvl b hb.2⟩)
    ·refine (Rep.keep fun b o hf hh=>⟨⟨.inl hf,hsvl b hf.2⟩,?_⟩).2 _ _ H7.out.2.2.1
     rw [hb8.block b (lt_of_heap hh) (fun e=>by have:=H6.out.2.2 b e;have:=hf.2;omega)];exact hh
   have hpre:EvalPre (fun i=>((F i∧i<w.heap.size)∨w.heap.size+2≤i)∧sv.ownBlock≠some i) aa lk d (n+a.args.length) (H++a.args) s (env++opens n a.args) [] (.pointer (some ⟨ub,0,none⟩)) (.slice a8 (env.length+a.args.length) c8) .nilFunc w8 :=
    { glob:=HP.out.glob.but hb08 (fun e=>HP.out.ng e.symm),hF:=hF2',ng:=HP.out.ng,apl:=HI.out.apl.below hbl8,ld:=Nat.le_trans HI.out.lkl HP.out.ld,d20:=HP.out.d20,
      fit:=by have:=HP.out.sub k a s HK.out.2.2.1 HK.out.1;rwa [HP.out.hn] at this,hn:=by rw [List.length_append,HP.out.hn],el:=by rw [List.length_append,opens_length];omega,nl:=by omega,
      ok:=okMs_append _ _ (okMs_mono (by omega) _ HP.out.ok) (okMs_opens _ _ (args_atoms haa).1 (by omega)),okg:=trivial,rb:=lowB HK.out.2.1,re:=hre8,ro:=rfl }
   have C9:=IH.out _ aa lk (n+a.args.length) (H++a.args) s (env++opens n a.args) [] (.pointer (some ⟨ub,0,none⟩)) (.slice a8 (env.length+a.args.length) c8) .nilFunc w8 hpre
   rw [Int.natCast_add] at C9
   have htake:=evSubs_take (f:=Go.Proofs.YtapjaflnmklmeaaGreatDoor.ev d) (env:=env) (n:=n) (l:=l) HK.out.2.2.1 HK.out.1
   rw [HI.out.evk] at htake
   simp only [Option.bind_some] at htake
   generalize hev:Go.Proofs.YtapjaflnmklmeaaGreatDoor.ev d lk s (env++opens n a.args) (n+a.args.length) []=oev at *
   have C9':=Lib.hid C9
   have H8:=Lib.hid (And.intro hbl8 (And.intro hb08 (And.intro htake hev)));clear C9 hpre hre8 hF2' hbl8 hf8 hb08 hb8 hg8 ho8 htake hev lowB hsvl hsvw
   go_wp2_with fail
   (with_reducible refine C9'.out.mono ?_)
   rintro en w9 ⟨hb9,hn9,hy9⟩
   cases oev with
   | none =>
     obtain ⟨ea9,rfl,hc9⟩:=hn9 rfl
     have hnone:keptOf d l n o t ss y no env st=none:=by
      have:=H8.out.2.2.1
      simp only [Option.bind_none] at this
      unfold keptOf
      rw [evSubs_none (k+1) _ _ _ this];rfl
     have hcw:w.cell? ⟨0,0,none⟩=some (.iface 200 (.pointer (some ea9))):=by
      obtain ⟨a0,h0⟩:=HP.out.glob
      have:=(H8.out.2.1.cell (World.block_lt_of_cell? w _ h0) (fun e=>HP.out.ng e.symm)).trans h0
      rw [this] at hc9
      rw [h0];exact hc9
     have HF:=Lib.hid (And.intro hnone (And.intro (H8.out.2.1.trans hb9) hcw));clear hnone hcw hb9 hn9 hy9 hc9
     go_wp2_with fail
     go_ret2
     exact EvalPost.none HF.out.1 HF.out.2.1 HF.out.2.2
   | some x =>
     obtain ⟨v,rfl,ha9,hr9⟩:=hy9 x.1 x.2 rfl
     obtain ⟨vb,rfl⟩:=encB_ptr hr9
     obtain ⟨sa2,sc2,e⟩:=HI.out.own.slice
     subst e
     have hz8:=H8.out.1.size
     have hz9:=hb9.size
     have blk9:w9.heap[w.heap.size+1]? = some (.cells #[str [],.int .i64 (o:Nat),.slice sa2 k sc2,.pointer none,.pointer none] 72 (0,0)):=by
      rw [hb9.block _ (by omega) (by omega),H8.out.1.block _ (by omega)];exact HI.out.blk
     have box9:w9.heap[w.heap.size]? = some (.cells #[.int .i64 (o:Nat),.pointer (some ⟨kb,0,none⟩),.pointer none,.slice none 0 0] 145 (0,0)):=by
      rw [hb9.block _ (by omega) (by omega),H8.out.1.block _ (by omega)];exact HI.out.box
     have own9:Own w9 44 1 (.slice sa2 k sc2) k us:=HI.out.own.keep fun g o hg hh=>by
      have h1:=HI.out.fr g hg
      have h2:=lt_of_heap hh
      rw [hb9.block g (by omega) (by omega),H8.out.1.block g h2];exact hh
     have hll:=ev_left _ _ _ _ _ _ _ _ (H8.out.2.2.2)
     have hlk:=HI.out.lkl
     obtain ⟨y0,y1,y2,y3,y4,yf⟩:=cells5 blk9
     have H9:=Lib.hid (And.intro hb9 (And.intro ha9 (And.intro hr9 (And.intro blk9 (And.intro box9 own9)))));clear hb9 hn9 hy9 ha9 hr9 blk9 box9 own9 y0 y1 y3 y4 yf
     go_wp2_with (at_builtin;refine wpList_append_gen rfl _ _ 70 rfl 44 (.pointer none) 1 8 Tryz.underlying70 Tryz.infoB rfl (by decide) (.slice sa2 k sc2) k us rfl ?f1 _ 1 [.pointer (some ⟨vb,0,none⟩)] rfl ?f2 ?f3 ?f4 ?_)
     case f1=>exact H9.out.2.2.2.2.2.alloc _
     case f2=>exact SrcSl.lit1 #[.pointer (some ⟨vb,0,none⟩)] rfl (by simp [Value.oneCell']) _ (by simp)
     case f3=>unfold maxLen;omega
     case f4=>omega
     intro a10 c10 w10 ho10 hb10 hg10
     have hz10:=hb10.size
     rw [size_alloc] at hz10
     have hsv:∀ i,(Value.slice sa2 k sc2).ownBlock=some i→w.heap.size+2≤i∧i<wr.heap.size:=fun i e=>⟨HI.out.fr i e,HI.out.own.lt e⟩
     have blk10:w10.heap[w.heap.size+1]? = some (.cells #[str [],.int .i64 (o:Nat),.slice sa2 k sc2,.pointer none,.pointer none] 72 (0,0)):=by
      rw [hb10.block _ (by rw [size_alloc];omega) (fun e=>by have:=hsv _ e;omega),Below.heap_alloc _ _ _ (by omega)];exact H9.out.2.2.2.1
     obtain ⟨y0,y1,y2,y3,y4,yf⟩:=cells5 blk10
     have yf2:=yf 2
     have hset:∀ (g:Nat) (ob:Obj),g≠w.heap.size+1→w10.heap[g]? = some ob→(w10.setCell ⟨w.heap.size+1,2,none⟩ (.slice a10 (k+1) c10)).heap[g]? = some ob:=fun g ob hg hh=>by
      rw [Below.heap_setCell _ _ _ _ (by show g≠w.heap.size+1;exact hg)];exact hh
     have past:∀ (g:Nat) (ob:Obj),(Value.slice sa2 k sc2).ownBlock≠some g→w9.heap[g]? = some ob→w10.heap[g]? = some ob:=fun g ob hg hh=>by
      rw [hb10.block g (by rw [size_alloc];have:=lt_of_heap hh;omega) hg,Below.heap_alloc _ _ _ (lt_of_heap hh)];exact hh
     have hinv:KInv F aa l n d o env t.args ss (.pointer (some ⟨kb,0,none⟩)) w (k+1) x.2 (outs++[x.1]) (.slice a10 (k+1) c10) (us++[.pointer (some ⟨vb,0,none⟩)]) (w10.setCell ⟨w.heap.size+1,2,none⟩ (.slice a10 (k+1) c10)):=by
      have hg10':∀ g,(Value.slice a10 (k+1) c10).ownBlock=some g→(Value.slice sa2 k sc2).ownBlock=some g∨w9.heap.size<g:=fun g hg=>by
       rcases hg10 g hg with h | h
       ·exact .inl h
       ·exact .inr (by omega)
      refine { evk:=H8.out.2.2.1,ol:=by rw [List.length_append,HI.out.ol];rfl,but:=?_,zw:=by simp [World.setCell];omega,apl:=?_,lkl:=by omega,box:=?_,blk:=?_,own:=?_,rep:=?_,fr:=fun g hg=>?_ }
      ·have h1:But (· = aa) w w10:=((H8.out.2.1.trans H9.out.1).alloc _).trans' hb10 fun i hi e=>by have:=hsv i e;omega
       exact h1.setCell (p:=⟨w.heap.size+1,2,none⟩) (.inr (by show w.heap.size≤w.heap.size+1;omega)) _
      ·exact hset _ _ (by omega) (past _ _ (fun e=>by have:=hsv _ e;omega) H9.out.2.1)
      ·exact hset _ _ (by omega) (past _ _ (fun e=>by have:=hsv _ e;omega) H9.out.2.2.2.2.1)
      ·rw [setCell_at blk10];rfl
      ·exact ho10.keep fun g ob hg hh=>hset _ _ (by
        rcases hg10' g hg with h | h
        ·have:=hsv g h;omega
        ·omega) hh
      ·rw [encBs_snoc]
       refine Reps.append ?_ (Reps.one ?_)
       ·refine (Rep.keep fun b ob hf hh=>?_).2 _ _ HI.out.rep
        have hb:=lt_of_heap hh
        have hne:b≠aa∧b≠w.heap.size+1:=by
         rcases hf.1 with h | h
         ·exact ⟨HP.out.hF b h.1,by omega⟩
         ·omega
        refine ⟨⟨hf.1,fun e=>?_⟩,hset _ _ hne.2 (past _ _ hf.2 ?_)⟩
        ·rcases hg10' b e with h | h
         ·exact hf.2 h
         ·omega
        ·rw [H9.out.1.block b (by omega) hne.1,H8.out.1.block b hb];exact hh
       ·refine (Rep.keep fun b ob hf hh=>?_).1 _ _ H9.out.2.2.1
        have hf:(((F b∧b<w.heap.size)∨w.heap.size+2≤b)∧(Value.slice sa2 k sc2).ownBlock≠some b)∨w8.heap.size≤b:=hf
        have hb:=lt_of_heap hh
        have hsv':(Value.slice sa2 k sc2).ownBlock≠some b:=by
         rcases hf with h | h
         ·exact h.2
         ·intro e;have:=hsv b e;omega
        have hkk:((F b∧b<w.heap.size)∨w.heap.size+2≤b):=by
         rcases hf with h | h
         ·exact h.1
         ·exact .inr (by omega)
        refine ⟨⟨hkk,fun e=>?_⟩,hset _ _ (by rcases hkk with h | h <;> omega) (past _ _ hsv' hh)⟩
        rcases hg10' b e with h | h
        ·exact hsv' h
        ·omega
      ·rcases hg10' g hg with h | h
       ·exact (hsv g h).1
       ·omega
     have HN:=Lib.hid hinv;clear hinv hset past blk10 y0 y1 y3 y4 yf ho10 hb10 hg10 hsv
     go_wp2_with fail
     go_roundw
     case rel=>exact ⟨k+1,x.2,outs++[x.1],.slice a10 (k+1) c10,us++[.pointer (some ⟨vb,0,none⟩)],by omega,by go_num,HN.out⟩
     case measure=>simp [intOf];omega
  ·obtain rfl:k=ss.length:=by omega
   have hfull:=HI.out.evk
   rw [List.take_length,List.take_of_length_le (by have:=hLEN.out;omega)] at hfull
   have AFT:Hid (∀ (X:World) (l':Nat),But (· = aa) w X→Apl X aa l'→l'≤l →
    Calls Tryz.prog 110 #[.bool true,.pointer (some ⟨b1,0,none⟩),.pointer (some ⟨b2,0,none⟩),.pointer (some ⟨b3,0,none⟩),.pointer (some ⟨b4,0,none⟩),.pointer (some ⟨b5,0,none⟩)] X (EvalPost (fun i=>F i∧i<w.heap.size) aa (Go.Proofs.YtapjaflnmklmeaaGreatDoor.ev d l' y env n st) X) ∧
    Calls Tryz.prog 110 #[.bool false,.pointer (some ⟨b1,0,none⟩),.pointer (some ⟨b2,0,none⟩),.pointer (some ⟨b3,0,none⟩),.pointer (some ⟨b4,0,none⟩),.pointer (some ⟨b5,0,none⟩)] X (EvalPost (fun i=>F i∧i<w.heap.size) aa (Go.Proofs.YtapjaflnmklmeaaGreatDoor.ev d l' no env n st) X)):=by
    show ∀ (X:World) (l':Nat),_→_
    intro X l' hbX haX hlX
    obtain ⟨⟨n1,n2,n3,n4,n5⟩,c1,r1,c2,c3,r3,c4,c5,r5⟩:=HC.out
    have kX:∀ {b:Nat} {x:Value},F b→w.cell? ⟨b,0,none⟩=some x→X.cell? ⟨b,0,none⟩=some x:=fun hb hc=>(hbX.cell (World.block_lt_of_cell? w _ hc) (HP.out.hF _ hb)).trans hc
    have hlow:∀ b,(F b∧b<w.heap.size)→¬ (b=aa)∧(F b∧b<w.heap.size):=fun b hb=>⟨HP.out.hF b hb.1,hb⟩
    have key:=fun c hf=>after_any d IH.out (fun i=>F i∧i<w.heap.size) aa l' n H ⟨y,no,env⟩ st b1 b2 b3 b4 b5 bp ev5 on5 vv5 ss5 X c (HP.out.glob.but hbX (fun e=>HP.out.ng e.symm)) (fun i hi=>HP.out.hF i hi.1) HP.out.ng haX (by have:=HP.out.ld;omega) HP.out.d20
     hf HP.out.hn (by show env.length+_≤_;omega) (by omega) (okMs_mono (by omega) _ HP.out.ok) (okGs_mono (by omega) _ HP.out.okg)
     (kX n1 c1) ((Rep.low r1).but hbX hlow) (kX n2 c2) (kX n3 c3) ((Rep.low r3).but hbX hlow) (kX n4 c4) (kX n5 c5) (OnRep.but hbX hlow _ _ (OnRep.low _ _ r5))
    exact ⟨key 116 HP.out.fy,key 102 HP.out.fn⟩
   have hlk:=HI.out.lkl
   have C1:=Lib.hid (AFT.out wr lk HI.out.but HI.out.apl hlk).1
   have hzw:=HI.out.zw
   obtain ⟨sa2,sc2,e⟩:=HI.out.own.slice
   subst e
   have HFU:=Lib.hid hfull;clear hfull
   generalize hev1:Go.Proofs.YtapjaflnmklmeaaGreatDoor.ev d lk y env n st=o1 at *
   have HE1:=Lib.hid hev1;clear hev1
   go_wp2_with fail
   (with_reducible refine C1.out.mono ?_)
   rintro en w1 ⟨hb1,hn1,hy1⟩
   clear C1
   cases o1 with
   | none =>
     obtain ⟨ea9,rfl,hc9⟩:=hn1 rfl
     have hnone:keptOf d l n o t ss y no env st=none:=by
      unfold keptOf
      rw [HFU.out];simp only [Option.bind_some];rw [HE1.out];rfl
     have hcw:w.cell? ⟨0,0,none⟩=some (.iface 200 (.pointer (some ea9))):=by
      obtain ⟨a0,h0⟩:=HP.out.glob
      have:=(HI.out.but.cell (World.block_lt_of_cell? w _ h0) (fun e=>HP.out.ng e.symm)).trans h0
      rw [this] at hc9
      rw [h0];exact hc9
     have hz1:=hb1.size
     have blk1:w1.heap[w.heap.size+1]? = some (.cells #[str [],.int .i64 (o:Nat),.slice sa2 ss.length sc2,.pointer none,.pointer none] 72 (0,0)):=by
      rw [hb1.block _ (by omega) (by omega)];exact HI.out.blk
     obtain ⟨_,_,_,y3,_,yf⟩:=cells5 blk1
     have yf3:=yf 3;clear yf
     have hbF:But (· = aa) w (w1.setCell ⟨w.heap.size+1,3,none⟩ (.pointer none)):=(HI.out.but.trans hb1).setCell (p:=⟨w.heap.size+1,3,none⟩) (.inr (by show w.heap.size≤w.heap.size+1;omega)) _
     have HF:=Lib.hid (And.intro hnone (And.intro hbF hcw));clear hnone hcw hb1 hn1 hy1 hc9 hbF blk1
     go_wp2_with fail
     go_ret2
     exact EvalPost.none HF.out.1 HF.out.2.1 HF.out.2.2
   | some z =>
     obtain ⟨v1,rfl,ha1,hr1⟩:=hy1 z.1 z.2 rfl
     obtain ⟨zb,rfl⟩:=encB_ptr hr1
     have hl1:=ev_left _ _ _ _ _ _ _ _ HE1.out
     have hz1:=hb1.size
     have blk1:w1.heap[w.heap.size+1]? = some (.cells #[str [],.int .i64 (o:Nat),.slice sa2 ss.length sc2,.pointer none,.pointer none] 72 (0,0)):=by
      rw [hb1.block _ (by omega) (by omega)];exact HI.out.blk
     obtain ⟨_,_,_,y3,_,yf⟩:=cells5 blk1
     have yf3:=yf 3;clear yf
     obtain ⟨W2,hW2⟩:∃ W,w1.setCell ⟨w.heap.size+1,3,none⟩ (.pointer (some ⟨zb,0,none⟩))=W:=⟨_,rfl⟩
     have hb2:But (· = aa) w W2:=by rw [← hW2];exact (HI.out.but.trans hb1).setCell (p:=⟨w.heap.size+1,3,none⟩) (.inr (by show w.heap.size≤w.heap.size+1;omega)) _
     have past2:∀ (g:Nat) (ob:Obj),g≠w.heap.size+1→w1.heap[g]? = some ob→W2.heap[g]? = some ob:=fun g ob hg hh=>by
      rw [← hW2,Below.heap_setCell _ _ _ _ (by show g≠w.heap.size+1;exact hg)];exact hh
     have blk2:W2.heap[w.heap.size+1]? = some (.cells #[str [],.int .i64 (o:Nat),.slice sa2 ss.length sc2,.pointer (some ⟨zb,0,none⟩),.pointer none] 72 (0,0)):=by
      rw [← hW2,setCell_at blk1];rfl
     have ha2:Apl W2 aa z.2:=past2 _ _ (by omega) ha1
     have C2:=Lib.hid (AFT.out W2 z.2 hb2 ha2 (by omega)).2
     have hz2:W2.heap.size=w1.heap.size:=by rw [← hW2];simp [World.setCell]
     have HZ2:=Lib.hid hz2;clear hz2
     have hr2:Rep (fun i=>(F i∧i<w.heap.size)∨wr.heap.size≤i) W2 (encB z.1) (.pointer (some ⟨zb,0,none⟩)):=(Rep.keep fun b ob hf hh=>⟨hf,past2 _ _ (by rcases hf with h | h <;> omega) hh⟩).1 _ _ hr1
     have own2:Own W2 44 1 (.slice sa2 ss.length sc2) ss.length us:=HI.out.own.keep fun g ob hg hh=>by
      have h1:=HI.out.fr g hg
      exact past2 _ _ (by omega) (by rw [hb1.block g (lt_of_heap hh) (by omega)];exact hh)
     have rep2:Reps (fun i=>((F i∧i<w.heap.size)∨w.heap.size+2≤i)∧i≠aa) W2 (encBs outs) us:=(Rep.keep fun b ob hf hh=>by
      have hne:b≠aa∧b≠w.heap.size+1:=by
       rcases hf.1 with h | h
       ·exact ⟨HP.out.hF b h.1,by omega⟩
       ·omega
      exact ⟨⟨hf.1,hne.1⟩,past2 _ _ hne.2 (by rw [hb1.block b (lt_of_heap hh) hne.1];exact hh)⟩).2 _ _ HI.out.rep
     generalize hev2:Go.Proofs.YtapjaflnmklmeaaGreatDoor.ev d z.2 no env n st=o2 at *
     have H2:=Lib.hid (And.intro hb2 (And.intro blk2 (And.intro hr2 (And.intro own2 (And.intro rep2 (And.intro hev2 hW2))))));clear hb2 blk2 hr2 own2 rep2 hev2 hW2 past2 hb1 hn1 hy1 ha1 hr1 blk1 ha2
     go_wp2_with fail
     rw [H2.out.2.2.2.2.2.2]
     (with_reducible refine C2.out.mono ?_)
     rintro en w3 ⟨hb3,hn3,hy3⟩
     clear C2
     have hz3:=hb3.size
     have hzz:=HZ2.out
     have blk3:w3.heap[w.heap.size+1]? = some (.cells #[str [],.int .i64 (o:Nat),.slice sa2 ss.length sc2,.pointer (some ⟨zb,0,none⟩),.pointer none] 72 (0,0)):=by
      rw [hb3.block _ (by omega) (by omega)];exact H2.out.2.1
     clear hzz
     obtain ⟨_,_,_,_,y4,yf⟩:=cells5 blk3
     have yf4:=yf 4;clear yf
     cases o2 with
     | none =>
       obtain ⟨ea9,rfl,hc9⟩:=hn3 rfl
       have hnone:keptOf d l n o t ss y no env st=none:=by
        unfold keptOf
        rw [HFU.out];simp only [Option.bind_some];rw [HE1.out];simp only [Option.bind_some];rw [H2.out.2.2.2.2.2.1];rfl
       have hcw:w.cell? ⟨0,0,none⟩=some (.iface 200 (.pointer (some ea9))):=by
        obtain ⟨a0,h0⟩:=HP.out.glob
        have:=(H2.out.1.cell (World.block_lt_of_cell? w _ h0) (fun e=>HP.out.ng e.symm)).trans h0
        rw [this] at hc9
        rw [h0];exact hc9
       have hbF:But (· = aa) w (w3.setCell ⟨w.heap.size+1,4,none⟩ (.pointer none)):=(H2.out.1.trans hb3).setCell (p:=⟨w.heap.size+1,4,none⟩) (.inr (by show w.heap.size≤w.heap.size+1;omega)) _
       have HF:=Lib.hid (And.intro hnone (And.intro hbF hcw));clear hnone hcw hb3 hn3 hy3 hc9 hbF blk3
       go_wp2_with fail
       go_ret2
       exact EvalPost.none HF.out.1 HF.out.2.1 HF.out.2.2
     | some q =>
       obtain ⟨v3,rfl,ha3,hr3⟩:=hy3 q.1 q.2 rfl
       obtain ⟨qb,rfl⟩:=encB_ptr hr3
       have hsome:keptOf d l n o t ss y no env st=some (.ask o outs z.1 q.1,q.2):=by
        unfold keptOf
        rw [HFU.out];simp only [Option.bind_some];rw [HE1.out];simp only [Option.bind_some];rw [H2.out.2.2.2.2.2.1];rfl
       have hbF:But (· = aa) w (w3.setCell ⟨w.heap.size+1,4,none⟩ (.pointer (some ⟨qb,0,none⟩))):=(H2.out.1.trans hb3).setCell (p:=⟨w.heap.size+1,4,none⟩) (.inr (by show w.heap.size≤w.heap.size+1;omega)) _
       have pastF:∀ (g:Nat) (ob:Obj),g≠w.heap.size+1→w3.heap[g]? = some ob→(w3.setCell ⟨w.heap.size+1,4,none⟩ (.pointer (some ⟨qb,0,none⟩))).heap[g]? = some ob:=fun g ob hg hh=>by
        rw [Below.heap_setCell _ _ _ _ (by show g≠w.heap.size+1;exact hg)];exact hh
       have blkF:(w3.setCell ⟨w.heap.size+1,4,none⟩ (.pointer (some ⟨qb,0,none⟩))).heap[w.heap.size+1]? = some (.cells #[str [],.int .i64 (o:Nat),.slice sa2 ss.length sc2,.pointer (some ⟨zb,0,none⟩),.pointer (some ⟨qb,0,none⟩)] 72 (0,0)):=by
        rw [setCell_at blk3];rfl
       have haF:Apl (w3.setCell ⟨w.heap.size+1,4,none⟩ (.pointer (some ⟨qb,0,none⟩))) aa q.2:=pastF _ _ (by omega) ha3
       have hzz:=HZ2.out
       have stay:∀ (b:Nat) (ob:Obj),b≠aa→b≠w.heap.size+1→W2.heap[b]? = some ob→(w3.setCell ⟨w.heap.size+1,4,none⟩ (.pointer (some ⟨qb,0,none⟩))).heap[b]? = some ob:=fun b ob h1 h2 hh =>
        pastF _ _ h2 (by rw [hb3.block b (lt_of_heap hh) h1];exact hh)
       have hrF:Rep (fun i=>F i∨w.heap.size≤i) (w3.setCell ⟨w.heap.size+1,4,none⟩ (.pointer (some ⟨qb,0,none⟩))) (encB (.ask o outs z.1 q.1)) (.pointer (some ⟨w.heap.size+1,0,none⟩)):=by
        rw [encB,Rep_ptr]
        refine ⟨_,_,rfl,.inr (by omega),blkF,?_⟩
        simp only [Reps_cons,Reps_nil,Rep_val]
        have hol:=HI.out.ol
        refine ⟨_,_,rfl,rfl,_,_,rfl,rfl,_,_,rfl,?_,_,_,rfl,?_,_,_,rfl,?_,rfl⟩
        ·rw [hol]
         refine Own.rep (xs:=us) (H2.out.2.2.2.1.keep fun g ob hg hh=>stay _ _ (by have:=HI.out.fr g hg;omega) (by have:=HI.out.fr g hg;omega) hh) (fun g hg=>.inr (by have:=HI.out.fr g hg;omega)) ?_
         refine (Rep.keep fun b ob hf hh=>⟨?_,stay _ _ hf.2 (by rcases hf.1 with h | h <;> omega) hh⟩).2 _ _ H2.out.2.2.2.2.1
         rcases hf.1 with h | h
         ·exact .inl h.1
         ·exact .inr (by omega)
        ·refine (Rep.keep fun b ob hf hh=>⟨?_,stay _ _ ?_ (by rcases hf with h | h <;> omega) hh⟩).1 _ _ H2.out.2.2.1
         ·rcases hf with h | h
          ·exact .inl h.1
          ·exact .inr (by omega)
         ·rcases hf with h | h
          ·exact HP.out.hF b h.1
          ·omega
        ·refine (Rep.keep fun b ob hf hh=>⟨?_,pastF _ _ ?_ hh⟩).1 _ _ hr3
         ·rcases hf with h | h
          ·exact .inl h.1
          ·exact .inr (by omega)
         ·rcases hf with h | h <;> omega
       have HF:=Lib.hid (And.intro hsome (And.intro hbF (And.intro haF hrF)));clear hsome hbF haF hrF stay blkF pastF hb3 hn3 hy3 ha3 hr3 blk3 hzz
       go_wp2_with fail
       go_ret2
       exact EvalPost.some HF.out.1 HF.out.2.1 HF.out.2.2.1 HF.out.2.2.2
end Go.Proofs.YtapjaflnmklmeaaGreatDoor

/- Walks of functions that the statement reaches, and plain words. No conditions. -/
import Derived.Deep.Cut
import Derived.StillTailTactics
import Derived.BigRegion
import Derived.Outline
import Derived.Laws.MakeOwn
import Derived.Test.YthoimoenbccflaaDoorQ5
set_option linter.unusedVariables false
set_option linter.unusedSimpArgs false
set_option maxHeartbeats 2000000
namespace Go.Proofs.YthoimoenbccflaaDoor
open Go.RowKit
theorem SrcSl.litk {w:World} {e:TypeId} {sz:Nat} (cs:Array Value) (hn:cs.size=sz) (hc:∀ u∈cs.toList,u.oneCell'=true) (g:Nat) (hg:g=w.heap.size):SrcSl sz (.slice (some ⟨g,0,none⟩) 1 1) 1 cs.toList (w.alloc (.cells cs e)):=by
 subst hg
 refine ⟨by simp [hn],hc,.inl ⟨_,_,rfl,fun j u hu=>?_⟩⟩
 unfold Addr.add
 split
 ·subst j;simp;simpa using hu
 ·simp;simpa using hu
def plcs (begun:Nat) (path:Bs):Nat->List Value
 | 0=>[]
 | n+1=>plcs begun path n++[.int .i64 (begun:Nat),str (path++dec n)]
theorem dec_decDigits (n:Nat):dec n=Lib.decDigits n:=by
 induction n using Nat.strongRecOn with
 | _ n ih =>
   by_cases h:n<10
   ·rw [dec_small h,Lib.decDigits,dif_pos h];rfl
   ·rw [dec_great h,Lib.decDigits,dif_neg h,ih (n / 10) (Nat.div_lt_self (by omega) (by omega))];rfl
theorem itoa_dec (i:Nat):Lib.itoa (i:Int)=dec i:=by
 rw [dec_decDigits,Lib.itoa,if_neg (by omega)];rfl
theorem Tryd.infoPl:(Tryd.prog.info? 54).map (fun i=>(i.zero,i.size,i.bytes))=some (some (.agg #[.int .i64 0,str []]),2,24):=by kernel_rfl
def FreshSl (w:World) (e:TypeId) (sz n:Nat) (xs:List Value) (en:Ending) (w':World):Prop :=
 ∃ a c,en=.returned (.slice a n c)/\Own w' e sz (.slice a n c) n xs/\Below w.heap.size w w'/\(∀ g,(Value.slice a n c).ownBlock=some g->w.heap.size<=g)
set_option maxRecDepth 100000 in
theorem places_any (n begun:Nat) (path:Bs) (w:World) (hg:Glob w) (hn:n<=16) (hp:path.length<=1000000) :
 Calls Tryd.prog 33 #[.int .i64 (n:Nat),.int .i64 (begun:Nat),str path] w (FreshSl w 54 2 n (plcs begun path n)):=by
 have HG:=Lib.hid hg;clear hg
 go_enter Tryd.func33,Tryd.ntmps33
 go_wp2_with fail
 go_loopw [7,10] (fun o i wr=>∃ k:Nat,k<=n/\i=.int .i64 k/\∃ a c,o=.slice a k c/\Own wr 54 2 (.slice a k c) k (plcs begun path k)/\Below w.heap.size w wr/\(∀ g,(Value.slice a k c).ownBlock=some g->w.heap.size<=g)) (fun _ i _=>n-(intOf i).toNat)
 case atStart=>exact ⟨0,Nat.zero_le _,rfl,none,0,rfl,World.ownsRow_nil _ _ _ _,Below.refl _ _,fun g h=>by simp [Value.ownBlock] at h⟩
 case round =>
  obtain ⟨k,hk,rfl,a,c,rfl,ho,hb,hf⟩:=hrel
  have HO:=Lib.hid ho;have HF:=Lib.hid hf;have HB:=Lib.hid hb
  clear ho hf hb
  by_cases hlt:k<n
  ·have hlt':(k:Int)<(n:Int):=by omega
   have hdl:(dec k).length<=2:=dec_length 1 k (by omega)
   have hadd:=fun w0=>add_str (P:=Tryd.prog) path (dec k) (by omega) w0
   have hgw:=Lib.hid (HG.out.below HB.out)
   have HI:=Lib.hid (itoa_dec k)
   go_wp2_with fail
   refine (itoa_any (k:Int) _ hgw.out (by omega) (by omega)).mono ?_
   rintro en w1 ⟨rfl,hb1⟩
   rw [HI.out]
   generalize hS:path++dec k=S at *
   have HS:=Lib.hid hS;clear hS
   have z1:=hb1.size
   have HB1:=Lib.hid hb1;clear hb1
   go_wp2_with (at_builtin;refine wpList_append_gen rfl _ _ 52 rfl 54 (.agg #[.int .i64 0,str []]) 2 24 Tryd.underlying52 Tryd.infoPl rfl (by decide) (.slice a k c) k (plcs begun path k) rfl ?c1 _ 1 [.int .i64 (begun:Nat),str S] rfl ?c2 ?c3 ?c4 ?_)
   case c1=>exact (HO.out.keep fun g o _ ho=>by rw [HB1.out.block g (lt_of_heap ho)];exact ho).alloc _
   case c2=>exact SrcSl.litk #[.int .i64 (begun:Nat),str S] rfl (by simp [str,Value.oneCell']) _ (by simp)
   case c3=>unfold maxLen;omega
   case c4=>omega
   intro a' c' w7 ho7 hb7 hg7
   have hA:Own w7 54 2 (.slice a' (k+1) c') (k+1) (plcs begun path (k+1)):=by
    rw [plcs,HS.out];exact ho7
   have hb17:Below w.heap.size w w7:=by
    have h1:=HB.out.trans (HB1.out.mono HB.out.size)
    refine (h1.alloc h1.size _).trans (hb7.toBelow (by rw [size_alloc];have:=h1.size;omega) fun i hi e=>?_)
    have:=HF.out i e;omega
   have hf7:∀ g,(Value.slice a' (k+1) c').ownBlock=some g->w.heap.size<=g:=by
    intro g h
    rcases hg7 g h with h | h
    ·exact HF.out g h
    ·have h2:=HB.out.size
     have h3:g=w1.heap.size+1:=by simpa using h
     omega
   have HA:=Lib.hid (And.intro hA (And.intro hb17 hf7));clear hA hb17 hf7 ho7 hb7 hg7
   go_wp2_with fail
   go_roundw
   case rel=>exact ⟨k+1,by omega,by go_num,a',c',rfl,HA.out.1,HA.out.2.1,HA.out.2.2⟩
   case measure=>simp [intOf];omega
  ·obtain rfl:k=n:=by omega
   go_wp2_with fail
   go_ret
   exact ⟨a,c,rfl,HO.out,HB.out,HF.out⟩
theorem Own.at {w:World} {e:TypeId} {sz n:Nat} {xs:List Value} {v:Value} (h:Own w e sz v n xs) {j:Nat} {u:Value} (hj:xs[j]? = some u):∃ g c,v=.slice (some ⟨g,0,none⟩) n c/\w.cell? ⟨g,j,none⟩=some u:=by
 have hlt:=(List.getElem?_eq_some_iff.1 hj).1
 rcases h.2 with ⟨_,h0⟩ | ⟨g,cap,cur,rfl,_,hg,hnc,_,hcs,ht⟩
 ·have:=h.1;rw [h0,Nat.zero_mul] at this;omega
 ·refine ⟨g,cap,rfl,?_⟩
  rw [<- ht] at hj
  rw [List.getElem?_take] at hj
  split at hj
  ·simp only [World.cell?,hg];simpa using hj
  ·simp at hj
theorem Own.short {w:World} {e:TypeId} {sz n m:Nat} {xs:List Value} {a:Option Addr} {c:Nat} (h:Own w e sz (.slice a n c) n xs) (hm:m<=n) (ha:a≠none):Own w e sz (.slice a m c) m (xs.take (m*sz)):=by
 have hl:=h.1
 have hms:m*sz<=n*sz:=Nat.mul_le_mul_right _ hm
 rcases h.2 with ⟨h0,_⟩ | ⟨g,cap,cur,e1,hb,hg,hnc,hmx,hcs,ht⟩
 ·simp only [Value.slice.injEq] at h0;exact absurd h0.1 ha
 ·simp only [Value.slice.injEq,true_and] at e1
  obtain ⟨rfl,rfl⟩:=e1
  refine ⟨by rw [List.length_take,hl];omega,.inr ⟨g,c,cur,rfl,hb,hg,by omega,hmx,hcs,?_⟩⟩
  rw [<- ht,List.take_take,Nat.min_eq_left hms]


def logM (log:List (Bs×Int)):List Value:=log.map fun x=>str x.1
def logP (log:List (Bs×Int)):List Value:=log.map fun x=>Value.int .i64 x.2
theorem logM_snoc (log:List (Bs×Int)) (s:Bs) (p:Int):logM (log++[(s,p)])=logM log++[str s]:=by simp [logM]
theorem logP_snoc (log:List (Bs×Int)) (s:Bs) (p:Int):logP (log++[(s,p)])=logP log++[.int .i64 p]:=by simp [logP]
theorem Tryd.infoInt:(Tryd.prog.info? 3).map (fun i=>(i.zero,i.size,i.bytes))=some (some (.int .i64 0),1,8):=by kernel_rfl
mutual
def nB:Bd->Prop
 | .leaf _=>True
 | .ask _ ss y n=>ss.length<=15/\nBs ss/\nB y/\nB n
def nBs:List Bd->Prop
 | []=>True
 | b::bs=>nB b/\nBs bs
end
mutual
def okC (n:Nat):Clo->Prop
 | .mk b e _ p=>nB b/\okCs n e/\e.length<=16*n/\p.length<=2*n
def okCs (n:Nat):List Clo->Prop
 | []=>True
 | c::cs=>okC n c/\okCs n cs
end
mutual
theorem okC_mono {n m:Nat} (h:n<=m):∀ c,okC n c->okC m c
 | .mk b e _ p,k=>by
   rw [okC] at *
   exact ⟨k.1,okCs_mono h e k.2.1,by have:=k.2.2.1;omega,by have:=k.2.2.2;omega⟩
theorem okCs_mono {n m:Nat} (h:n<=m):∀ cs,okCs n cs->okCs m cs
 | [],k=>by rw [okCs] at *;trivial
 | c::cs,k=>by rw [okCs] at *;exact ⟨okC_mono h c k.1,okCs_mono h cs k.2⟩
end
structure FrOk (n:Nat) (f:Fr):Prop where
 fit:frFit f
 yes:nB f.yes
 no:nB f.no
 env:okCs n f.env
 len:f.env.length<=16*n
 path:f.path.length<=2*n
theorem FrOk.mono {n m:Nat} {f:Fr} (h:FrOk n f) (k:n<=m):FrOk m f:=⟨h.fit,h.yes,h.no,okCs_mono k _ h.env,by have:=h.len;omega,by have:=h.path;omega⟩
def asInts (xs:List (Bs×Nat)):List (Bs×Int):=xs.map fun y=>(y.1,(y.2:Int))
theorem SrcSl.ofOwn {w:World} {e:TypeId} {sz n:Nat} {v:Value} {xs:List Value} (h:Own w e sz v n xs) (hc:∀ u∈xs,u.oneCell'=true):SrcSl sz v n xs w:=by
 refine ⟨h.1,hc,?_⟩
 rcases h.2 with ⟨rfl,rfl⟩ | ⟨g,cap,cur,rfl,_,hg,_,_,_,ht⟩
 ·exact .inr ⟨rfl,rfl⟩
 ·refine .inl ⟨_,cap,rfl,fun j u hj=>?_⟩
  obtain ⟨g',c',e',hc'⟩:=h.at hj
  simp only [Value.slice.injEq,Option.some.injEq,Addr.mk.injEq,and_true,true_and] at e'
  obtain ⟨rfl,rfl⟩:=e'
  unfold Addr.add
  split
  ·subst j;exact hc'
  ·simpa using hc'
def SubsAt (w:World) (n:Nat) (us:List Value) (sa:Option Addr):Prop:=∀ k,k<n->∃ b o u,sa=some ⟨b,o,none⟩/\us[k]? = some (.pointer (some ⟨u,0,none⟩))/\w.cell? ⟨b,o+k,none⟩=some (.pointer (some ⟨u,0,none⟩))
theorem SubsAt.below {w w':World} {n:Nat} {us:List Value} {sa:Option Addr} (h:SubsAt w n us sa) (hb:Below w.heap.size w w'):SubsAt w' n us sa:=fun k hk=>by
 obtain ⟨b,o,u,e,hu,hc⟩:=h k hk
 exact ⟨b,o,u,e,hu,(hb.cell (World.block_lt_of_cell? w _ hc)).trans hc⟩


def StrsAt (w:World) (a:Option Addr) (xs:List Bs):Prop:=∀ (k:Nat) (s:Bs),xs[k]? = some s->∃ b o,a=some ⟨b,o,none⟩/\w.cell? ⟨b,o+k,none⟩=some (str s)
theorem StrsAt.below {w w':World} {a:Option Addr} {xs:List Bs} (h:StrsAt w a xs) (hb:Below w.heap.size w w'):StrsAt w' a xs:=fun k s hs=>by
 obtain ⟨b,o,e,hc⟩:=h k s hs
 exact ⟨b,o,e,(hb.cell (World.block_lt_of_cell? w _ hc)).trans hc⟩
theorem Tryd.infoStr:(Tryd.prog.info? 9).map (fun i=>(i.zero,i.size,i.bytes))=some (some (str []),1,16):=by kernel_rfl

inductive SC where
 | mk (b:Bd) (t:Ty) (env:List SC) (begun arg:Nat)
def SC.body:SC->Bd | .mk b _ _ _ _=>b
def SC.kind:SC->Ty | .mk _ t _ _ _=>t
def SC.env:SC->List SC | .mk _ _ e _ _=>e
def SC.begun:SC->Nat | .mk _ _ _ n _=>n
def SC.arg:SC->Nat | .mk _ _ _ _ n=>n
structure SF where
 v:Nat
 ss:List Bd
 yes:Bd
 no:Bd
 env:List SC
 opens:Nat
mutual
def simC (keep:Bool) (log:List (Bs×Int)):SC->Clo->Prop
 | .mk b t env bg i,c=>c.body=b/\simCs keep log env c.env/\c.begun=bg/\(keep=true->∃ q p,log[bg]? = some (q,p)/\c.path=q.drop 1++dec i)
def simCs (keep:Bool) (log:List (Bs×Int)):List SC->List Clo->Prop
 | [],cs=>cs=[]
 | x::xs,cs=>∃ c cs',cs=c::cs'/\simC keep log x c/\simCs keep log xs cs'
end
mutual
theorem simC_more {keep:Bool} {log:List (Bs×Int)} (m:List (Bs×Int)):∀ (x:SC) (c:Clo),simC keep log x c->simC keep (log++m) x c
 | .mk b t env bg i,c,h=>by
   rw [simC] at *
   refine ⟨h.1,simCs_more m env _ h.2.1,h.2.2.1,fun hk=>?_⟩
   obtain ⟨q,p,h1,h2⟩:=h.2.2.2 hk
   exact ⟨q,p,by rw [List.getElem?_append_left (List.getElem?_eq_some_iff.1 h1).1];exact h1,h2⟩
theorem simCs_more {keep:Bool} {log:List (Bs×Int)} (m:List (Bs×Int)):∀ (xs:List SC) (cs:List Clo),simCs keep log xs cs->simCs keep (log++m) xs cs
 | [],cs,h=>by rw [simCs] at *;exact h
 | x::xs,cs,h=>by
   rw [simCs] at *
   obtain ⟨c,cs',rfl,h1,h2⟩:=h
   exact ⟨c,cs',rfl,simC_more m x c h1,simCs_more m xs cs' h2⟩
end
structure simF (keep:Bool) (log:List (Bs×Int)) (x:SF) (f:Fr):Prop where
 yes:f.yes=x.yes
 no:f.no=x.no
 env:simCs keep log x.env f.env
 opens:f.begun=x.opens
 path:keep=true->∃ q p,log[x.opens]? = some (q,p)/\f.path=q.drop 1
theorem simF.more {keep:Bool} {log:List (Bs×Int)} {x:SF} {f:Fr} (h:simF keep log x f) (m:List (Bs×Int)):simF keep (log++m) x f :=
 ⟨h.yes,h.no,simCs_more m _ _ h.env,h.opens,fun hk=>by
  obtain ⟨q,p,h1,h2⟩:=h.path hk
  exact ⟨q,p,by rw [List.getElem?_append_left (List.getElem?_eq_some_iff.1 h1).1];exact h1,h2⟩⟩
def SameRun (keep:Bool) (log:List (Bs×Int)) (a:Option (UInt8×List (Bs×Int))) (b:Option (UInt8×List (Bs×Nat))):Prop :=
 (b=none->a=none)/\∀ c ms,b=some (c,ms)->∃ log',a=some (c,log')/\(keep=true->log'=log++asInts ms)
theorem SameRun.step {keep:Bool} {log:List (Bs×Int)} {s:Bs} {n:Nat} {a:Option (UInt8×List (Bs×Int))} {b:Option (UInt8×List (Bs×Nat))} {s':Bs} (h:SameRun keep (log++[(s,(n:Int))]) a b) (hs:keep=true->s'=s):SameRun keep log a (b.map fun x=>(x.1,(s',n)::x.2)):=by
 constructor
 ·intro hb
  cases b with
  | none=>exact h.1 rfl
  | some x=>simp at hb
 ·intro c ms hb
  cases b with
  | none=>simp at hb
  | some x =>
    simp only [Option.map_some,Option.some.injEq,Prod.mk.injEq] at hb
    obtain ⟨rfl,rfl⟩:=hb
    obtain ⟨log',h1,h2⟩:=h.2 x.1 x.2 rfl
    exact ⟨log',h1,fun hk=>by rw [h2 hk,hs hk];simp [asInts]⟩
theorem SameRun.log {keep:Bool} {log:List (Bs×Int)} (c:UInt8):SameRun keep log (some (c,log)) (some (c,[])) :=
 ⟨fun h=>by simp at h,fun c' ms h=>by
  simp only [Option.some.injEq,Prod.mk.injEq] at h
  obtain ⟨rfl,rfl⟩:=h
  exact ⟨log,rfl,fun _=>by simp [asInts]⟩⟩
theorem SameRun.none {keep:Bool} {log:List (Bs×Int)}:SameRun keep log none none:=⟨fun _=>rfl,fun c ms h=>by simp at h⟩
mutual
def okS:SC->Prop
 | .mk b t env _ _=>wfB b/\okSs env/\fitB (env.map SC.kind++t.args) b
def okSs:List SC->Prop
 | []=>True
 | x::xs=>okS x/\okSs xs
end
structure okF (x:SF):Prop where
 yes:wfB x.yes
 no:wfB x.no
 env:okSs x.env
 node:fitB (x.env.map SC.kind) (.ask x.v x.ss x.yes x.no)
theorem okF.fits {x:SF} (h:okF x):fitB (x.env.map SC.kind) x.yes/\fitB (x.env.map SC.kind) x.no:=by
 have:=h.node
 rw [fitB] at this
 obtain ⟨t,_,_,h1,h2⟩:=this
 exact ⟨h1,h2⟩

theorem eqStringS_any (a a':Option Addr) (c c':Nat) (xs:List Bs) (w:World) (h:StrsAt w a xs) (h':StrsAt w a' xs) (hx:xs.length<=16777216) :
 Calls Tryd.prog 34 #[.slice a xs.length c,.slice a' xs.length c'] w fun en w'=>en=.returned (.bool true)/\Below w.heap.size w w':=by
 have H:=Lib.hid h;have H':=Lib.hid h';clear h h'
 go_enter Tryd.func34,Tryd.ntmps34
 go_wp2_with fail
 go_loopw [5] (fun i wr=>∃ k:Nat,k<=xs.length/\i=.int .i64 k/\Below w.heap.size w wr) (fun i _=>xs.length-(intOf i).toNat)
 case atStart=>exact ⟨0,Nat.zero_le _,rfl,Below.refl _ _⟩
 case round =>
  obtain ⟨k,hk,rfl,hb⟩:=hrel
  by_cases hlt:k<xs.length
  ·obtain ⟨s,hks⟩:∃ s,xs[k]? = some s:=⟨xs[k],by simp [hlt]⟩
   obtain ⟨b,o,e,hc⟩:=H.out.below hb k s hks
   obtain ⟨b2,o2,e2,hc2⟩:=H'.out.below hb k s hks
   subst e;subst e2
   clear hks
   have hlt':(k:Int)<(xs.length:Int):=by omega
   have hne:(s == s)=true:=by simp
   have HB:=Lib.hid hb;clear hb
   go_wp2_with fail
   go_quiet (fail)
   go_wp2_with fail
   go_roundw
   case rel=>exact ⟨k+1,by omega,by go_num,below_dN HB.out _⟩
   case measure=>simp [intOf];omega
  ·obtain rfl:k=xs.length:=by omega
   go_wp2_with fail
   go_ret
   exact ⟨rfl,hb⟩
def Made (g:Nat) (xs:List Bs) (k:Nat) (w:World):Prop :=
 ∃ Y:Array Value,w.heap[g]? = some (.cells Y 9 (0,0))/\Y.size=xs.length/\∀ (j:Nat) (s:Bs),j<k->xs[j]? = some s->Y[j]? = some (str s)
theorem Made.cell {g:Nat} {xs:List Bs} {k:Nat} {w:World} (h:Made g xs k w) (hk:k<xs.length):(∃ u,w.cell? ⟨g,k,none⟩=some u)/\w.frozen? ⟨g,k,none⟩=false:=by
 obtain ⟨Y,hY,hs,_⟩:=h
 exact ⟨⟨Y[k]'(by omega),by simp [World.cell?,hY,show k<Y.size by omega]⟩,by simp [World.frozen?,hY]⟩
theorem Made.put {g:Nat} {xs:List Bs} {k:Nat} {w:World} (h:Made g xs k w) {s:Bs} (hk:xs[k]? = some s):Made g xs (k+1) (w.setCell ⟨g,k,none⟩ (str s)):=by
 obtain ⟨Y,hY,hs,hj⟩:=h
 refine ⟨Y.setIfInBounds k (str s),setCell_at hY,by simp [hs],fun j s' hj' hs'=>?_⟩
 have hlt:=(List.getElem?_eq_some_iff.1 hk).1
 rcases Nat.lt_or_ge j k with h | h
 ·rw [Array.getElem?_setIfInBounds_ne (by omega)];exact hj j s' h hs'
 ·obtain rfl:j=k:=by omega
  rw [hk] at hs';simp at hs';subst hs'
  rw [Array.getElem?_setIfInBounds_self_of_lt (by omega)]
end Go.Proofs.YthoimoenbccflaaDoor

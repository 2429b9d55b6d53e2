/- Walks of functions that the statement reaches, and plain words. No conditions. -/
import Derived.Lib.SliceRun
import Derived.RangeFuncNested
import Derived.RangeFuncBound
import Derived.RangeFuncCalls
import Derived.RangeFuncLeaves
import Derived.RangeFuncFrom
import Derived.RangeFuncBox
import Derived.Shelf.Abstract
import Derived.Shelf.RegionOpen
import Derived.OwnWalkIn
import Derived.TacticsInMore
import Derived.LoopNIn
import Derived.LoopIn
import Derived.Maps.Own
import Derived.Test.YtjggkhmojjaomaaGreatDoorQ6
set_option linter.unusedVariables false
set_option linter.unusedSimpArgs false
set_option maxHeartbeats 8000000
namespace Go.Proofs.YtjggkhmojjaomaaGreatDoor
open Go.RowKit
theorem eE (n:Nat) (s:Value) (xs:List Value) (w:World) (h:zO 1 s n xs w) (hn:Lim n) :
 Calls Tryz.prog 57 #[s] w fun en w' =>
  ∃ a c,en=.returned (.slice a n c)/\Own w' 34 1 (.slice a n c) n xs/\Below w.heap.size w w'/\(∀ g,(Value.slice a n c).ownBlock=some g->w.heap.size<=g):=by
 have hl:=hn.le
 obtain ⟨a,c,e⟩:=h.slice
 subst e
 cases a with
 | none =>
   have h0:n=0/\c=0:=by
    obtain ⟨_,_,⟨a',c',e,_⟩ | ⟨e,h0⟩⟩:=h
    ·simp at e
    ·simp at e;exact e
   obtain ⟨rfl,rfl⟩:=h0
   have hx:xs=[]:=List.eq_nil_of_length_eq_zero (by simpa using h.1)
   subst hx
   have q:=fun w=>Lib.run_eql_slice_nil (P:=Tryz.prog) w 66 34 none 0 0 0 0 Tryz.underlying66
   go_enter Tryz.func57,Tryz.ntmps57
   go_wp2_with fail
   go_ret
   exact ⟨none,0,rfl,World.ownsRow_nil _ _ _ _,e_ _ _,fun g h=>by simp [Value.ownBlock] at h⟩
 | some a =>
   have q:=fun w=>Lib.run_eql_slice_nil (P:=Tryz.prog) w 66 34 (some a) n c 0 0 Tryz.underlying66
   go_enter Tryz.func57,Tryz.ntmps57
   go_wp2_with (at_builtin;refine zD rfl _ _ 66 rfl 34 (.pointer none) 1 8 Tryz.underlying66 Tryz.infoB rfl (by decide) _ 0 [] rfl ?c1 _ n xs rfl ?c2 ?c3 ?c4 ?_)
   case c1=>exact Own.lit #[] 0 (by decide) rfl
   case c2=>exact h.keep fun _ _ h=>zJ h
   case c3=>unfold maxLen;omega
   case c4=>omega
   intro a' c' w' ho hb hg
   go_wp2_with fail
   go_ret
   refine ⟨a',c',rfl,ho,((e_ w.heap.size w).alloc (ei _) _).trans (hb.toBelow (by simp) (fun i hi e=>by simp [Value.ownBlock] at e;omega)),fun g h=>?_⟩
   rcases hg g h with h | h
   ·simp [Value.ownBlock] at h;omega
   ·omega
def pd (F:Nat->Prop) (w:World) (b:Bd) (en:Ending) (w':World):Prop :=
 ∃ v,en=.returned v/\Below w.heap.size w w'/\Rep (fun k=>F k\/w.heap.size<=k) w' (.sl 34 1 (kI b).length (q_ (kI b))) v
theorem parts_leaf (F:Nat->Prop) (w:World) (c:UInt8) (v:Value) (h:Rep F w (qZ (.leaf c)) v) :
 Calls Tryz.prog 31 #[v] w (pd F w (.leaf c)):=by
 obtain ⟨a,e⟩:=zi h
 subst e
 go_enter Tryz.func31,Tryz.ntmps31
 go_wp2_with fail
 refine (yE F w c _ h).mono ?_
 rintro en w' ⟨rfl,e⟩
 subst e
 go_wp2_with fail
 go_ret
 exact ⟨_,rfl,e_ _ _,zp.2 ⟨rfl,none,0,rfl,ei _,fun _=>rfl,.inl rfl⟩⟩
theorem but_below {w wc w6:World} {o:Obj} {v:Value} (hbb:Below w.heap.size w wc) (fC:But (fun b=>v.ownBlock=some b) (wc.alloc o) w6)
 (AF:∀ g,v.ownBlock=some g->w.heap.size<=g):Below w.heap.size w w6:=by
 refine (hbb.alloc hbb.size _).trans (fC.toBelow ?_ ?_)
 ·have:=hbb.size
  show w.heap.size<=(wc.heap.push o).size
  rw [Array.size_push];omega
 ·intro i hi e
  have h:w.heap.size<=i:=AF i e
  omega
theorem but_below2 {w wc w6:World} {v:Value} (hbb:Below w.heap.size w wc) (fC:But (fun b=>v.ownBlock=some b) wc w6)
 (AF:∀ g,v.ownBlock=some g->w.heap.size<=g):Below w.heap.size w w6:=by
 refine hbb.trans (fC.toBelow hbb.size ?_)
 intro i hi e
 have h:w.heap.size<=i:=AF i e
 omega
theorem own_1 {w wc:World} {o:Obj} {v v':Value} (hbb:Below w.heap.size w wc) (AF:∀ g,v.ownBlock=some g->w.heap.size<=g)
 (hg:∀ g,v'.ownBlock=some g->v.ownBlock=some g\/g=(wc.alloc o).heap.size):∀ g,v'.ownBlock=some g->w.heap.size<=g:=by
 intro g h
 rcases hg g h with h | h
 ·exact AF g h
 ·have:=hbb.size
  rw [h,zK];omega
theorem own_2 {w wc:World} {v v':Value} (hbb:Below w.heap.size w wc) (AF:∀ g,v.ownBlock=some g->w.heap.size<=g)
 (hg:∀ g,v'.ownBlock=some g->v.ownBlock=some g\/g=wc.heap.size):∀ g,v'.ownBlock=some g->w.heap.size<=g:=by
 intro g h
 rcases hg g h with h | h
 ·exact AF g h
 ·have:=hbb.size
  rw [h];omega
theorem own_ad {w:World} {o:Obj} {v:Value} (h:∀ g,v.ownBlock=some g->(w.alloc o).drew.heap.size<=g):∀ g,v.ownBlock=some g->w.heap.size<=g:=by
 intro g hg
 have:=h g hg
 have h2:(w.alloc o).drew.heap.size=w.heap.size+1:=zK w o
 omega
set_option maxRecDepth 100000 in
theorem parts_ask (F:Nat->Prop) (w:World) (v:Nat) (ss:List Bd) (y n:Bd) (p:Value) (h:Rep F w (qZ (.ask v ss y n)) p) (hn:Lim (ss.length+2)) :
 Calls Tryz.prog 31 #[p] w (pd F w (.ask v ss y n)):=by
 obtain ⟨b,sl,yv,nv,e,Kd,hc,mm,hy,hnn⟩:=uw h
 subst e
 obtain ⟨xs,iu,mC⟩:=zO.ofRep mm (oneCell_encBs _)
 obtain ⟨sa,sc,esl⟩:=mC.slice
 subst esl
 obtain ⟨ya,ey⟩:=zi hy
 obtain ⟨na,ena⟩:=zi hnn
 subst ey;subst ena
 have c2:w.cell? ⟨b,2,none⟩=some (.slice sa ss.length sc):=by simp [World.cell?,hc]
 have c3:w.cell? ⟨b,3,none⟩=some (.pointer (some ⟨ya,0,none⟩)):=by simp [World.cell?,hc]
 have c4:w.cell? ⟨b,4,none⟩=some (.pointer (some ⟨na,0,none⟩)):=by simp [World.cell?,hc]
 have lb:=zZ hc
 have hl:=hn.le
 clear hc
 go_enter Tryz.func31,Tryz.ntmps31
 go_wp2_with fail
 refine (xQ F w v ss y n _ h).mono ?_
 rintro en w' ⟨rfl,e⟩
 obtain rfl:w=w':=e.symm
 go_wp2_with fail
 have aZ:Lim ss.length:=hn.mono (by omega)
 have hm:ss.length+2<=maxLen:=by unfold maxLen;omega
 have nP:(ss.length+2)*8<=140737488355328:=by omega
 have h01:0<1:=by omega
 have AA:∀ u∈(#[.pointer (some ⟨ya,0,none⟩),.pointer (some ⟨na,0,none⟩)]:Array Value).toList,u.oneCell'=true:=by simp [Value.oneCell']
 have HO:=ed AA;clear AA
 go_region_held3 (fun w'=>w'.cell? ⟨b,2,none⟩=some (.slice sa ss.length sc)/\w'.cell? ⟨b,3,none⟩=some (.pointer (some ⟨ya,0,none⟩))/\w'.cell? ⟨b,4,none⟩=some (.pointer (some ⟨na,0,none⟩)))
  (first
   | exact ⟨(Dq.cell lb).trans c2,(Dq.cell lb).trans c3,(Dq.cell lb).trans c4⟩
   | exact ⟨(hbb.cell lb).trans c2,(hbb.cell lb).trans c3,(hbb.cell lb).trans c4⟩
   | go_keep)
  (first
   | (go_at_call 57;refine (eE ss.length _ xs _ mC.drew aZ).mono ?_;rintro en wc ⟨ac,kc,rfl,hoc,hbc,F6⟩;have hbb:Below w.heap.size w wc:=(e_ w.heap.size w).drew.trans hbc;have AF:∀ g,(Value.slice ac ss.length kc).ownBlock=some g->w.heap.size<=g:=F6)
   | (go_at_call 57;refine (eE ss.length _ xs _ (mC.alloc _).drew aZ).mono ?_;rintro en wc ⟨ac,kc,rfl,hoc,hbc,F6⟩;have DM:=(zO.lits #[.pointer (some ⟨ya,0,none⟩),.pointer (some ⟨na,0,none⟩)] 2 rfl HO.out _ rfl).drew.below hbc;have hbb:Below w.heap.size w wc:=below_ad hbc;have AF:=own_ad F6)
   | (refine zE (by rfl) _ _ _ (by rfl) 34 (.pointer none) 1 8 Tryz.underlying66 Tryz.infoB rfl h01 (.slice ac ss.length kc) ss.length xs (by rfl) hoc _ 2 [.pointer (some ⟨ya,0,none⟩),.pointer (some ⟨na,0,none⟩)] (by rfl) DM hm nP ?_;intro a' c' w6 rB fC rO;have Dq:Below w.heap.size w w6:=but_below2 hbb fC AF;have hFg:=own_2 hbb AF rO)
   | (refine zE (by rfl) _ _ _ (by rfl) 34 (.pointer none) 1 8 Tryz.underlying66 Tryz.infoB rfl h01 (.slice ac ss.length kc) ss.length xs (by rfl) (hoc.alloc _) _ 2 [.pointer (some ⟨ya,0,none⟩),.pointer (some ⟨na,0,none⟩)] (by rfl) (zO.lits #[.pointer (some ⟨ya,0,none⟩),.pointer (some ⟨na,0,none⟩)] 2 rfl HO.out _ rfl) hm nP ?_;intro a' c' w6 rB fC rO;have Dq:Below w.heap.size w w6:=but_below hbb fC AF;have hFg:=own_1 hbb AF rO))
 all_goals
  go_wp2_with fail
  go_ret
  refine ⟨_,rfl,Dq,?_⟩
  have:(kI (.ask v ss y n)).length=ss.length+2:=by simp [kI]
  rw [this]
  refine rB.rep (fun g h=>.inr (hFg g h)) ?_
  show zX _ _ (q_ (ss++[y,n])) _
  rw [encBs_append]
  refine zX.append (zX.below Dq (fun _ h=>.inl h) iu) ?_
  exact zQ.2 ⟨_,_,rfl,Rep.below Dq (fun _ h=>.inl h) hy,zX.one (Rep.below Dq (fun _ h=>.inl h) hnn)⟩
theorem cU (F:Nat->Prop) (w:World) (b:Bd) (v:Value) (h:Rep F w (qZ b) v) (hn:Lim (zW b)) :
 Calls Tryz.prog 31 #[v] w (pd F w b):=by
 cases b with
 | leaf c=>exact parts_leaf F w c v h
 | ask u ss y n=>exact parts_ask F w u ss y n v h (hn.mono (by
  have:=qB ss;have:=kW y;have:=kW n;simp [zW];omega))
def cM (b:Bd):Prop:=∀ (F:Nat->Prop) (w:World) (v:Value),Rep F w (qZ b) v ->
 Calls Tryz.prog 81 #[v] w fun en w'=>en=.returned (.int .i64 (kR b:Nat))/\Below w.heap.size w w'
theorem depth_step (b:Bd) (hl:Lim (zW b)) (ih:∀ t,zW t<zW b->cM t):cM b:=by
 intro F w v hv
 have IH:=ed ih;clear ih
 have tH:=hl.le
 obtain ⟨a0,e⟩:=zi hv
 subst e
 have hsz:=uC b
 have hdl:=px _ b (ei _)
 go_enter Tryz.func81,Tryz.ntmps81
 go_wp2_with fail
 refine (cU F w b _ hv hl).mono ?_
 rintro en w1 ⟨pv,rfl,fP,hp⟩
 obtain ⟨pa,pc,e,_,_,fU⟩:=zP hp
 subst e
 have AT:=ed fU;clear fU hp
 have hlen:=qB (kI b)
 have HS:=ed hsz;clear hsz
 have Je:(kI b).length<=16777216:=by have:=HS.out;omega
 go_wp2_with fail
 go_loopw [3,9] (fun n i wr=>∃ k:Nat,k<=(kI b).length/\i=.int .i64 k/\n=.int .i64 (( kx ((kI b).take k):Nat):Int)/\Below w1.heap.size w1 wr) (fun _ i _=>(kI b).length-(intOf i).toNat)
 case atStart=>exact ⟨0,Nat.zero_le _,rfl,by simp [kx],e_ _ _⟩
 case round =>
  rename_i wr
  obtain ⟨k,hk,rfl,rfl,hb⟩:=hrel
  by_cases fG:k<(kI b).length
  ·obtain ⟨ba,oa,u,d,ea,_,Gd,hd,hu,hr⟩:=AT.out k fG
   subst ea
   rw [xJ,Option.map_eq_some_iff] at hd
   obtain ⟨t,ht,rfl⟩:=hd
   obtain ⟨ta,eu⟩:=zi hr
   subst eu
   have hc:wr.cell? ⟨ba,oa+k,none⟩=some (.pointer (some ⟨ta,0,none⟩)):=by rw [hb.cell Gd];exact hu
   have sn:=depthBs_take ht
   have ig:=yP ht
   have mH:=jd (kI b) (k+1)
   have rA:Rep _ wr (qZ t) (.pointer (some ⟨ta,0,none⟩)):=Rep.below hb (fun _ h=>h) hr
   have hsz:=HS.out
   have iN:zW t<zW b:=by omega
   have hdt:=px _ t (ei _)
   have IH':=ed (IH.out t iN)
   have ib:kx ((kI b).take k)<=16777216:=by have h:=eB (ts:=(kI b).take k) (fun t _=>px _ t (ei _));have:=jd (kI b) k;omega
   have htd:kR t<=16777216:=by omega
   have HT:=ed sn
   clear sn ig hsz ht hu hr
   go_wp2_with fail
   refine (IH'.out _ _ _ rA).mono ?_
   rintro en w2 ⟨rfl,fY⟩
   have fE:=zzT hb fY
   go_wp2_with fail
   all_goals
    go_roundw
    case rel=>exact ⟨k+1,by omega,by go_num,by rw [HT.out];congr 1;omega,fE⟩
    case measure=>simp [intOf];omega
  ·obtain rfl:k=(kI b).length:=by omega
   go_wp2_with fail
   go_ret
   refine ⟨yq ?_,zzT fP hb⟩
   rw [List.take_length,yu b]
theorem depth_any (n:Nat):∀ b,zW b<=n->Lim n->cM b:=by
 induction n with
 | zero=>intro b h _;have:=kW b;omega
 | succ n ih=>exact fun b h hn=>depth_step b (hn.mono h) (fun t h'=>ih t (by omega) (hn.mono (by omega)))
def dh (b:Bd):Prop:=∀ (F:Nat->Prop) (w:World) (v:Value),Rep F w (qZ b) v ->
 Calls Tryz.prog 80 #[v] w fun en w'=>en=.returned (.int .i64 (zW b:Nat))/\Below w.heap.size w w'
theorem size_step (b:Bd) (hl:Lim (zW b)) (ih:∀ t,zW t<zW b->dh t):dh b:=by
 intro F w v hv
 have IH:=ed ih;clear ih
 have tH:=hl.le
 obtain ⟨a0,e⟩:=zi hv
 subst e
 have hsz:=uC b
 go_enter Tryz.func80,Tryz.ntmps80
 go_wp2_with fail
 refine (cU F w b _ hv hl).mono ?_
 rintro en w1 ⟨pv,rfl,fP,hp⟩
 obtain ⟨pa,pc,e,_,_,fU⟩:=zP hp
 subst e
 have AT:=ed fU;clear fU hp
 have hlen:=qB (kI b)
 have HS:=ed hsz;clear hsz
 have Je:(kI b).length<=16777216:=by have:=HS.out;omega
 go_wp2_with fail
 go_loopw [3,9] (fun n i wr=>∃ k:Nat,k<=(kI b).length/\i=.int .i64 k/\n=.int .i64 ((1+zR ((kI b).take k):Nat):Int)/\Below w1.heap.size w1 wr) (fun _ i _=>(kI b).length-(intOf i).toNat)
 case atStart=>exact ⟨0,Nat.zero_le _,rfl,by simp [zR],e_ _ _⟩
 case round =>
  rename_i wr
  obtain ⟨k,hk,rfl,rfl,hb⟩:=hrel
  by_cases fG:k<(kI b).length
  ·obtain ⟨ba,oa,u,d,ea,_,Gd,hd,hu,hr⟩:=AT.out k fG
   subst ea
   rw [xJ,Option.map_eq_some_iff] at hd
   obtain ⟨t,ht,rfl⟩:=hd
   obtain ⟨ta,eu⟩:=zi hr
   subst eu
   have hc:wr.cell? ⟨ba,oa+k,none⟩=some (.pointer (some ⟨ta,0,none⟩)):=by rw [hb.cell Gd];exact hu
   have ig:=yP ht
   have mH:=jd (kI b) (k+1)
   have rA:Rep _ wr (qZ t) (.pointer (some ⟨ta,0,none⟩)):=Rep.below hb (fun _ h=>h) hr
   have hsz:=HS.out
   have iN:zW t<zW b:=by omega
   have IH':=ed (IH.out t iN)
   have ib:1+zR ((kI b).take k)<=16777216:=by omega
   have htd:zW t<=16777216:=by omega
   have Ix:1+zR ((kI b).take k)+zW t<=16777216:=by omega
   have HT:=ed ig
   clear ig hsz ht hu hr
   go_wp2_with fail
   refine (IH'.out _ _ _ rA).mono ?_
   rintro en w2 ⟨rfl,fY⟩
   have fE:=zzT hb fY
   go_wp2_with fail
   all_goals
    go_roundw
    case rel=>exact ⟨k+1,by omega,by go_num,by rw [HT.out];congr 1;omega,fE⟩
    case measure=>simp [intOf];omega
  ·obtain rfl:k=(kI b).length:=by omega
   have ib:1+zR (kI b)<=16777216:=by have:=HS.out;omega
   rw [List.take_length]
   go_wp2_with fail
   go_ret
   exact ⟨yq (by rw [HS.out]),zzT fP hb⟩
theorem size_any (n:Nat):∀ b,zW b<=n->Lim n->dh b:=by
 induction n with
 | zero=>intro b h _;have:=kW b;omega
 | succ n ih=>exact fun b h hn=>size_step b (hn.mono h) (fun t h'=>ih t (by omega) (hn.mono (by omega)))
end Go.Proofs.YtjggkhmojjaomaaGreatDoor
namespace Go.Proofs.YtjggkhmojjaomaaGreatDoor
open Go.RowKit Go.Shelf
attribute [local go_sem] Oper.semAt_some
def KpB (n₀:Nat) (p:Addr) (sv:Value) (W W':World):Prop:=Below n₀ W W'/\(W.cell? p=some sv->W'.cell? p=some sv)
theorem kpB_t {n₀:Nat} {p:Addr} {sv:Value} {A B C:World} (h:KpB n₀ p sv A B) (k:KpB n₀ p sv B C):KpB n₀ p sv A C:=⟨h.1.trans k.1,fun e=>k.2 (h.2 e)⟩
theorem kpB_b {n₀:Nat} {p:Addr} {sv:Value} {w:World} (hn:n₀<=w.heap.size) (W:World) (l:Nat) (o o':Obj) (hl:w.heap.size<=l) (h:W.heap[l]? = some o) (hc:o.isCells=false) (hw:o.isWalk=false):KpB n₀ p sv W (W.putObj l o') :=
 ⟨belowK_b hn W l o o' hl h hc hw,fun e=>cell_kept e (grownBy_putObj' _ l o') (fun r e=>by cases e;exact ⟨_,h,hc⟩)⟩
def BackAt {α:Type} (ix bl:α->Nat) (n₀:Nat) (w:World) (a:Option Addr) (xs:List α):Prop :=
 ∀ k x,xs[k]? = some x->ix x+k+1=xs.length/\∃ b o,a=some ⟨b,o,none⟩/\b<n₀/\w.cell? ⟨b,o+ix x,none⟩=some (.pointer (some ⟨bl x,0,none⟩))
set_option maxRecDepth 100000 in
theorem back1_in {α:Type} (ix bl:α->Nat) (F:Fence) (n:Nat) (hf:F.fn 74) (IK:F.round=none) (hn:1<=n) (l Bs n₀ cap:Nat) (a:Option Addr) (xs:List α) (hlen:xs.length<=16777216) (J Jx:List α->World->Prop)
 (hY:∀ pre x W,J pre W->pre.length<xs.length->YieldAt F (n-1) Tryz.prog l #[.int .i64 (ix x:Nat),.pointer (some ⟨bl x,0,none⟩)] W fun e W' =>
  (e=.returned (.bool true)/\J (pre++[x]) W'/\KpB n₀ ⟨Bs,0,none⟩ (.slice a xs.length cap) W W')\/(e=.returned (.bool false)/\Jx (pre++[x]) W'))
 (W:World) (hBs:W.cell? ⟨Bs,0,none⟩=some (.slice a xs.length cap)) (hc:BackAt ix bl n₀ W a xs) (h0:J [] W) :
 CallsIn F n Tryz.prog 74 #[.func (.yield l) #[] #[],.pointer (some ⟨Bs,0,none⟩)] W fun e W'=>(∃ v,e=.returned v) /\
  ((∃ ys,ys=xs/\J ys W')\/(∃ pre,pre <+: xs/\Jx pre W')):=by
 refine callsIn_of_wp Tryz.func74 rfl hf ?_ IK
 simp only [Tryz.ntmps74,List.size_toArray,List.length_cons,List.length_nil,Nat.reduceAdd,Nat.reduceSub,Array.replicate_succ,Array.replicate_zero,List.push_toArray,List.append_toArray,List.nil_append,List.cons_append]
 have Fu:IntKind.i64.wrap ((xs.length:Int)-1)=(xs.length:Int)-1:=IntWalk.i64_in _ (by omega)
 gi_wp2
 clear Fu
 gi_loopw [3] (fun i wr=>Below n₀ W wr/\wr.cell? ⟨Bs,0,none⟩=some (.slice a xs.length cap)/\((i=.int .i64 (-1)/\J xs wr)\/(∃ j:Nat,j<xs.length/\i=.int .i64 (j:Nat)/\J (xs.take (xs.length-1-j)) wr)))
  (fun i _=>(intOf i+1).toNat)
 case atStart =>
  refine ⟨e_ _ _,hBs,?_⟩
  cases hx:xs with
  | nil=>subst hx;exact .inl ⟨by simp,h0⟩
  | cons x ys=>subst hx;exact .inr ⟨ys.length,by simp,by simp,by simpa using h0⟩
 case round =>
  obtain ⟨fh,hbs,⟨rfl,hJs⟩ | ⟨j,hj,rfl,hJs⟩⟩:=hrel
  ·gi_wp2
   go_end0
   exact ⟨⟨_,rfl⟩,.inl ⟨_,rfl,hJs⟩⟩
  ·have hj0:(0:Int)<=(j:Int):=by omega
   obtain ⟨x,hx⟩:∃ x,xs[xs.length-1-j]? = some x:=⟨xs[xs.length-1-j],by simp [show xs.length-1-j<xs.length from by omega]⟩
   obtain ⟨e1,b,o,rfl,hb,nW⟩:=hc _ x hx
   have e2:ix x=j:=by omega
   have hcx:=(fh.cell (p:=⟨b,o+ix x,none⟩) hb).trans nW
   obtain ⟨fn,tmps,assign,body,hy,hR⟩:=hY _ x wr hJs (by rw [List.length_take];omega)
   rw [e2] at hcx hy
   have mI:xs.take (xs.length-1-j)++[x]=xs.take (xs.length-1-j+1):=by rw [List.take_add_one,hx];rfl
   have HX:=ed (ef e1 (ef e2 (ef hx mI)))
   clear hx e1 e2 mI nW
   have Af:(j:Int)<(xs.length:Int):=by omega
   have Ip:IntKind.i64.wrap ((j:Int)-1)=(j:Int)-1:=IntWalk.i64_in _ (by omega)
   gi_wp2
   refine hR.mono ?_
   rintro e W3 (⟨rfl,Kc,Jj⟩ | ⟨rfl,hJx3⟩)
   ·have hbs3:=Jj.2 hbs
    have hbw3:=fh.trans Jj.1
    gi_wp2
    go_roundw
    case rel =>
     refine ⟨hbw3,hbs3,?_⟩
     rw [HX.out.2.2.2] at Kc
     cases j with
     | zero =>
       left
       refine ⟨by simp,?_⟩
       rw [show xs.length-1-0+1=xs.length from by omega,List.take_length] at Kc
       exact Kc
     | succ j =>
       right
       refine ⟨j,by omega,by simp,?_⟩
       rw [show xs.length-1-(j+1)+1=xs.length-1-j from by omega] at Kc
       exact Kc
    case measure=>simp [intOf]
   ·gi_wp2
    refine bodyPost_ret (results_none rfl _ _ _) rfl ?_
    exact ⟨⟨_,rfl⟩,.inr ⟨_,by rw [HX.out.2.2.2];exact List.take_prefix _ _,hJx3⟩⟩
theorem back_in (F:Fence) (n:Nat) (hf:F.fn 52) (IK:F.round=none) (a:Option Addr) (len cap:Nat) (w:World) :
 CallsIn F n Tryz.prog 52 #[.slice a len cap] w fun e w'=>e=.returned (.func (.func 74) #[] #[.pointer (some ⟨w.heap.size,0,none⟩)])/\w'=w.alloc (.cells #[.slice a len cap] 100):=by
 refine callsIn_of_wp Tryz.func52 rfl hf ?_ IK
 simp only [Tryz.ntmps52,List.size_toArray,List.length_cons,List.length_nil,Nat.reduceAdd,Nat.reduceSub,Array.replicate_succ,Array.replicate_zero,List.push_toArray,List.append_toArray,List.nil_append,List.cons_append]
 gi_wp2
 go_ret
 exact ⟨rfl,rfl⟩
theorem back_stops {α:Type} (ix bl:α->Nat) (F:Fence) (n:Nat) (hf:F.fn 74) (IK:F.round=none) (hn:1<=n) (Bs n₀ cap:Nat) (a:Option Addr) (xs:List α) (hlen:xs.length<=16777216) (w:World) (hBs:Bs<w.heap.size) (hn₀:n₀<=w.heap.size)
 (hc:w.cell? ⟨Bs,0,none⟩=some (.slice a xs.length cap)) (hI:BackAt ix bl n₀ w a xs) :
 SeqStopsK F n Tryz.prog 74 #[.pointer (some ⟨Bs,0,none⟩)] (fun x:α=>#[Value.int .i64 (ix x:Nat),.pointer (some ⟨bl x,0,none⟩)]) (KpB n₀ ⟨Bs,0,none⟩ (.slice a xs.length cap)) (fun ys=>ys=xs) (fun pre=>pre <+: xs) xs.length w:=fun l J Jx W hW _ _ hY h0 =>
 back1_in ix bl F n hf IK hn l Bs n₀ cap a xs hlen J Jx hY W ((hW.cell (p:=⟨Bs,0,none⟩) hBs).trans hc) (fun k x hx=>by
  obtain ⟨h1,b,o,h2,h3,h4⟩:=hI k x hx
  exact ⟨h1,b,o,h2,h3,((hW.mono hn₀).cell (p:=⟨b,o+ix x,none⟩) h3).trans h4⟩) h0
def jh:List Ty->Bs:=List.foldl (fun s t=>[40,62,32]++zF t++[32]++s++[41]) [98]
theorem pr (pre:List Ty) (t:Ty):jh (pre++[t])=[40,62,32]++zF t++[32]++jh pre++[41]:=by simp [jh]
theorem gu:∀ ts:List Ty,jh ts.reverse=zF (.mk ts)
 | []=>by rw [ue];rfl
 | t::ts=>by rw [List.reverse_cons,pr,gu ts,uX];simp
structure wB (F:Nat->Prop) (w:World) (t0:Ty) where
 ix:Nat
 bl:Nat
 ty:Ty
 rep:Rep F w (jG ty) (.pointer (some ⟨bl,0,none⟩))
 low:zV ty<zV t0
def cK (t:Ty):Prop:=∀ (F:Nat->Prop) (w:World) (v:Value),Rep F w (jG t) v ->
 Calls Tryz.prog 21 #[v] w fun en w'=>en=.returned (str (zF t))/\Below w.heap.size w w'
theorem textFrom_len (pre:List Ty) (C:Nat) (h:∀ t∈pre,(zF t).length<=C):(jh pre).length<=1+pre.length*(C+5):=by
 have key:∀ (pre:List Ty) (s:Bs),(∀ t∈pre,(zF t).length<=C)->(pre.foldl (fun s t=>[40,62,32]++zF t++[32]++s++[41]) s).length<=s.length+pre.length*(C+5):=by
  intro pre
  induction pre with
  | nil=>intro s _;simp
  | cons t pre ih =>
    intro s h
    have h1:=ih ([40,62,32]++zF t++[32]++s++[41]) fun x hx=>h x (by simp [hx])
    have h2:=h t (by simp)
    simp only [List.foldl_cons,List.length_append,List.length_cons,List.length_nil] at h1 ⊢
    rw [Nat.add_mul]
    omega
 have:=key pre [98] h
 simpa [jh] using this
theorem items_of {F:Nat->Prop} {w:World} {t:Ty} {a:Option Addr} {n₀:Nat} (hF:∀ i,F i->i<n₀) (fU:Ats F w t.args.length (jN t.args) a) :
 ∃ xs:List (wB F w t),xs.length=t.args.length/\xs.map wB.ty=t.args.reverse/\BackAt wB.ix wB.bl n₀ w a xs:=by
 have key:∀ m,m<=t.args.length->∃ xs:List (wB F w t),xs.length=m/\xs.map wB.ty=(t.args.take m).reverse/\∀ k x,xs[k]? = some x->x.ix+k+1=m/\∃ b o,a=some ⟨b,o,none⟩/\b<n₀/\w.cell? ⟨b,o+x.ix,none⟩=some (.pointer (some ⟨x.bl,0,none⟩)):=by
  intro m
  induction m with
  | zero=>intro _;exact ⟨[],rfl,by simp,by simp⟩
  | succ m ih =>
    intro hm
    obtain ⟨xs,h1,h2,h3⟩:=ih (by omega)
    obtain ⟨b,o,u,d,ea,Kd,fh,hd,hc,nI⟩:=fU m (by omega)
    rw [pJ,Option.map_eq_some_iff] at hd
    obtain ⟨ty,ht,rfl⟩:=hd
    obtain ⟨ub,_,rfl,_⟩:=kZ nI
    have rL:zV ty<zV t:=by
     have:=yx ht
     have:=uU t.args (m+1)
     have:=qw t
     omega
    refine ⟨⟨m,ub,ty,nI,rL⟩::xs,by simp [h1],?_,fun k x hk=>?_⟩
    ·rw [List.map_cons,h2,List.take_add_one,ht];simp
    ·cases k with
     | zero =>
       simp at hk;subst hk
       exact ⟨rfl,b,o,ea,hF b Kd,hc⟩
     | succ k =>
       obtain ⟨q1,q2⟩:=h3 k x (by simpa using hk)
       exact ⟨by omega,q2⟩
 obtain ⟨xs,h1,h2,h3⟩:=key t.args.length (ei _)
 rw [List.take_length] at h2
 exact ⟨xs,h1,h2,fun k x hk=>by obtain ⟨q1,q2⟩:=h3 k x hk;exact ⟨by omega,q2⟩⟩
theorem eJ {A B:World} (h:Below A.heap.size A B):KeepsOthers A B :=
 ⟨h.size,fun k o hk _=>(h.block k (zZ hk)).trans hk⟩
theorem keeps_round {w W w':World} {sv:Value} {R O T:Bs} {n₀:Nat} (hn:n₀<=w.heap.size) (hB:Below w.heap.size w W) (hb:Below W.heap.size W.drew w') (hc:w'.cell? ⟨w.heap.size,0,none⟩=some (str R)) (hf:w'.frozen? ⟨w.heap.size,0,none⟩=false) (hT:T=O) :
 KeepsOthers W (w'.setCell ⟨w.heap.size,0,none⟩ (str O))/\KpB w.heap.size ⟨w.heap.size+1,0,none⟩ sv W (w'.setCell ⟨w.heap.size,0,none⟩ (str O)) /\
  ((w'.setCell ⟨w.heap.size,0,none⟩ (str O)).cell? ⟨w.heap.size,0,none⟩=some (str T)/\(w'.setCell ⟨w.heap.size,0,none⟩ (str O)).frozen? ⟨w.heap.size,0,none⟩=false)/\Below w.heap.size w (w'.setCell ⟨w.heap.size,0,none⟩ (str O)):=by
 have h1:Below W.heap.size W w':=⟨hb.os,hb.tape,hb.output,hb.size,hb.block⟩
 have h2:=(h1.mono hB.size).setCell (p:=⟨w.heap.size,0,none⟩) (ei _) (str O)
 subst hT
 refine ⟨(eJ h1).trans (KeepsOthers.setCell _ _ _),⟨h2,fun e=>?_⟩,⟨World.cell?_setCell_same' _ _ _ (by rw [hc];rfl),by rw [World.frozen?_setCell];exact hf⟩,hB.trans h2⟩
 have h3:=(h1.cell (p:=⟨w.heap.size+1,0,none⟩) (e9 W _ e)).trans e
 rw [World.cell?_of_block (w:=w') (fZ _ _ _ _ (by simp))]
 exact h3
set_option maxRecDepth 100000 in
theorem textK_step (t:Ty) (hl:zV t<=1000) (ih:∀ t',zV t'<zV t->cK t'):cK t:=by
 intro F0 w v h0
 have h1:Rep (fun i=>F0 i/\i<w.heap.size) w (jG t) v:=(Rep.keep fun b o hf ho=>⟨⟨hf,zZ ho⟩,ho⟩).1 _ _ h0
 obtain ⟨b,s,rfl,hb,hc,hs⟩:=kZ h1
 have c1:w.cell? ⟨b,0,none⟩=some s:=by simp [World.cell?,hc]
 obtain ⟨a,cap,rfl,hn,hlen,fU⟩:=zP hs
 have lB:t.args.length<=1000:=by have:=qV t.args;have:=qw t;omega
 clear hc hs h0 h1 hn hlen
 obtain ⟨W0,ff⟩:=zzN ((w.alloc (.cells #[str [98]] 9)).alloc (.cells #[.slice a t.args.length cap] 100))
 obtain ⟨xs,x1,x2,x3⟩:=items_of (n₀:=w.heap.size) (fun i hi=>hi.2) fU
 refine (callsIn_wide (n:=4)).1 ?_
 refine callsIn_of_wp_marks Tryz.func21 rfl trivial ?_ rfl
 simp only [Tryz.ntmps21,List.size_toArray,List.length_cons,List.length_nil,Nat.reduceAdd,Nat.reduceSub,Array.replicate_succ,Array.replicate_zero,List.push_toArray,List.append_toArray,List.nil_append,List.cons_append]
 gi_wp2_with (refine ⟨trivial,?_⟩;gi_at_call 52;refine (back_in Fence.wide _ trivial rfl _ _ _ _).mono ?_;rintro e w' ⟨rfl,rfl⟩)
 have Gt:W0.heap[w.heap.size]? = some (.cells #[str [98]] 9 (0,0)):=by rw [<- ff];exact zY (zG w _)
 have rq:W0.cell? ⟨w.heap.size,0,none⟩=some (str [98]):=by simp [World.cell?,Gt]
 have hf0:W0.frozen? ⟨w.heap.size,0,none⟩=false:=by simp [World.frozen?,Gt]
 have lf:W0.heap.size=w.heap.size+2:=by rw [<- ff];simp
 have l_:W0.cell? ⟨w.heap.size+1,0,none⟩=some (.slice a xs.length cap):=by
  have h:W0.heap[w.heap.size+1]? = some (.cells #[.slice a t.args.length cap] 100 (0,0)):=by
   rw [<- ff]
   have:=zG (w.alloc (.cells #[str [98]] 9)) (.cells #[.slice a t.args.length cap] 100)
   rwa [zK] at this
  simp [World.cell?,h,x1]
 have Hj:Below w.heap.size w W0:=by rw [<- ff];exact ((e_ _ w).alloc (ei _) _).alloc (by simp) _
 have Hh:BackAt wB.ix wB.bl w.heap.size W0 a xs:=fun k x hx=>by
  obtain ⟨q1,b,o,q2,q3,q4⟩:=x3 k x hx
  exact ⟨q1,b,o,q2,q3,(Hj.cell (p:=⟨b,o+x.ix,none⟩) q3).trans q4⟩
 have hx1000:xs.length<=1000:=by omega
 have oH:jh (xs.map wB.ty)=zF t:=by rw [x2,gu];cases t;rfl
 have IH:=ed ih
 clear ih
 refine wpIn_rangeFunc_ownF rfl (by omega) (gf:=74) (lb:=#[.pointer (some ⟨w.heap.size+1,0,none⟩)]) rfl trivial (enters_of Tryz.func74 (by kernel_rfl) rfl)
  (back_stops (α:=wB (fun i=>F0 i/\i<w.heap.size) w t) wB.ix wB.bl Fence.wide _ trivial rfl (by omega) (w.heap.size+1) w.heap.size cap a xs (by omega) W0 (by omega) (by omega) l_ Hh) kpB_t (kpB_b (by omega)) (e_ _ _) (fun _=>rfl)
  (fun pre W=>(W.cell? ⟨w.heap.size,0,none⟩=some (str (jh (pre.map wB.ty)))/\W.frozen? ⟨w.heap.size,0,none⟩=false)/\Below w.heap.size w W)
  (fun _ _ _=>False)
  (OwnFrom.and (Own.from (fun s A B row hs hg hr=>⟨cell_kept hs.1 hg hr,(frozen_kept hs.1 hg hr).trans hs.2⟩) _) (ownFrom_below (ei _) (by omega)))
  (fun _ _ _ _ _ hs _ _=>hs)
  ⟨⟨rq,hf0⟩,Hj⟩
  (fun x=>{ tmps:=#[.pointer (some ⟨b,0,none⟩),undef,str [],.pointer (some ⟨w.heap.size,0,none⟩),undef,.pointer (some ⟨x.bl,0,none⟩),.pointer (some ⟨b,0,none⟩),.pointer (some ⟨b,0,none⟩),.pointer (some ⟨b,0,none⟩),.slice a t.args.length cap,.func (.func 74) #[] #[.pointer (some ⟨w.heap.size+1,0,none⟩)],.int .i64 (x.ix:Nat),.pointer (some ⟨x.bl,0,none⟩),undef,undef,undef,undef,undef,undef,undef,undef],defers:=[] }) ?assign ?body ?done ?stop
 case assign =>
  intro l x W K hK
  gi_wp2
  exact hK
 case body =>
  rintro l pre x W ⟨⟨hc,hf⟩,hB⟩ fF
  have tK:Tryz.prog.follows .mixedOrders=true:=by kernel_rfl
  have GZ:(zF x.ty).length<=3000:=by have:=jk 1000 x.ty (by have:=x.low;omega);have:=x.low;omega
  have mH:(jh (pre.map wB.ty)).length<=1+pre.length*(3000+5):=by
   have:=textFrom_len (pre.map wB.ty) 3000 fun t' nz=>by
    obtain ⟨y,_,rfl⟩:=List.mem_map.1 nz
    have:=jk 1000 y.ty (by have:=y.low;omega);have:=y.low;omega
   rwa [List.length_map] at this
  have hne:jh ((pre++[x]).map wB.ty)=[40,62,32]++zF x.ty++[32]++jh (pre.map wB.ty)++[41]:=by rw [List.map_append,List.map_cons,List.map_nil,pr]
  have EA:Rep (fun i=>F0 i/\i<w.heap.size) W (jG x.ty) (.pointer (some ⟨x.bl,0,none⟩)):=(Rep.keep fun b o hf ho=>⟨hf,by rw [hB.block b hf.2];exact ho⟩).1 _ _ x.rep
  have C1:Hid (∀ X,X=zF x.ty->Calls Tryz.prog 21 #[.pointer (some ⟨x.bl,0,none⟩)] W.drew fun en w'=>en=.returned (str X)/\Below W.heap.size W.drew w'):=by
   show ∀ X,_->_
   rintro X rfl
   exact IH.out x.ty x.low _ W.drew _ ((Rep.keep (w:=W) (w':=W.drew) fun _ _ hf ho=>⟨hf,ho⟩).1 _ _ EA)
  obtain ⟨X,hX⟩:=zzM (zF x.ty)
  obtain ⟨R,hR⟩:=zzM (jh (pre.map wB.ty))
  rw [<- hX] at GZ hne
  rw [<- hR] at mH hne hc
  have C2:=ed (C1.out X hX)
  obtain ⟨O1,h1⟩:=zzM ([40,62,32]++X)
  obtain ⟨O2,h2⟩:=zzM (O1++[32])
  obtain ⟨O3,h3⟩:=zzM (O2++R)
  obtain ⟨O4,h4⟩:=zzM (O3++[41])
  have m1:O1.length=X.length+3:=by rw [h1];simp
  have m2:O2.length=O1.length+1:=by rw [h2];simp
  have m3:O3.length=O2.length+R.length:=by rw [h3];simp
  have iP:=fun w0=>qR (P:=Tryz.prog) [40,62,32] X (by simp;omega) w0
  have iW:=fun w0=>qR (P:=Tryz.prog) O1 [32] (by simp;omega) w0
  have lD:=fun w0=>qR (P:=Tryz.prog) O2 R (by omega) w0
  have lC:=fun w0=>qR (P:=Tryz.prog) O3 [41] (by simp;omega) w0
  have H4:Hid (jh ((pre++[x]).map wB.ty)=O4):=by show _=_;rw [hne,h4,h3,h2,h1]
  rw [<- h1] at iP;rw [<- h2] at iW;rw [<- h3] at lD;rw [<- h4] at lC
  have HB:=ed hB
  have HXX:=ed (ef x3 (ef Hh (ef l_ Hj)))
  clear h1 h2 h3 h4 m1 m2 m3 hX hR C1 EA hne GZ mH hB x3 Hh l_ Hj oH x2 ff rq hf0 fU c1
  gi_wp2
  have hcd:W.drew.cell? ⟨w.heap.size,0,none⟩=some (str R):=hc
  have hz:=e9 W _ hc
  gi_region_with_o (refine ⟨trivial,?_⟩;gi_at_call 21;refine (CallsIn.inRound l (callsIn_wide.2 C2.out)).mono ?_;rintro e w' ⟨rfl,fN⟩;have Cc:w'.cell? ⟨w.heap.size,0,none⟩=some (str R):=(fN.cell (p:=⟨w.heap.size,0,none⟩) hz).trans hcd;have hf':w'.frozen? ⟨w.heap.size,0,none⟩=false:=(fN.frozen (p:=⟨w.heap.size,0,none⟩) hz).trans hf)
  all_goals gi_wp2
  all_goals exact keeps_round (ei _) HB.out fN Cc hf' (by rw [H4.out])
 case done =>
  rintro D ys W hD rfl ⟨⟨hc,hf⟩,hB⟩ hK
  rw [oH] at hc
  gi_wp2
  refine ⟨by simp,.inl ⟨_,_,rfl,run_takeDeferred hK,?_⟩⟩
  exact ⟨_,results_tmp rfl _ _ _,rfl,hB.trans (belowK_b (w:=w) (ei _) W D _ _ (by omega) hK rfl rfl)⟩
 case stop =>
  rintro D c pre W _ _ h _
  exact h.elim
theorem textK_any (n:Nat):∀ t,zV t<=n->n<=1000->cK t:=by
 induction n with
 | zero=>intro t h _;have:=kr t;omega
 | succ n ih=>exact fun t h hn=>textK_step t (by omega) (fun t' h'=>ih t' (by omega) (by omega))
end Go.Proofs.YtjggkhmojjaomaaGreatDoor
namespace Go.Proofs.YtjggkhmojjaomaaGreatDoor
open Go.RowKit
set_option maxRecDepth 20000 in
theorem eU (s:Bs) (w:World) (hl:Lim s.length) :
 Calls Tryz.prog 72 #[str s] w fun en w'=>en=.returned (.bool (qG s))/\w'=w:=by
 have tH:=hl.le
 by_cases h0:s.length=0
 ·obtain rfl:s=[]:=List.eq_nil_of_length_eq_zero h0
  clear h0
  go_enter Tryz.func72,Tryz.ntmps72
  go_wp2_with fail
  go_ret
  exact ⟨rfl,rfl⟩
 have hne:(s == [])=false:=by rw [beq_eq_false_iff_ne];rintro rfl;exact h0 rfl
 have iT:s.isEmpty=false:=by rw [List.isEmpty_eq_false_iff];rintro rfl;exact h0 rfl
 have mx:0<s.length:=by omega
 clear h0
 by_cases h3:3<s.length
 ·have HN:=ed (name_no1 h3)
  go_enter Tryz.func72,Tryz.ntmps72
  go_wp2_with fail
  go_ret
  exact ⟨by rw [HN.out];rfl,rfl⟩
 have B:=yS mx
 by_cases hA:s[0].toNat<120
 ·have HN:=ed (hG mx (.inl hA))
  have b1:((((⟨s.toArray⟩:ByteArray)[0]'(kO mx)).toNat:Int))<120:=by rw [B];omega
  clear B hA
  go_enter Tryz.func72,Tryz.ntmps72
  go_wp2_with fail
  go_ret
  exact ⟨by rw [HN.out];rfl,rfl⟩
 by_cases hB:122<s[0].toNat
 ·have HN:=ed (hG mx (.inr hB))
  have b1:(122:Int)<((((⟨s.toArray⟩:ByteArray)[0]'(kO mx)).toNat:Int)):=by rw [B];omega
  have b2:¬ ((((⟨s.toArray⟩:ByteArray)[0]'(kO mx)).toNat:Int))<120:=by omega
  clear B hA hB
  go_enter Tryz.func72,Tryz.ntmps72
  go_wp2_with fail
  go_ret
  exact ⟨by rw [HN.out];rfl,rfl⟩
 have b1:¬ (122:Int)<((((⟨s.toArray⟩:ByteArray)[0]'(kO mx)).toNat:Int)):=by rw [B];omega
 have b2:¬ ((((⟨s.toArray⟩:ByteArray)[0]'(kO mx)).toNat:Int))<120:=by rw [B];omega
 have HA:=ed (ef hA hB)
 clear B hA hB
 go_enter Tryz.func72,Tryz.ntmps72
 go_wp2_with fail
 clear b1 b2
 go_loop [3] (fun i=>∃ k:Nat,1<=k/\k<=s.length/\i=.int .i64 k/\∀ j,1<=j->j<k->∀ (hj:j<s.length),48<=s[j].toNat/\s[j].toNat<=57) (fun i=>s.length-(intOf i).toNat)
 case atStart=>exact ⟨1,ei _,mx,rfl,fun j h1 h2=>by omega⟩
 case round =>
  obtain ⟨k,Dl,hk,rfl,nN⟩:=hrel
  have HR:=ed nN;clear nN
  by_cases fG:k<s.length
  ·have B:=yS fG
   by_cases hA:s[k].toNat<48
   ·have HN:=ed (g_ Dl fG (.inl hA))
    have b1:((((⟨s.toArray⟩:ByteArray)[k]'(kO fG)).toNat:Int))<48:=by rw [B];omega
    clear B hA
    go_wp2_with fail
    go_ret
    exact ⟨by rw [HN.out];rfl,rfl⟩
   by_cases hB:57<s[k].toNat
   ·have HN:=ed (g_ Dl fG (.inr hB))
    have b1:(57:Int)<((((⟨s.toArray⟩:ByteArray)[k]'(kO fG)).toNat:Int)):=by rw [B];omega
    have b2:¬ ((((⟨s.toArray⟩:ByteArray)[k]'(kO fG)).toNat:Int))<48:=by omega
    clear B hA hB
    go_wp2_with fail
    go_ret
    exact ⟨by rw [HN.out];rfl,rfl⟩
   have b1:¬ (57:Int)<((((⟨s.toArray⟩:ByteArray)[k]'(kO fG)).toNat:Int)):=by rw [B];omega
   have b2:¬ ((((⟨s.toArray⟩:ByteArray)[k]'(kO fG)).toNat:Int))<48:=by rw [B];omega
   have HB:=ed (ef hA hB)
   clear B hA hB
   go_wp2_with fail
   go_round
   case rel=>exact ⟨k+1,by omega,by omega,by go_num,fun j h1 h2 hj=>by
    by_cases e:j=k
    ·subst e;have:=HB.out;omega
    ·exact HR.out j h1 (by omega) hj⟩
   case measure=>simp [intOf];omega
  ·go_wp2_with fail
   go_ret
   have HA':=HA.out
   exact ⟨by rw [name_yes mx (by omega) (by omega) (fun j h1 hj=>HR.out j h1 (by omega) hj)];rfl,rfl⟩
def jJ:Tm->DV
 | .nm x=>.ptr 96 [.val (str []),.val (str x),.val (.pointer none),.sl 55 1 0 []]
 | .wd w=>.ptr 96 [.val (str w),.val (str []),.val (.pointer none),.sl 55 1 0 []]
 | .lam x k t=>.ptr 96 [.val (str jI),.val (str x),jG k,.sl 55 1 1 [jJ t]]
 | .app m n=>.ptr 96 [.val (str vN),.val (str []),.val (.pointer none),.sl 55 1 2 [jJ m,jJ n]]
 | .ite l m n=>.ptr 96 [.val (str ifW),.val (str []),.val (.pointer none),.sl 55 1 3 [jJ l,jJ m,jJ n]]
theorem qC {F:Nat->Prop} {w:World} {t:Tm} {v:Value} (h:Rep F w (jJ t) v):∃ a,v=.pointer (some ⟨a,0,none⟩):=by
 cases t <;> (rw [jJ,ju] at h;obtain ⟨a,c,h,_⟩:=h;exact ⟨a,h⟩)
def vY (sc:Nat) (c:List Value) (e:TypeId) (w:World) (o:Option (Tm×Bs)) (en:Ending) (w':World):Prop :=
 ∃ v r',en=.returned v/\But (· = sc) w w'/\jL sc c e r' w'/\(o=none->v=.pointer none)/\(∀ t rest,o=some (t,rest)->r'=rest/\Rep (w.heap.size<=·) w' (jJ t) v)
theorem vY.no {sc:Nat} {c:List Value} {e:TypeId} {w:World} {r:Bs} {w':World} {o:Option (Tm×Bs)} (ho:o=none) (hb:But (· = sc) w w') (hs:jL sc c e r w'):vY sc c e w o (.returned (.pointer none)) w' :=
 ⟨_,r,rfl,hb,hs,fun _=>rfl,fun _ _ h=>by rw [ho] at h;simp at h⟩
theorem vY.yes {sc:Nat} {c:List Value} {e:TypeId} {w:World} {r:Bs} {w':World} {o:Option (Tm×Bs)} {t:Tm} {v:Value} (ho:o=some (t,r)) (hb:But (· = sc) w w') (hs:jL sc c e r w')
 (hv:Rep (w.heap.size<=·) w' (jJ t) v):vY sc c e w o (.returned v) w' :=
 ⟨_,r,rfl,hb,hs,fun h=>by rw [ho] at h;simp at h,fun _ _ h=>by rw [ho] at h;simp at h;obtain ⟨rfl,rfl⟩:=h;exact ⟨rfl,hv⟩⟩
def bi (sc:Nat) (c:List Value) (e:TypeId) (d:Nat):Prop:=∀ (r:Bs) (w:World),jL sc c e r w->Lim r.length ->
    Calls Tryz.prog 47 #[.pointer (some ⟨sc,0,none⟩),.int .i64 d] w (vY sc c e w (qg d r))
theorem uT {H:Type} {P:Program} (w:World) {ops:Array Oper} {rest:List Oper} {o:Oper} {a:Act} {Q:Exit->Act->World->Prop}
 (hg:o.guard=none) (m x v:Operand) (t:TypeId) (hop:o.op=Op.insert t m x v)
 (k e:TypeId) (K:Maps.Keyed P k) (ht:P.underlying t=some (.map k e)) (R:Value->Option (DataW H×List MemPlace)) (b n:Nat) (D:DataW H)
 (hm:a.eval m=.map (some b)) (fp:w.ownsMap P k R b n D) (hn:n<maxLen) (key val:Value) (kl:Lit) (hx:a.eval x=key) (hv:a.eval v=val) (hkey:keyOf P k key=some kl)
 (d:DataW H) (ps:List MemPlace) (DB:R val=some (d,ps))
 (hK:∀ w',w'.ownsMap P k R b (n+1) (D.put kl d)->w.grownBy w' (some b)->wpList P ops Q rest (a.put o.dst undef) w') :
 wpList P ops Q (o::rest) a w:=by
 refine wpList_plain hg fun K' hK'=>?_
 obtain ⟨w',BD,r1,r2⟩:=fp.update K ht hn hkey DB
 unfold Oper.wp
 simp [execOp,hop,hm,hx,hv,BD,Result.andThen]
 exact hK' _ _ (hK w' r1 r2)
theorem many_at (s:Bs) {H:Type}:((((DataW.map []:DataW H).put (.string jI) (.lit (.int .i64 1))).put (.string vN) (.lit (.int .i64 2))).put (.string ifW) (.lit (.int .i64 3))).atKey (.string s) (.lit (.int .i64 0))=.lit (.int .i64 (d6 s:Nat)):=by
 have i0:Maps.IsMap (DataW.map []:DataW H):=Maps.isMap_empty
 unfold d6
 by_cases h3:s=ifW
 ·subst h3
  rw [Maps.atKey_put_same ((i0.put _ _).put _ _) (by simp [WideAt.IsKeyLit]),if_neg (by decide),if_neg (by decide),if_pos rfl];rfl
 rw [Maps.atKey_put_other (by simpa using h3)]
 by_cases h2:s=vN
 ·subst h2
  rw [Maps.atKey_put_same (i0.put _ _) (by simp [WideAt.IsKeyLit]),if_neg (by decide),if_pos rfl];rfl
 rw [Maps.atKey_put_other (by simpa using h2)]
 by_cases h1:s=jI
 ·subst h1
  rw [Maps.atKey_put_same i0 (by simp [WideAt.IsKeyLit]),if_pos rfl];rfl
 rw [Maps.atKey_put_other (by simpa using h1),if_neg h1,if_neg h2,if_neg h3]
 rfl
theorem Tryz.lawS:Maps.Keyed Tryz.prog 9:=Maps.string_keyed Tryz.underlying9
theorem Tryz.zeroI (w:World):(zeroValue 3).run Tryz.prog w=.ok (.int .i64 0) w:=by kernel_rfl
theorem keyS {s:Bs} (h:Lim s.length):keyOf Tryz.prog 9 (str s)=some (.string s):=by
 have:=WideMaps.keyOf_string_mk (P:=Tryz.prog) Tryz.underlying9 (s:=⟨s.toArray⟩) (by rw [wO];have:=h.le;unfold maxLen;omega)
 simpa using this
def vo (ob:Nat) (wd nm:Bs) (kv slv:Value) (w:World):Prop:=w.heap[ob]? = some (.cells #[str wd,str nm,kv,slv] 96 (0,0))
theorem vo.cells {ob:Nat} {wd nm:Bs} {kv slv:Value} {w:World} (h:vo ob wd nm kv slv w):w.cell? ⟨ob,0,none⟩=some (str wd)/\w.cell? ⟨ob,1,none⟩=some (str nm)/\w.cell? ⟨ob,2,none⟩=some kv/\w.cell? ⟨ob,3,none⟩=some slv/\ob<w.heap.size/\(∀ o,w.frozen? ⟨ob,o,none⟩=false):=by
 have hl:=zZ h
 unfold vo at h
 exact ⟨by simp [World.cell?,h],by simp [World.cell?,h],by simp [World.cell?,h],by simp [World.cell?,h],hl,fun o=>by simp [World.frozen?,h]⟩
theorem vo.put1 {ob:Nat} {wd nm u:Bs} {kv slv:Value} {w:World} (h:vo ob wd nm kv slv w):vo ob wd u kv slv (w.setCell ⟨ob,1,none⟩ (str u)):=by
 unfold vo;rw [zy h];rfl
theorem vo.put2 {ob:Nat} {wd nm:Bs} {kv slv u:Value} {w:World} (h:vo ob wd nm kv slv w):vo ob wd nm u slv (w.setCell ⟨ob,2,none⟩ u):=by
 unfold vo;rw [zy h];rfl
theorem vo.put3 {ob:Nat} {wd nm:Bs} {kv slv u:Value} {w:World} (h:vo ob wd nm kv slv w):vo ob wd nm kv u (w.setCell ⟨ob,3,none⟩ u):=by
 unfold vo;rw [zy h];rfl
set_option maxRecDepth 20000 in
theorem term_word (sc:Nat) (c:List Value) (e:TypeId) (d:Nat) (hd:d<=1000) (r:Bs) (w:World) (hs:jL sc c e r w) (hr:Lim r.length) (h1:pH [40] r) :
 Calls Tryz.prog 47 #[.pointer (some ⟨sc,0,none⟩),.int .i64 d] w (vY sc c e w (qg d r)):=by
 have hm:qg d r=if qG (zu r) then some (.nm (zu r),zS r) else if qy (zu r) then some (.wd (zu r),zS r) else none:=by rw [qg.eq_def];simp only [h1.out]
 have HM:=ed hm;clear hm
 have od:Lim (zu r).length:=hr.mono (by have:=xX r;omega)
 go_enter Tryz.func47,Tryz.ntmps47
 go_wp2_with fail
 refine (uA hs h1).mono ?_
 rintro en w1 ⟨rfl,fP,rV⟩
 go_wp2_with fail
 refine (dM _ _ _ _ _ rV hr).mono ?_
 rintro en w2 ⟨rfl,fY,iU⟩
 have hb:=fP.trans fY
 clear fP fY rV hs h1
 obtain ⟨wd,DA⟩:=zzM (zu r)
 rw [<- DA] at HM od ⊢
 clear DA
 go_wp2_with fail
 (with_reducible refine (eU wd w2 od).mono ?_)
 rintro en w3 ⟨rfl,e3⟩
 subst w3
 cases hn:qG wd with
 | true =>
   have HN:=ed hn;clear hn
   go_wp2_with fail
   go_ret
   refine vY.yes (t:=.nm wd) (r:=zS r) (by rw [HM.out,if_pos HN.out]) (hb.alloc _) (iU.alloc _) ?_
   rw [jJ,ju]
   exact ⟨_,_,rfl,hb.size,zG _ _,zQ.2 ⟨_,_,rfl,zH.2 rfl,zQ.2 ⟨_,_,rfl,zH.2 rfl,zQ.2 ⟨_,_,rfl,zH.2 rfl,zQ.2 ⟨_,_,rfl,zp.2 ⟨rfl,none,0,rfl,ei _,fun _=>rfl,.inl rfl⟩,zC.2 rfl⟩⟩⟩⟩⟩
 | false =>
   have HN:=ed hn;clear hn
   have leaf:∀ x:UInt8,wd=[x]->qy [x]=true->∀ W,W=w2.alloc (.cells #[str [x],str [],.pointer none,.slice none 0 0] 96)->vY sc c e w (qg d r) (.returned (.pointer (some ⟨w2.heap.size,0,none⟩))) W:=by
    intro x hx Dk W hW
    subst hW
    refine vY.yes (t:=.wd wd) (r:=zS r) (by rw [HM.out,if_neg (by rw [HN.out];decide),if_pos (by rw [hx];exact Dk)]) (hb.alloc _) (iU.alloc _) ?_
    rw [jJ,ju,hx]
    exact ⟨_,_,rfl,hb.size,zG _ _,zQ.2 ⟨_,_,rfl,zH.2 rfl,zQ.2 ⟨_,_,rfl,zH.2 rfl,zQ.2 ⟨_,_,rfl,zH.2 rfl,zQ.2 ⟨_,_,rfl,zp.2 ⟨rfl,none,0,rfl,ei _,fun _=>rfl,.inl rfl⟩,zC.2 rfl⟩⟩⟩⟩⟩
   have LEAF:=ed leaf;clear leaf
   by_cases c1:wd=[116]
   ·have HC:=ed c1
    rw [c1]
    clear c1 od
    go_wp2_with fail
    go_ret
    exact LEAF.out _ HC.out (by decide) _ rfl
   by_cases c2:wd=[102]
   ·have HC:=ed c2
    rw [c2]
    clear c1 c2 od
    go_wp2_with fail
    go_ret
    exact LEAF.out _ HC.out (by decide) _ rfl
   by_cases c3:wd=[117]
   ·have HC:=ed c3
    rw [c3]
    clear c1 c2 c3 od
    go_wp2_with fail
    go_ret
    exact LEAF.out _ HC.out (by decide) _ rfl
   have n1:(wd == [116])=false:=by rw [beq_eq_false_iff_ne];exact c1
   have n2:(wd == [102])=false:=by rw [beq_eq_false_iff_ne];exact c2
   have n3:(wd == [117])=false:=by rw [beq_eq_false_iff_ne];exact c3
   have HL:=ed (show qy wd=false by simp [qy,n1,n2,n3])
   clear c1 c2 c3 od LEAF
   go_wp2_with fail
   go_ret
   exact vY.no (by rw [HM.out,if_neg (by rw [HN.out];decide),if_neg (by rw [HL.out];decide)]) hb iU
def xM (sc:Nat) (c:List Value) (e:TypeId) (ob d m:Nat) (wd nm:Bs) (kv:Value) (r0:Bs) (wz:World) (k:Nat) (wr:World):Prop :=
 ∃ ts lk slv vs,ts.length=k/\(qF d m r0=(qF d (m-k) lk).map fun y=>(ts++y.1,y.2))/\lk.length<=r0.length/\But (fun i=>i=sc\/i=ob) wz wr/\jL sc c e lk wr/\vo ob wd nm kv slv wr /\
   Own wr 55 1 slv k vs/\(∀ g,slv.ownBlock=some g->wz.heap.size<=g)/\zX (fun b=>wz.heap.size<=b/\slv.ownBlock≠some b) wr (ts.map jJ) vs
theorem Tryz.infoTm:(Tryz.prog.info? 55).map (fun i=>(i.zero,i.size,i.bytes))=some (some (.pointer none),1,8):=by kernel_rfl
theorem xM.next {sc:Nat} {c:List Value} {e:TypeId} {ob d m:Nat} {wd nm:Bs} {kv:Value} {r0:Bs} {wz:World} {k:Nat} {wr w2 w3:World} {ts:List Tm} {lk:Bs} {slv:Value} {vs:List Value} {t:Tm} {l1 rest:Bs} {vt:Value} {o:Obj} {a':Option Addr} {c':Nat}
 (fG:k<m) (mU:ts.length=k) (hp:qF d m r0=(qF d (m-k) lk).map fun y=>(ts++y.1,y.2)) (mH:lk.length<=r0.length) (hb:But (fun i=>i=sc\/i=ob) wz wr) (aN:vo ob wd nm kv slv wr)
 (fp:Own wr 55 1 slv k vs) (hZ:∀ g,slv.ownBlock=some g->wz.heap.size<=g) (hr:zX (fun b=>wz.heap.size<=b/\slv.ownBlock≠some b) wr (ts.map jJ) vs)
 (hc:cut [32] lk=some l1) (ht:qg d l1=some (t,rest)) (fY:But (· = sc) wr w2) (iU:jL sc c e rest w2) (hv:Rep (wr.heap.size<=·) w2 (jJ t) vt)
 (rB:Own w3 55 1 (.slice a' (k+1) c') (k+1) (vs++[vt])) (fE:But (fun b=>slv.ownBlock=some b) (w2.alloc o) w3) (hg:∀ g,(Value.slice a' (k+1) c').ownBlock=some g->slv.ownBlock=some g\/g=(w2.alloc o).heap.size)
 (A0:sc<ob) (Dh:ob<wz.heap.size):xM sc c e ob d m wd nm kv r0 wz (k+1) (w3.setCell ⟨ob,3,none⟩ (.slice a' (k+1) c')):=by
 have z0:=hb.size;have z2:=fY.size;have z3:=fE.size
 rw [zK] at hg z3
 have keep:∀ i x,w2.heap[i]? = some x->slv.ownBlock≠some i->i≠ob->(w3.setCell ⟨ob,3,none⟩ (.slice a' (k+1) c')).heap[i]? = some x:=by
  intro i x hi hne ho
  rw [fZ _ _ _ _ (by simpa using ho),fE.block i (by rw [zK];have:=zZ hi;omega) hne]
  exact zY hi
 have mX:∀ g,slv.ownBlock=some g->g<wr.heap.size:=fun g h=>fp.lt h
 have I6:vo ob wd nm kv slv w2:=(fY.block ob (zZ aN) (by omega)).trans aN
 have BS:vo ob wd nm kv slv w3:=by
  unfold vo;rw [fE.block ob (by rw [zK];have:=zZ I6;omega) (fun e=>by have:=hZ ob e;omega)]
  exact zY I6
 refine ⟨ts++[t],rest,_,vs++[vt],by simp [mU],?_,?_,?_,?_,BS.put3,?_,?_,?_⟩
 ·rw [show m-k=(m-(k+1))+1 from by omega] at hp
  exact rdParTm_step hp hc ht
 ·have k1:=congrArg List.length (vJ hc)
  have k2:=rdTm_le ht
  simp only [List.length_append,List.length_cons,List.length_nil] at k1
  omega
 ·refine ((hb.trans (fY.weak fun i _ e=>.inl e)).trans' ((But.refl (fun b=>slv.ownBlock=some b) w2).alloc o |>.trans fE) fun i hi e=>?_).setCell (p:=⟨ob,3,none⟩) (.inl (.inr rfl)) _
  have:=hZ i e;omega
 ·exact keep sc _ iU (fun e=>by have:=hZ sc e;omega) (by omega)
 ·refine rB.keep fun g x rO Dd=>?_
  rw [fZ _ _ _ _ (by
   rcases hg g rO with h | h
   ·have:=hZ g h;simp;omega
   ·simp;omega)]
  exact Dd
 ·intro g h
  rcases hg g h with h | h
  ·exact hZ g h
  ·omega
 ·rw [List.map_append]
  refine zX.append ?_ (zX.one ?_)
  ·refine (Rep.keep fun i x hi Dd=>⟨⟨hi.1,fun e=>?_⟩,?_⟩).2 _ _ hr
   ·have hi1:=hi.1
    exact keep i x (by rw [fY.block i (zZ Dd) (by omega)];exact Dd) hi.2 (by omega)
   ·rcases hg i e with h | h
    ·exact hi.2 h
    ·have:=zZ Dd;omega
  ·refine (Rep.keep fun i x hi Dd=>⟨⟨by have:=hi;omega,fun e=>?_⟩,?_⟩).1 _ _ hv
   ·exact keep i x Dd (fun e=>by have:=mX i e;have:=hi;omega) (by have:=hi;omega)
   ·rcases hg i e with h | h
    ·have:=mX i h;have:=hi;omega
    ·have:=zZ Dd;omega
theorem enc_mk {F:Nat->Prop} {w:World} {ob n:Nat} {wd nm:Bs} {kv slv:Value} {kd:DV} {ds:List DV} (hF:F ob) (h:vo ob wd nm kv slv w) (hk:Rep F w kd kv) (hs:Rep F w (.sl 55 1 n ds) slv) :
 Rep F w (.ptr 96 [.val (str wd),.val (str nm),kd,.sl 55 1 n ds]) (.pointer (some ⟨ob,0,none⟩)):=by
 rw [ju]
 exact ⟨_,_,rfl,hF,h,zQ.2 ⟨_,_,rfl,zH.2 rfl,zQ.2 ⟨_,_,rfl,zH.2 rfl,zQ.2 ⟨_,_,rfl,hk,zQ.2 ⟨_,_,rfl,hs,zC.2 rfl⟩⟩⟩⟩⟩
theorem enc_lam (x:Bs) (k:Ty) (ts:List Tm) (h:ts.length=1):jJ (gG jI x k ts)=.ptr 96 [.val (str jI),.val (str x),jG k,.sl 55 1 ts.length (ts.map jJ)]:=by
 match ts,h with
 | [t],_=>rw [gG,jJ];rfl
theorem enc_app (k:Ty) (ts:List Tm) (h:ts.length=2):jJ (gG vN [] k ts)=.ptr 96 [.val (str vN),.val (str []),.val (.pointer none),.sl 55 1 ts.length (ts.map jJ)]:=by
 match ts,h with
 | [t,u],_=>rw [gG,jJ];rfl
theorem enc_ite (k:Ty) (ts:List Tm) (h:ts.length=3):jJ (gG ifW [] k ts)=.ptr 96 [.val (str ifW),.val (str []),.val (.pointer none),.sl 55 1 ts.length (ts.map jJ)]:=by
 match ts,h with
 | [t,u,v],_=>rw [gG,jJ];rfl
set_option maxRecDepth 20000 in
theorem term_open (sc:Nat) (c:List Value) (e:TypeId) (d0:Nat) (hd:d0<=1000) (ih:∀ d',d0=d'+1->bi sc c e d') (r r1:Bs) (w:World) (hs:jL sc c e r w) (hr:Lim r.length) (h1:Cut [40] r r1) :
 Calls Tryz.prog 47 #[.pointer (some ⟨sc,0,none⟩),.int .i64 d0] w (vY sc c e w (qg d0 r)):=by
 have er:r=40::r1:=by have:=vJ h1.out;simpa using this
 have HR:=ed er;clear er
 have IH:=ed ih;clear ih
 have mu:=hr.mono h1.le
 have od:Lim (zu r1).length:=mu.mono (by have:=xX r1;omega)
 have rJ:Lim (zS r1).length:=mu.mono (by have:=xX r1;omega)
 have hmm:=@run_makeMap Tryz.prog
 go_enter Tryz.func47,Tryz.ntmps47
 go_wp2_with fail
 refine (vS hs h1).mono ?_
 rintro en w1 ⟨rfl,fP,rV⟩
 go_wp2_with fail
 refine (dM _ _ _ _ _ rV mu).mono ?_
 rintro en w2 ⟨rfl,fY,iU⟩
 have hb:=fP.trans fY
 clear fP fY rV h1
 obtain ⟨wd,DA⟩:=zzM (zu r1)
 rw [<- DA] at od ⊢
 have HW:=ed DA.symm;clear DA
 have kS:=ed (keyS od)
 have k1:keyOf Tryz.prog 9 (str jI)=some (.string jI):=keyS (s:=jI) (by unfold Lim;decide)
 have k2:keyOf Tryz.prog 9 (str vN)=some (.string vN):=keyS (s:=vN) (by unfold Lim;decide)
 have k3:keyOf Tryz.prog 9 (str ifW)=some (.string ifW):=keyS (s:=ifW) (by unfold Lim;decide)
 have K1:=ed (ef k1 (ef k2 k3));clear k1 k2 k3 od
 have hsz:=hb.size
 have made:((w2.alloc (.cells #[str wd,str [],.pointer none,.slice none 0 0] 96)).alloc (.map #[] 0)).ownsMap Tryz.prog 9 (plainElem (H:=Unit) Tryz.prog 3) (w2.heap.size+1) 0 (.map []):=by
  have:=World.ownsMap_made (H:=Unit) (w2.alloc (.cells #[str wd,str [],.pointer none,.slice none 0 0] 96)) Tryz.prog 9 (plainElem (H:=Unit) Tryz.prog 3)
  rwa [zK] at this
 have MADE:=ed made;clear made
 go_wp2_with (refine uT (H:=Unit) _ rfl _ _ _ 136 rfl 9 3 Tryz.lawS Tryz.underlying136 (plainElem Tryz.prog 3) (w2.heap.size+1) 0 _ rfl MADE.out (by unfold maxLen;omega) _ _ _ rfl rfl K1.out.1 _ [] (plainElem_int Tryz.underlying3 (by decide)) ?_)
 intro wa hA gA
 go_wp2_with (refine uT (H:=Unit) _ rfl _ _ _ 136 rfl 9 3 Tryz.lawS Tryz.underlying136 (plainElem Tryz.prog 3) (w2.heap.size+1) 1 _ rfl hA (by unfold maxLen;omega) _ _ _ rfl rfl K1.out.2.1 _ [] (plainElem_int Tryz.underlying3 (by decide)) ?_)
 intro wb hB gB
 go_wp2_with (refine uT (H:=Unit) _ rfl _ _ _ 136 rfl 9 3 Tryz.lawS Tryz.underlying136 (plainElem Tryz.prog 3) (w2.heap.size+1) 2 _ rfl hB (by unfold maxLen;omega) _ _ _ rfl rfl K1.out.2.2 _ [] (plainElem_int Tryz.underlying3 (by decide)) ?_)
 intro w3 hC gC
 have fE:But (fun i=>i=w2.heap.size+1) ((w2.alloc (.cells #[str wd,str [],.pointer none,.slice none 0 0] 96)).alloc (.map #[] 0)) w3 :=
  ((But.ofGrown gA).weak (m':=fun i=>i=w2.heap.size+1) (fun i _ h=>by simpa using h)).trans (((But.ofGrown gB).weak (m':=fun i=>i=w2.heap.size+1) (fun i _ h=>by simpa using h)).trans ((But.ofGrown gC).weak (m':=fun i=>i=w2.heap.size+1) (fun i _ h=>by simpa using h)))
 obtain ⟨M,BD,fU,_⟩:=hC.lookup_int Tryz.lawS Tryz.underlying136 Tryz.underlying3 (Tryz.zeroI _) kS.out
 rw [many_at] at fU
 obtain rfl:(d6 wd:Int)=M:=by simpa using fU
 have z3:=fE.size
 simp only [zK] at z3
 have JS:But (· = sc) w w3:=hb.trans' (m':=fun i=>i=w2.heap.size+1) (((But.refl (fun i=>i=w2.heap.size+1) w2).alloc _ |>.alloc _).trans fE) (fun i hi e=>by omega)
 have Jj:∀ i x,w2.heap[i]? = some x->w3.heap[i]? = some x:=fun i x h=>by
  have hl:=zZ h
  rw [fE.block i (by simp;omega) (by omega)];exact zY (zY h)
 have ln:jL sc c e (zS r1) w3:=Jj _ _ iU
 have BS:vo w2.heap.size wd [] (.pointer none) (.slice none 0 0) w3:=by
  unfold vo
  rw [fE.block w2.heap.size (by simp;omega) (by omega)]
  exact zY (zG _ _)
 have Dz:w.heap.size<=w2.heap.size:=hsz
 have hscw:=pE hs
 clear hA hB hC gA gB gC fE fU MADE K1 kS iU Jj
 obtain ⟨q0,_,_,_,q4,_⟩:=BS.cells
 obtain ⟨M,hM⟩:=zzM (d6 wd)
 rw [<- hM] at BD
 have HMW:=ed hM;clear hM
 generalize hO:w2.heap.size=ob at *
 clear hO z3
 have oI:=ed (ef ln (ef BS JS))
 clear ln BS JS hb
 by_cases I_:M=0
 ·have HX:=ed (show qg d0 r=none by rw [HR.out];exact rdTm_none (by rw [HW.out,<- HMW.out,I_]))
  subst I_
  go_wp2_with fail
  go_ret
  exact vY.no HX.out oI.out.2.2 oI.out.1
 have m0:((M:Int) == 0)=false:=by rw [beq_eq_false_iff_ne];omega
 by_cases lX:d0=0
 ·have HX:=ed (show qg d0 r=none by rw [HR.out,lX];exact rdTm_zero)
  subst lX
  go_wp2_with fail
  go_ret
  exact vY.no HX.out oI.out.2.2 oI.out.1
 obtain ⟨d,rfl⟩:∃ d',d0=d'+1:=⟨d0-1,by omega⟩
 have ecast:((d+1:Nat):Int)=(d:Int)+1:=by omega
 rw [ecast]
 clear ecast
 have d00:((d:Int)+1 == 0)=false:=by rw [beq_eq_false_iff_ne];omega
 have IH':=ed (IH.out d rfl)
 clear IH lX
 by_cases rI:wd=jI
 ·have hq:(wd == [108,97,109])=true:=by rw [beq_iff_eq];exact rI
  have HL:=ed rI;clear rI
  go_wp2_with fail
  rcases qW [32] (zS r1) with h4 | ⟨l3,h4⟩
  ·refine (uA oI.out.1 h4).mono ?_
   rintro en w4 ⟨rfl,fx,rX⟩
   go_wp2_with fail
   go_ret
   exact vY.no (by rw [HR.out];exact rdTm_lamNo1 (by rw [HW.out,HL.out]) h4.out) (oI.out.2.2.trans fx) rX
  refine (vS oI.out.1 h4).mono ?_
  rintro en w4 ⟨rfl,fx,rX⟩
  have FX:=rJ.mono h4.le
  clear q0 q4 BD
  go_wp2_with fail
  refine (dM _ _ _ _ _ rX FX).mono ?_
  rintro en w5 ⟨rfl,fv,o7⟩
  have hbb:=fx.trans fv
  have tl:vo ob wd [] (.pointer none) (.slice none 0 0) w5:=(hbb.block ob (zZ oI.out.2.1) (by omega)).trans oI.out.2.1
  have lH:=oI.out.2.2.trans hbb
  obtain ⟨nm,Dj⟩:=zzM (zu l3)
  have Jd:Lim (zu l3).length:=FX.mono (by have:=xX l3;omega)
  have hl3r:Lim (zS l3).length:=FX.mono (by have:=xX l3;omega)
  rw [<- Dj] at Jd ⊢
  have HNM:=ed Dj.symm;clear Dj
  obtain ⟨_,q1,_,_,q4,q5⟩:=tl.cells
  have q6:=q5 1
  have lV:=tl.put1 (u:=nm)
  have JV:=lH.setCell (p:=⟨ob,1,none⟩) (.inr (by simpa using Dz)) (str nm)
  have GV:jL sc c e (zS l3) (w5.setCell ⟨ob,1,none⟩ (str nm)):=by unfold jL;rw [fZ _ _ _ _ (by simp;omega)];exact o7
  have A9:=ed (ef GV (ef lV JV))
  clear q5 rX o7 fx fv hbb lH tl GV lV JV
  go_wp2_with fail
  obtain ⟨w6,hw6⟩:=zzM (w5.setCell ⟨ob,1,none⟩ (str nm))
  rw [<- hw6] at A9 ⊢
  clear hw6 q1 q4 q6
  (with_reducible refine (eU nm w6 Jd).mono ?_)
  rintro en w7 ⟨rfl,e7⟩
  subst w7
  cases hn:qG nm with
  | false =>
    have HN:=ed hn;clear hn
    go_wp2_with fail
    go_ret
    exact vY.no (by rw [HR.out];exact rdTm_lamNo2 (by rw [HW.out,HL.out]) h4.out (by rw [HNM.out,HN.out])) A9.out.2.2 A9.out.1
  | true =>
    have HN:=ed hn;clear hn
    go_wp2_with fail
    rcases qW [32] (zS l3) with h5 | ⟨l4,h5⟩
    ·refine (uA A9.out.1 h5).mono ?_
     rintro en w7 ⟨rfl,fW,Ey⟩
     go_wp2_with fail
     go_ret
     exact vY.no (by rw [HR.out];exact rdTm_lamNo3 (by rw [HW.out,HL.out]) h4.out h5.out) (A9.out.2.2.trans fW) Ey
    refine (vS A9.out.1 h5).mono ?_
    rintro en w7 ⟨rfl,fW,Ey⟩
    have aQ:=hl3r.mono h5.le
    go_wp2_with fail
    refine (kind_any _ _ _ 60 (by omega) l4 w7 Ey aQ).mono ?_
    rintro en w8 ⟨kv,r8,rfl,ft,DF,hn8,hy8⟩
    have D2:=fW.trans ft
    have DJ:vo ob wd nm (.pointer none) (.slice none 0 0) w8:=(D2.block ob (zZ A9.out.2.1) (by omega)).trans A9.out.2.1
    have iI:=A9.out.2.2.trans D2
    have z7:=A9.out.2.2.size
    have z78:=fW.size
    have hl7:ob<w7.heap.size:=by have:=zZ A9.out.2.1;omega
    obtain ⟨_,_,q2,_,q4,q5⟩:=DJ.cells
    have q6:=q5 2
    have DI:=DJ.put2 (u:=kv)
    have D4:=iI.setCell (p:=⟨ob,2,none⟩) (.inr (by simpa using Dz)) kv
    have GU:jL sc c e r8 (w8.setCell ⟨ob,2,none⟩ kv):=by unfold jL;rw [fZ _ _ _ _ (by simp;omega)];exact DF
    rcases hk:rdK 60 l4 with _ | ⟨kk,l6⟩
    ·obtain rfl:=hn8 hk
     have HK:=ed hk;clear hk hn8 hy8
     have Ed:=ed (ef GU (ef DI D4))
     clear GU DI D4 iI DJ D2 ft DF fW Ey q5
     go_wp2_with fail
     go_ret
     exact vY.no (by rw [HR.out];exact rdTm_lamNo4 (by rw [HW.out,HL.out]) h4.out (by exact h5.out) HK.out) Ed.out.2.2 Ed.out.1
    obtain ⟨rfl,iX⟩:=hy8 _ _ hk
    have Ee:Rep (fun b=>w.heap.size<=b/\b≠ob/\b≠sc) (w8.setCell ⟨ob,2,none⟩ kv) (jG kk) kv:=(Rep.keep fun b o h ho=>⟨by have:=h;omega,by rw [fZ _ _ _ _ (by have:=h;simp;omega)];exact ho⟩).1 _ _ iX
    obtain ⟨kb,rfl⟩:∃ ba,kv=.pointer (some ⟨ba,0,none⟩):=by obtain ⟨ba,_,h,_⟩:=kZ iX;exact ⟨ba,h⟩
    have hM1:M=1:=by rw [HMW.out,HL.out];decide
    have Dg:=aQ.mono (rdK_le _ hk).1
    have HM:qg (d+1) r=(qF d M r8).bind fun y=>(cut [41] y.2).map fun r'=>(gG wd nm kk y.1,r'):=by rw [HR.out,rdTm_lam (by rw [HW.out,HL.out]) h4.out (by rw [HNM.out];exact HN.out) h5.out hk,hM1,HL.out,HNM.out]
    have HE:∀ ts:List Tm,ts.length=M->jJ (gG wd nm kk ts)=.ptr 96 [.val (str wd),.val (str nm),jG kk,.sl 55 1 ts.length (ts.map jJ)]:=fun ts h=>by rw [HL.out];exact enc_lam nm kk ts (by rw [h,hM1])
    have Ed:=ed (ef GU (ef DI (ef D4 (ef Ee (ef HE HM)))))
    clear GU DI D4 iI DJ D2 ft DF fW Ey q5 iX hk hn8 hy8 HE HM Ee
    have HM1:=ed hM1;clear hM1
    have M20:M<=3:=by have:=HM1.out;omega
    go_wp2_with fail
    obtain ⟨wz,Av⟩:=zzM (w8.setCell ⟨ob,2,none⟩ (.pointer (some ⟨kb,0,none⟩)))
    rw [<- Av] at Ed ⊢
    clear Av q2 q4 q6
    obtain ⟨hsz,sP,lO,Ee,HE,HM⟩:=Ed.out
    obtain ⟨r0,BN⟩:=zzM (r8)
    rw [<- BN] at Dg hsz HM
    clear BN Ed A9 oI
    obtain ⟨kv,G1⟩:=zzM (Value.pointer (some ⟨kb,0,none⟩))
    rw [<- G1] at sP Ee
    clear G1
    clear hmm
    have BB:sc<ob:=by omega
    have FQ:ob<wz.heap.size:=zZ sP
    have s_:xM sc c e ob d M wd nm kv r0 wz 0 wz:=⟨[],r0,.slice none 0 0,[],rfl,by simp,ei _,But.refl _ _,hsz,sP,World.ownsRow_nil _ _ _ _,fun g h=>by simp [Value.ownBlock] at h,zC.2 rfl⟩
    have HZ:=ed (ef lO (ef Ee (ef HE HM)))
    clear lO hsz sP Ee HE HM
    go_loopw [84] (fun i wr=>∃ k:Nat,k<=M/\i=.int .i64 k/\xM sc c e ob d M wd nm kv r0 wz k wr) (fun i _=>M-(intOf i).toNat)
    case atStart=>exact ⟨0,Nat.zero_le _,rfl,s_⟩
    case round =>
     clear s_
     rename_i wr
     obtain ⟨k,hk,rfl,ts,lk,slv,vs,mU,hp,mH,hb,BA,aN,fp,hZ,rU⟩:=hrel
     have DL:=Dg.mono mH
     have fh:But (· = sc) w wr:=HZ.out.1.trans' hb (fun i hi e=>by rcases e with e | e;exact e;omega)
     have HP:=ed (ef hp (ef hb (ef fp (ef hZ (ef rU (ef mU mH))))))
     clear hp hb fp hZ rU mU mH
     have Ef:=ed fh;clear fh
     by_cases fG:k<M
     ·have hltI:(k:Int)<(M:Int):=by omega
      have oP:M-k=(M-k-1)+1:=by omega
      have KQ:=ed oP;clear oP
      go_wp2_with fail
      rcases qW [32] lk with h4 | ⟨l4,h4⟩
      ·refine (uA BA h4).mono ?_
       rintro en w4 ⟨rfl,fx,rX⟩
       go_wp2_with fail
       go_ret
       refine vY.no ?_ (Ef.out.trans fx) rX
       have hp:=HP.out.1
       rw [KQ.out] at hp
       rw [HZ.out.2.2.2,cm hp h4.out];rfl
      refine (vS BA h4).mono ?_
      rintro en w4 ⟨rfl,fx,rX⟩
      have h4l:=h4.le
      go_wp2_with fail
      refine (IH'.out l4 w4 rX (DL.mono h4l)).mono ?_
      rintro en w5 ⟨vt,r5,rfl,fv,o7,BU,Bx⟩
      have nU:=fx.trans fv
      have z4:=fx.size
      rcases ht:qg d l4 with _ | ⟨t,r5'⟩
      ·obtain rfl:=BU ht
       have HT:=ed ht;clear ht BU Bx
       go_wp2_with fail
       go_ret
       refine vY.no ?_ (Ef.out.trans nU) o7
       have hp:=HP.out.1
       rw [KQ.out] at hp
       rw [HZ.out.2.2.2,cf hp h4.out HT.out];rfl
      obtain ⟨rfl,Fw⟩:=Bx _ _ ht
      have HT:=ed ht;clear ht BU Bx
      obtain ⟨at5,rfl⟩:=qC Fw
      have tl:vo ob wd nm kv slv w5:=(nU.block ob (zZ aN) (by omega)).trans aN
      obtain ⟨_,_,_,q3,q4,q5⟩:=tl.cells
      have q6:=q5 3
      have lK:Own w5 55 1 slv k vs:=HP.out.2.2.1.keep fun g o rO ho=>by rw [nU.block g (zZ ho) (by have:=HP.out.2.2.2.1 g rO;omega)];exact ho
      have Eb:=ed (ef lK (ef Fw (ef nU o7)))
      clear q5 lK Fw nU fx fv rX o7 BA
      go_wp2_with (at_builtin;refine zD rfl _ _ 94 rfl 55 (.pointer none) 1 8 Tryz.underlying94 Tryz.infoTm rfl (by decide) slv k vs rfl ?c1 _ 1 [.pointer (some ⟨at5,0,none⟩)] rfl ?c2 ?c3 ?c4 ?_)
      case c1=>exact Eb.out.1.keep fun g o rO ho=>zY ho
      case c2=>exact zO.lit rfl
      case c3=>unfold maxLen;omega
      case c4=>omega
      intro a' c' w6 rB fC rO
      have lV:vo ob wd nm kv slv w6:=by
       unfold vo;rw [fC.block ob (by simp;omega) (fun e=>by have:=HP.out.2.2.2.1 ob e;omega)]
       exact zY tl
      have fi:=xM.next fG HP.out.2.2.2.2.2.1 HP.out.1 HP.out.2.2.2.2.2.2 HP.out.2.1 aN HP.out.2.2.1 HP.out.2.2.2.1 HP.out.2.2.2.2.1 h4.out HT.out Eb.out.2.2.1 Eb.out.2.2.2 ((Rep.keep fun b o h ho=>⟨by have:=h;omega,ho⟩).1 _ _ Eb.out.2.1) rB fC (fun g h=>(rO g h).imp_right fun e=>e.trans (by simp)) BB FQ
      obtain ⟨_,_,_,p3,p4,p5⟩:=lV.cells
      have p6:=p5 3
      clear rO p5 fC rB tl lV aN q3 q4 q6
      go_wp2_with fail
      go_roundw
      case rel=>exact ⟨k+1,by omega,by go_num,fi⟩
      case measure=>simp [intOf];omega
     ·obtain rfl:k=M:=by omega
      go_wp2_with fail
      rcases qW [41] lk with h4 | ⟨l4,h4⟩
      ·refine (uA BA h4).mono ?_
       rintro en w4 ⟨rfl,fx,rX⟩
       go_wp2_with fail
       go_ret
       refine vY.no ?_ (Ef.out.trans fx) rX
       have hp:=HP.out.1
       rw [Nat.sub_self,yj] at hp
       rw [HZ.out.2.2.2,hp]
       simp [h4.out]
      refine (vS BA h4).mono ?_
      rintro en w4 ⟨rfl,fx,rX⟩
      go_wp2_with fail
      go_ret
      have hp:=HP.out.1
      rw [Nat.sub_self,yj] at hp
      have F_:But (fun i=>i=sc\/i=ob) wz w4:=HP.out.2.1.trans (fx.weak fun i _ e=>.inl e)
      have lf:=HZ.out.1.size
      have Iu:=pE hs
      refine vY.yes (t:=gG wd nm kk ts) (r:=l4) ?_ (Ef.out.trans fx) rX ?_
      ·rw [HZ.out.2.2.2,hp]
       simp [h4.out]
      ·rw [HZ.out.2.2.1 ts HP.out.2.2.2.2.2.1]
       have FS:vo ob wd nm kv slv w4:=(fx.block ob (zZ aN) (by omega)).trans aN
       refine enc_mk Dz FS (Rep.but F_ (fun b hb=>⟨by rintro (e | e) <;> omega,hb.1⟩) HZ.out.2.1) ?_
       rw [HP.out.2.2.2.2.2.1]
       have hz:=HP.out.2.2.2.1
       refine (HP.out.2.2.1.keep (w':=w4) fun g o rO ho=>?_).rep (fun g hg=>?_) ?_
       ·rw [fx.block g (zZ ho) (by have:=hz g rO;omega)];exact ho
       ·have:=hz g hg;show w.heap.size<=g;omega
       ·exact zX.but fx (fun b hb=>⟨by have:=hb.1;omega,by have:=hb.1;show w.heap.size<=b;omega⟩) HP.out.2.2.2.2.1
 ·have hq:(wd == [108,97,109])=false:=by rw [beq_eq_false_iff_ne];exact rI
  have lO:=oI.out.2.2;have hsz:=oI.out.1;have sP:=oI.out.2.1
  obtain ⟨nm,Dj⟩:∃ x:Bs,x=[]:=⟨_,rfl⟩
  rw [<- Dj] at sP
  have hHM:∀ kk:Ty,(M=2\/M=3)/\(qg (d+1) r=(qF d M (zS r1)).bind fun y=>(cut [41] y.2).map fun r'=>(gG wd nm kk y.1,r')) /\
   (∀ ts:List Tm,ts.length=M->jJ (gG wd nm kk ts)=.ptr 96 [.val (str wd),.val (str nm),.val (.pointer none),.sl 55 1 ts.length (ts.map jJ)]):=by
   intro kk
   have hM:=HMW.out
   unfold d6 at hM
   rw [if_neg rI] at hM
   by_cases h2:wd=vN
   ·rw [if_pos h2] at hM
    refine ⟨.inl hM,?_,fun ts h=>?_⟩
    ·rw [HR.out,rdTm_app nm kk (by rw [HW.out,h2]),hM,h2]
    ·rw [h2,Dj];exact enc_app kk ts (by rw [h,hM])
   rw [if_neg h2] at hM
   by_cases h3:wd=ifW
   ·rw [if_pos h3] at hM
    refine ⟨.inr hM,?_,fun ts h=>?_⟩
    ·rw [HR.out,rdTm_ite nm kk (by rw [HW.out,h3]),hM,h3]
    ·rw [h3,Dj];exact enc_ite kk ts (by rw [h,hM])
   rw [if_neg h3] at hM
   exact absurd hM I_
  obtain ⟨kk,ir⟩:∃ k:Ty,k=.mk []:=⟨_,rfl⟩
  obtain ⟨hM23,HM,HE⟩:=hHM kk
  have Ed:=ed (ef hsz (ef sP (ef lO (ef HE HM))))
  have M20:M<=3:=by omega
  clear hHM hsz sP lO HE HM hM23 ir rI Dj
  go_wp2_with fail
  clear BD q0 q4
  obtain ⟨hsz,sP,lO,HE,HM⟩:=Ed.out
  obtain ⟨wz,Av⟩:=zzM (w3)
  rw [<- Av] at hsz sP lO ⊢
  clear Av Ed oI
  obtain ⟨r0,BN⟩:=zzM (zS r1)
  rw [<- BN] at rJ hsz HM
  have Dg:=rJ
  clear BN rJ
  obtain ⟨kv,G1⟩:=zzM (Value.pointer none)
  have Ee:Rep (fun b=>w.heap.size<=b/\b≠ob/\b≠sc) wz (.val (.pointer none)) kv:=zH.2 G1
  rw [<- G1] at sP
  clear G1
  clear hmm
  have BB:sc<ob:=by omega
  have FQ:ob<wz.heap.size:=zZ sP
  have s_:xM sc c e ob d M wd nm kv r0 wz 0 wz:=⟨[],r0,.slice none 0 0,[],rfl,by simp,ei _,But.refl _ _,hsz,sP,World.ownsRow_nil _ _ _ _,fun g h=>by simp [Value.ownBlock] at h,zC.2 rfl⟩
  have HZ:=ed (ef lO (ef Ee (ef HE HM)))
  clear lO hsz sP Ee HE HM
  go_loopw [84] (fun i wr=>∃ k:Nat,k<=M/\i=.int .i64 k/\xM sc c e ob d M wd nm kv r0 wz k wr) (fun i _=>M-(intOf i).toNat)
  case atStart=>exact ⟨0,Nat.zero_le _,rfl,s_⟩
  case round =>
   clear s_
   rename_i wr
   obtain ⟨k,hk,rfl,ts,lk,slv,vs,mU,hp,mH,hb,BA,aN,fp,hZ,rU⟩:=hrel
   have DL:=Dg.mono mH
   have fh:But (· = sc) w wr:=HZ.out.1.trans' hb (fun i hi e=>by rcases e with e | e;exact e;omega)
   have HP:=ed (ef hp (ef hb (ef fp (ef hZ (ef rU (ef mU mH))))))
   clear hp hb fp hZ rU mU mH
   have Ef:=ed fh;clear fh
   by_cases fG:k<M
   ·have hltI:(k:Int)<(M:Int):=by omega
    have oP:M-k=(M-k-1)+1:=by omega
    have KQ:=ed oP;clear oP
    go_wp2_with fail
    rcases qW [32] lk with h4 | ⟨l4,h4⟩
    ·refine (uA BA h4).mono ?_
     rintro en w4 ⟨rfl,fx,rX⟩
     go_wp2_with fail
     go_ret
     refine vY.no ?_ (Ef.out.trans fx) rX
     have hp:=HP.out.1
     rw [KQ.out] at hp
     rw [HZ.out.2.2.2,cm hp h4.out];rfl
    refine (vS BA h4).mono ?_
    rintro en w4 ⟨rfl,fx,rX⟩
    have h4l:=h4.le
    go_wp2_with fail
    refine (IH'.out l4 w4 rX (DL.mono h4l)).mono ?_
    rintro en w5 ⟨vt,r5,rfl,fv,o7,BU,Bx⟩
    have nU:=fx.trans fv
    have z4:=fx.size
    rcases ht:qg d l4 with _ | ⟨t,r5'⟩
    ·obtain rfl:=BU ht
     have HT:=ed ht;clear ht BU Bx
     go_wp2_with fail
     go_ret
     refine vY.no ?_ (Ef.out.trans nU) o7
     have hp:=HP.out.1
     rw [KQ.out] at hp
     rw [HZ.out.2.2.2,cf hp h4.out HT.out];rfl
    obtain ⟨rfl,Fw⟩:=Bx _ _ ht
    have HT:=ed ht;clear ht BU Bx
    obtain ⟨at5,rfl⟩:=qC Fw
    have tl:vo ob wd nm kv slv w5:=(nU.block ob (zZ aN) (by omega)).trans aN
    obtain ⟨_,_,_,q3,q4,q5⟩:=tl.cells
    have q6:=q5 3
    have lK:Own w5 55 1 slv k vs:=HP.out.2.2.1.keep fun g o rO ho=>by rw [nU.block g (zZ ho) (by have:=HP.out.2.2.2.1 g rO;omega)];exact ho
    have Eb:=ed (ef lK (ef Fw (ef nU o7)))
    clear q5 lK Fw nU fx fv rX o7 BA
    go_wp2_with (at_builtin;refine zD rfl _ _ 94 rfl 55 (.pointer none) 1 8 Tryz.underlying94 Tryz.infoTm rfl (by decide) slv k vs rfl ?c1 _ 1 [.pointer (some ⟨at5,0,none⟩)] rfl ?c2 ?c3 ?c4 ?_)
    case c1=>exact Eb.out.1.keep fun g o rO ho=>zY ho
    case c2=>exact zO.lit rfl
    case c3=>unfold maxLen;omega
    case c4=>omega
    intro a' c' w6 rB fC rO
    have lV:vo ob wd nm kv slv w6:=by
     unfold vo;rw [fC.block ob (by simp;omega) (fun e=>by have:=HP.out.2.2.2.1 ob e;omega)]
     exact zY tl
    have fi:=xM.next fG HP.out.2.2.2.2.2.1 HP.out.1 HP.out.2.2.2.2.2.2 HP.out.2.1 aN HP.out.2.2.1 HP.out.2.2.2.1 HP.out.2.2.2.2.1 h4.out HT.out Eb.out.2.2.1 Eb.out.2.2.2 ((Rep.keep fun b o h ho=>⟨by have:=h;omega,ho⟩).1 _ _ Eb.out.2.1) rB fC (fun g h=>(rO g h).imp_right fun e=>e.trans (by simp)) BB FQ
    obtain ⟨_,_,_,p3,p4,p5⟩:=lV.cells
    have p6:=p5 3
    clear rO p5 fC rB tl lV aN q3 q4 q6
    go_wp2_with fail
    go_roundw
    case rel=>exact ⟨k+1,by omega,by go_num,fi⟩
    case measure=>simp [intOf];omega
   ·obtain rfl:k=M:=by omega
    go_wp2_with fail
    rcases qW [41] lk with h4 | ⟨l4,h4⟩
    ·refine (uA BA h4).mono ?_
     rintro en w4 ⟨rfl,fx,rX⟩
     go_wp2_with fail
     go_ret
     refine vY.no ?_ (Ef.out.trans fx) rX
     have hp:=HP.out.1
     rw [Nat.sub_self,yj] at hp
     rw [HZ.out.2.2.2,hp]
     simp [h4.out]
    refine (vS BA h4).mono ?_
    rintro en w4 ⟨rfl,fx,rX⟩
    go_wp2_with fail
    go_ret
    have hp:=HP.out.1
    rw [Nat.sub_self,yj] at hp
    have F_:But (fun i=>i=sc\/i=ob) wz w4:=HP.out.2.1.trans (fx.weak fun i _ e=>.inl e)
    have lf:=HZ.out.1.size
    have Iu:=pE hs
    refine vY.yes (t:=gG wd nm kk ts) (r:=l4) ?_ (Ef.out.trans fx) rX ?_
    ·rw [HZ.out.2.2.2,hp]
     simp [h4.out]
    ·rw [HZ.out.2.2.1 ts HP.out.2.2.2.2.2.1]
     have FS:vo ob wd nm kv slv w4:=(fx.block ob (zZ aN) (by omega)).trans aN
     refine enc_mk Dz FS (Rep.but F_ (fun b hb=>⟨by rintro (e | e) <;> omega,hb.1⟩) HZ.out.2.1) ?_
     rw [HP.out.2.2.2.2.2.1]
     have hz:=HP.out.2.2.2.1
     refine (HP.out.2.2.1.keep (w':=w4) fun g o rO ho=>?_).rep (fun g hg=>?_) ?_
     ·rw [fx.block g (zZ ho) (by have:=hz g rO;omega)];exact ho
     ·have:=hz g hg;show w.heap.size<=g;omega
     ·exact zX.but fx (fun b hb=>⟨by have:=hb.1;omega,by have:=hb.1;show w.heap.size<=b;omega⟩) HP.out.2.2.2.2.1
theorem term_step (sc:Nat) (c:List Value) (e:TypeId) (d:Nat) (hd:d<=1000) (ih:∀ d',d=d'+1->bi sc c e d'):bi sc c e d:=by
 intro r w hs hr
 rcases qW [40] r with h1 | ⟨r1,h1⟩
 ·exact term_word sc c e d hd r w hs hr h1
 ·exact term_open sc c e d hd ih r r1 w hs hr h1
theorem term_any (sc:Nat) (c:List Value) (e:TypeId):∀ (d:Nat),d<=1000->bi sc c e d
 | 0,h=>term_step sc c e 0 h (fun d' e=>by omega)
 | d+1,h=>term_step sc c e (d+1) h (fun d' e=>by obtain rfl:d=d':=by omega
                                                 exact term_any _ _ _ d (by omega))
def yd:Tm->Bs
 | .nm _=>[]
 | .wd w=>w
 | .lam _ _ _=>jI
 | .app _ _=>vN
 | .ite _ _ _=>ifW
def yr:Tm->Bs
 | .nm x=>x
 | .lam x _ _=>x
 | _=>[]
def um:Tm->Option Ty
 | .lam _ k _=>some k
 | _=>none
def za:Tm->List Tm
 | .nm _=>[]
 | .wd _=>[]
 | .lam _ _ t=>[t]
 | .app m n=>[m,n]
 | .ite l m n=>[l,m,n]
def ug (ts:List Tm):Nat:=(ts.map zM).sum
def kindN:Option Ty->Nat
 | some k=>1+zV k
 | none=>0
theorem sizeTm_mk (t:Tm):zM t=1+kindN (um t)+ug (za t):=by
 cases t <;> simp [zM,um,za,kindN,ug] <;> omega
theorem du {ts:List Tm} {k:Nat} {t:Tm} (h:ts[k]? = some t):ug (ts.take (k+1))=ug (ts.take k)+zM t:=by
 unfold ug
 rw [List.take_add_one,h]
 simp
theorem pe (ts:List Tm) (k:Nat):ug (ts.take k)<=ug ts:=by
 unfold ug
 conv=>rhs;rw [<- List.take_append_drop k ts,List.map_append,List.sum_append]
 omega
theorem sumTm_mem {ts:List Tm} {t:Tm} (h:t∈ts):zM t<=ug ts:=by
 induction ts with
 | nil=>simp at h
 | cons x xs ih =>
   unfold ug at *
   simp only [List.map_cons,List.sum_cons]
   rcases List.mem_cons.1 h with rfl | h
   ·omega
   ·have:=ih h;omega
theorem tmParts_len (t:Tm):(za t).length<=3:=by cases t <;> simp [za]
theorem jF {F:Nat->Prop} {w:World} {t:Tm} {v:Value} (h:Rep F w (jJ t) v) :
 ∃ b kv slv,v=.pointer (some ⟨b,0,none⟩)/\F b/\w.heap[b]? = some (.cells #[str (yd t),str (yr t),kv,slv] 96 (0,0))/\(um t=none->kv=.pointer none)/\(∀ k,um t=some k->Rep F w (jG k) kv) /\
   Rep F w (.sl 55 1 (za t).length ((za t).map jJ)) slv:=by
 have key:∀ (wd nm:Bs) (kd:DV) (n:Nat) (ds:List DV),Rep F w (.ptr 96 [.val (str wd),.val (str nm),kd,.sl 55 1 n ds]) v ->
  ∃ b kv slv,v=.pointer (some ⟨b,0,none⟩)/\F b/\w.heap[b]? = some (.cells #[str wd,str nm,kv,slv] 96 (0,0))/\Rep F w kd kv/\Rep F w (.sl 55 1 n ds) slv:=by
  intro wd nm kd n ds h
  rw [ju] at h
  obtain ⟨b,c,rfl,hb,hc,hr⟩:=h
  simp only [zQ,zC,zH] at hr
  obtain ⟨_,_,e1,rfl,_,_,rfl,rfl,kv,_,rfl,h1,slv,_,rfl,h2,rfl⟩:=hr
  have:c=#[str wd,str nm,kv,slv]:=by apply Array.ext';simpa using e1
  subst this
  exact ⟨b,kv,slv,rfl,hb,hc,h1,h2⟩
 cases t with
 | nm x =>
   obtain ⟨b,kv,slv,h1,h2,h3,h4,h5⟩:=key _ _ _ _ _ h
   exact ⟨b,kv,slv,h1,h2,h3,fun _=>zH.1 h4,fun k e=>by simp [um] at e,h5⟩
 | wd x =>
   obtain ⟨b,kv,slv,h1,h2,h3,h4,h5⟩:=key _ _ _ _ _ h
   exact ⟨b,kv,slv,h1,h2,h3,fun _=>zH.1 h4,fun k e=>by simp [um] at e,h5⟩
 | lam x k t =>
   obtain ⟨b,kv,slv,h1,h2,h3,h4,h5⟩:=key _ _ _ _ _ h
   exact ⟨b,kv,slv,h1,h2,h3,fun e=>by simp [um] at e,fun k e=>by simp [um] at e;subst e;exact h4,h5⟩
 | app m n =>
   obtain ⟨b,kv,slv,h1,h2,h3,h4,h5⟩:=key _ _ _ _ _ h
   exact ⟨b,kv,slv,h1,h2,h3,fun _=>zH.1 h4,fun k e=>by simp [um] at e,h5⟩
 | ite l m n =>
   obtain ⟨b,kv,slv,h1,h2,h3,h4,h5⟩:=key _ _ _ _ _ h
   exact ⟨b,kv,slv,h1,h2,h3,fun _=>zH.1 h4,fun k e=>by simp [um] at e,h5⟩
def TmAtoms (F:Nat->Prop) (w:World) (t:Tm):Prop:=∀ v,Rep F w (jJ t) v ->
 Calls Tryz.prog 48 #[v] w fun en w'=>en=.returned (.int .i64 (zM t))/\w'=w
set_option maxRecDepth 20000 in
theorem tmAtoms_step (F:Nat->Prop) (w:World) (t:Tm) (hl:Lim (zM t)) (ih:∀ t',zM t'<zM t->TmAtoms F w t'):TmAtoms F w t:=by
 intro v hv
 obtain ⟨b,kv,slv,rfl,hb,hc,ah,DN,hs⟩:=jF hv
 have c1:w.cell? ⟨b,2,none⟩=some kv:=by simp [World.cell?,hc]
 have c2:w.cell? ⟨b,3,none⟩=some slv:=by simp [World.cell?,hc]
 obtain ⟨a,cap,rfl,hn,hlen,fU⟩:=zP hs
 have e1:=sizeTm_mk t
 have IH:=ed ih;clear ih hc hv hs
 have E1:=ed e1;clear e1
 have tH:=hl.le
 have hp3:=tmParts_len t
 have HL:=ed hlen;clear hlen
 have AT:=ed fU;clear fU
 have base:Calls Tryz.prog 48 #[.pointer (some ⟨b,0,none⟩)] w fun en w'=>en=.returned (.int .i64 (1+kindN (um t)+ug (za t):Nat))/\w'=w:=by
  have Ak:1+kindN (um t)+ug (za t)<=16777216:=by have:=E1.out;omega
  cases hk:um t with
  | none =>
    obtain rfl:=ah hk
    rw [hk] at Ak
    clear hk ah DN
    simp only [kindN] at Ak ⊢
    go_enter Tryz.func48,Tryz.ntmps48
    go_wp2_with fail
    go_loop [3,24] (fun n i=>∃ k:Nat,k<=(za t).length/\i=.int .i64 k/\n=.int .i64 ((1+ug ((za t).take k):Nat):Int)) (fun _ i=>(za t).length-(intOf i).toNat)
    case atStart=>exact ⟨0,Nat.zero_le _,rfl,by simp [ug]⟩
    case round =>
     obtain ⟨k,hk,rfl,rfl⟩:=hrel
     by_cases fG:k<(za t).length
     ·obtain ⟨b',o,u,d,rfl,_,fN,hd,hu,hr⟩:=AT.out k fG
      rw [List.getElem?_map,Option.map_eq_some_iff] at hd
      obtain ⟨t',nz,rfl⟩:=hd
      have hs:=du nz
      have mH:=pe (za t) (k+1)
      have ri:=E1.out
      have mF:=sumTm_mem (List.mem_of_getElem? nz)
      have IH':=ed (IH.out t' (by omega))
      have HS:=ed hs
      have b1:1+ug ((za t).take k)+zM t'<=16777216:=by omega
      clear hs nz ri mH mF
      obtain ⟨bu,eu⟩:=qC hr
      subst eu
      go_wp2_with fail
      refine (IH'.out _ hr).mono ?_
      rintro en w' ⟨rfl,ew⟩
      subst ew
      go_wp2_with fail
      go_round
      case rel=>exact ⟨k+1,by omega,by go_num,by rw [HS.out];go_num⟩
      case measure=>simp [intOf];omega
     ·go_wp2_with fail
      go_ret
      have:k=(za t).length:=by omega
      subst this
      exact ⟨yq (by rw [List.take_length]),rfl⟩
  | some kk =>
    have iX:=DN kk hk
    rw [hk] at Ak
    clear hk ah DN
    simp only [kindN] at Ak ⊢
    obtain ⟨kb,ek⟩:∃ ba,kv=.pointer (some ⟨ba,0,none⟩):=by obtain ⟨ba,_,h,_⟩:=kZ iX;exact ⟨ba,h⟩
    subst ek
    have CK:=ed (uR F w (zV kk) kk (ei _) (show _<=_ by omega) _ iX)
    clear iX
    go_enter Tryz.func48,Tryz.ntmps48
    go_wp2_with fail
    refine CK.out.mono ?_
    rintro en w' ⟨rfl,ew⟩
    subst w'
    go_wp2_with fail
    go_loop [3,24] (fun n i=>∃ k:Nat,k<=(za t).length/\i=.int .i64 k/\n=.int .i64 ((1+(1+zV kk)+ug ((za t).take k):Nat):Int)) (fun _ i=>(za t).length-(intOf i).toNat)
    case atStart=>exact ⟨0,Nat.zero_le _,rfl,by simp [ug]⟩
    case round =>
     obtain ⟨k,hk,rfl,rfl⟩:=hrel
     by_cases fG:k<(za t).length
     ·obtain ⟨b',o,u,d,rfl,_,fN,hd,hu,hr⟩:=AT.out k fG
      rw [List.getElem?_map,Option.map_eq_some_iff] at hd
      obtain ⟨t',nz,rfl⟩:=hd
      have hs:=du nz
      have mH:=pe (za t) (k+1)
      have ri:=E1.out
      have mF:=sumTm_mem (List.mem_of_getElem? nz)
      have IH':=ed (IH.out t' (by omega))
      have HS:=ed hs
      have b1:1+(1+zV kk)+ug ((za t).take k)+zM t'<=16777216:=by omega
      clear hs nz ri mH mF
      obtain ⟨bu,eu⟩:=qC hr
      subst eu
      go_wp2_with fail
      refine (IH'.out _ hr).mono ?_
      rintro en w' ⟨rfl,ew⟩
      subst ew
      go_wp2_with fail
      go_round
      case rel=>exact ⟨k+1,by omega,by go_num,by rw [HS.out];go_num⟩
      case measure=>simp [intOf];omega
     ·go_wp2_with fail
      go_ret
      have:k=(za t).length:=by omega
      subst this
      exact ⟨yq (by rw [List.take_length]),rfl⟩
 rw [E1.out]
 exact base
theorem tmAtoms_any (F:Nat->Prop) (w:World) (n:Nat):∀ t,zM t<=n->Lim n->TmAtoms F w t:=by
 induction n with
 | zero=>intro t h _;have:=sizeTm_mk t;omega
 | succ n ih=>exact fun t h hn=>tmAtoms_step F w t (hn.mono h) (fun t' h'=>ih t' (by omega) (hn.mono (by omega)))
theorem textT_atoms (k:Ty):zV k<=(zF k).length:=by
 have h1:=wj (zV k) k [] (by omega)
 have h2:=rdK_atoms _ h1
 simpa using h2
theorem uW:∀ t:Tm,uP t->zM t<=(ze t).length
 | .nm x,h=>by
   rw [show ze (.nm x)=x from by unfold ze;rw [z_,zA],zM]
   exact List.length_pos_iff.2 (yD h).1
 | .wd x,h=>by
   rw [show ze (.wd x)=x from by unfold ze;rw [z_,zA],zM]
   exact List.length_pos_iff.2 (xh h).1
 | .lam x k t,h=>by
   have h1:=uW t h.2
   have h2:=textT_atoms k
   rw [ye,zM];simp;omega
 | .app m n,h=>by
   have h1:=uW m h.1
   have h2:=uW n h.2
   rw [ur,zM];simp;omega
 | .ite l m n,h=>by
   have h0:=uW l h.1
   have h1:=uW m h.2.1
   have h2:=uW n h.2.2
   rw [y5,zM];simp;omega
def RTPost (w:World) (o:Option Tm) (en:Ending) (w':World):Prop :=
 ∃ v,en=.returned v/\Below w.heap.size w w'/\(o=none->v=.pointer none)/\(∀ t,o=some t->Rep (w.heap.size<=·) w' (jJ t) v)
set_option maxRecDepth 20000 in
theorem readTerm_any (l:Bs) (w:World) (hl:Lim l.length) :
 Calls Tryz.prog 19 #[str l] w (RTPost w (qE l)):=by
 have tH:=hl.le
 go_enter Tryz.func19,Tryz.ntmps19
 go_wp2_with fail
 have l_:jL w.heap.size [] 90 l (w.alloc (.cells #[str l] 90)):=zG _ _
 refine (term_any _ _ _ 60 (by omega) l _ l_ hl).mono ?_
 rintro en w1 ⟨v,r1,rfl,fP,rV,mZ,fo⟩
 have hb:Below w.heap.size w w1:=((e_ w.heap.size w).alloc (ei _) _).trans (fP.toBelow (by simp) (fun i hi e=>by omega))
 rcases ha:qg 60 l with _ | ⟨t,r1'⟩
 ·obtain rfl:=mZ ha
  have Ha:=ed ha;clear ha mZ fo
  go_wp2_with fail
  go_ret
  exact ⟨_,rfl,hb,fun _=>rfl,fun t h=>by simp [qE,Ha.out] at h⟩
 obtain ⟨rfl,iR⟩:=fo _ _ ha
 obtain ⟨ba,rfl⟩:=qC iR
 obtain ⟨etx,fw,_⟩:=gX _ _ _ _ ha
 have hsz:=uW t fw
 have hlen:=congrArg List.length etx
 rw [List.length_append] at hlen
 have sn:zM t<=l.length:=by omega
 have Ha:=ed ha;clear ha mZ fo etx fw hsz hlen
 have rZ:=rV.cell
 have hz:w.heap.size<w1.heap.size:=pE rV
 cases r1 with
 | cons x xs =>
   have hne:(!(x::xs).isEmpty)=true:=rfl
   go_wp2_with fail
   go_ret
   exact ⟨_,rfl,hb,fun _=>rfl,fun t h=>by simp [qE,Ha.out] at h⟩
 | nil =>
   go_wp2_with fail
   refine (tmAtoms_any _ w1 (zM t) t (ei _) (hl.mono sn) _ iR).mono ?_
   rintro en w2 ⟨rfl,e2⟩
   subst e2
   by_cases lu:zM t<=60
   ·go_wp2_with fail
    go_ret
    have HM:qE l=some t:=by simp [qE,Ha.out,lu]
    exact ⟨_,rfl,hb,fun h=>by simp [HM] at h,fun t' h=>by rw [HM] at h;simp at h;subst h;exact (Rep.keep fun b o h ho=>⟨by have:=h;simp at this;omega,ho⟩).1 _ _ iR⟩
   ·go_wp2_with fail
    go_ret
    have HM:qE l=none:=by simp [qE,Ha.out,lu]
    exact ⟨_,rfl,hb,fun _=>rfl,fun t' h=>by rw [HM] at h;simp at h⟩
end Go.Proofs.YtjggkhmojjaomaaGreatDoor

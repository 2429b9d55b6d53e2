/- Walks of functions that the statement reaches, and plain words. No conditions. -/
import Derived.Lib.SliceRun
import Derived.RangeFuncNested
import Derived.RangeFuncBound
import Derived.RangeFuncCalls
import Derived.RangeFuncLeaves
import Derived.RangeFuncFrom
import Derived.RangeFuncBox
import Derived.Shelf.Abstract
import Derived.Shelf.RegionOpen
import Derived.OwnWalkIn
import Derived.TacticsInMore
import Derived.LoopNIn
import Derived.LoopIn
import Derived.Maps.Own
import Derived.Test.YtjggkhmojjaomaaGreatDoorQ6
set_option linter.unusedVariables false
set_option linter.unusedSimpArgs false
set_option maxHeartbeats 8000000
namespace Go.Proofs.YtjggkhmojjaomaaGreatDoor
open Go.RowKit
theorem ed (n:Nat) (s:Value) (xs:List Value) (w:World) (h:zq 1 s n xs w) (hn:Lim n) :
 Calls Tryz.prog 57 #[s] w fun en w' =>
  ∃ a c,en=.returned (.slice a n c)/\Own w' 34 1 (.slice a n c) n xs/\Below w.heap.size w w'/\(∀ g,(Value.slice a n c).ownBlock=some g->w.heap.size<=g):=by
 have hl:=hn.le
 obtain ⟨a,c,e⟩:=h.slice
 subst e
 cases a with
 | none =>
   have h0:n=0/\c=0:=by
    obtain ⟨_,_,⟨a',c',e,_⟩ | ⟨e,h0⟩⟩:=h
    ·simp at e
    ·simp at e;exact e
   obtain ⟨rfl,rfl⟩:=h0
   have hx:xs=[]:=List.eq_nil_of_length_eq_zero (by simpa using h.1)
   subst hx
   have q:=fun w=>Lib.run_eql_slice_nil (P:=Tryz.prog) w 66 34 none 0 0 0 0 Tryz.underlying66
   go_enter Tryz.func57,Tryz.ntmps57
   go_wp2_with fail
   go_ret
   exact ⟨none,0,rfl,World.ownsRow_nil _ _ _ _,fH _ _,fun g h=>by simp [Value.ownBlock] at h⟩
 | some a =>
   have q:=fun w=>Lib.run_eql_slice_nil (P:=Tryz.prog) w 66 34 (some a) n c 0 0 Tryz.underlying66
   go_enter Tryz.func57,Tryz.ntmps57
   go_wp2_with (at_builtin;refine zE rfl _ _ 66 rfl 34 (.pointer none) 1 8 Tryz.underlying66 Tryz.infoB rfl (by decide) _ 0 [] rfl ?c1 _ n xs rfl ?c2 ?c3 ?c4 ?_)
   case c1=>exact Own.lit #[] 0 (by decide) rfl
   case c2=>exact h.keep fun _ _ h=>zJ h
   case c3=>unfold maxLen;omega
   case c4=>omega
   intro a' c' w' ho hb hg
   go_wp2_with fail
   go_ret
   refine ⟨a',c',rfl,ho,((fH w.heap.size w).alloc (fP _) _).trans (hb.toBelow (by simp) (fun i hi e=>by simp [Value.ownBlock] at e;omega)),fun g h=>?_⟩
   rcases hg g h with h | h
   ·simp [Value.ownBlock] at h;omega
   ·omega
def gK (F:Nat->Prop) (w:World) (b:Bd) (en:Ending) (w':World):Prop :=
 ∃ v,en=.returned v/\Below w.heap.size w w'/\Rep (fun k=>F k\/w.heap.size<=k) w' (.sl 34 1 (kq b).length (jJ (kq b))) v
theorem parts_leaf (F:Nat->Prop) (w:World) (c:UInt8) (v:Value) (h:Rep F w (qK (.leaf c)) v) :
 Calls Tryz.prog 31 #[v] w (gK F w (.leaf c)):=by
 obtain ⟨a,e⟩:=kZ h
 subst e
 go_enter Tryz.func31,Tryz.ntmps31
 go_wp2_with fail
 refine (yC F w c _ h).mono ?_
 rintro en w' ⟨rfl,e⟩
 subst e
 go_wp2_with fail
 go_ret
 exact ⟨_,rfl,fH _ _,zp.2 ⟨rfl,none,0,rfl,fP _,fun _=>rfl,.inl rfl⟩⟩
theorem but_below {w wc w6:World} {o:Obj} {v:Value} (hbb:Below w.heap.size w wc) (fO:But (fun b=>v.ownBlock=some b) (wc.alloc o) w6)
 (AS:∀ g,v.ownBlock=some g->w.heap.size<=g):Below w.heap.size w w6:=by
 refine (hbb.alloc hbb.size _).trans (fO.toBelow ?_ ?_)
 ·have:=hbb.size
  show w.heap.size<=(wc.heap.push o).size
  rw [Array.size_push];omega
 ·intro i hi e
  have h:w.heap.size<=i:=AS i e
  omega
theorem but_below2 {w wc w6:World} {v:Value} (hbb:Below w.heap.size w wc) (fO:But (fun b=>v.ownBlock=some b) wc w6)
 (AS:∀ g,v.ownBlock=some g->w.heap.size<=g):Below w.heap.size w w6:=by
 refine hbb.trans (fO.toBelow hbb.size ?_)
 intro i hi e
 have h:w.heap.size<=i:=AS i e
 omega
theorem own_1 {w wc:World} {o:Obj} {v v':Value} (hbb:Below w.heap.size w wc) (AS:∀ g,v.ownBlock=some g->w.heap.size<=g)
 (hg:∀ g,v'.ownBlock=some g->v.ownBlock=some g\/g=(wc.alloc o).heap.size):∀ g,v'.ownBlock=some g->w.heap.size<=g:=by
 intro g h
 rcases hg g h with h | h
 ·exact AS g h
 ·have:=hbb.size
  rw [h,zK];omega
theorem own_2 {w wc:World} {v v':Value} (hbb:Below w.heap.size w wc) (AS:∀ g,v.ownBlock=some g->w.heap.size<=g)
 (hg:∀ g,v'.ownBlock=some g->v.ownBlock=some g\/g=wc.heap.size):∀ g,v'.ownBlock=some g->w.heap.size<=g:=by
 intro g h
 rcases hg g h with h | h
 ·exact AS g h
 ·have:=hbb.size
  rw [h];omega
theorem own_ad {w:World} {o:Obj} {v:Value} (h:∀ g,v.ownBlock=some g->(w.alloc o).drew.heap.size<=g):∀ g,v.ownBlock=some g->w.heap.size<=g:=by
 intro g hg
 have:=h g hg
 have h2:(w.alloc o).drew.heap.size=w.heap.size+1:=zK w o
 omega
set_option maxRecDepth 100000 in
theorem parts_ask (F:Nat->Prop) (w:World) (v:Nat) (ss:List Bd) (y n:Bd) (p:Value) (h:Rep F w (qK (.ask v ss y n)) p) (hn:Lim (ss.length+2)) :
 Calls Tryz.prog 31 #[p] w (gK F w (.ask v ss y n)):=by
 obtain ⟨b,sl,yv,nv,e,Kp,hc,nU,hy,hnn⟩:=ux h
 subst e
 obtain ⟨xs,il,mu⟩:=zq.ofRep nU (oneCell_encBs _)
 obtain ⟨sa,sc,esl⟩:=mu.slice
 subst esl
 obtain ⟨ya,ey⟩:=kZ hy
 obtain ⟨na,ena⟩:=kZ hnn
 subst ey;subst ena
 have c2:w.cell? ⟨b,2,none⟩=some (.slice sa ss.length sc):=by simp [World.cell?,hc]
 have c3:w.cell? ⟨b,3,none⟩=some (.pointer (some ⟨ya,0,none⟩)):=by simp [World.cell?,hc]
 have c4:w.cell? ⟨b,4,none⟩=some (.pointer (some ⟨na,0,none⟩)):=by simp [World.cell?,hc]
 have lb:=zZ hc
 have hl:=hn.le
 clear hc
 go_enter Tryz.func31,Tryz.ntmps31
 go_wp2_with fail
 refine (xJ F w v ss y n _ h).mono ?_
 rintro en w' ⟨rfl,e⟩
 obtain rfl:w=w':=e.symm
 go_wp2_with fail
 have aP:Lim ss.length:=hn.mono (by omega)
 have hm:ss.length+2<=maxLen:=by unfold maxLen;omega
 have nA:(ss.length+2)*8<=140737488355328:=by omega
 have h01:0<1:=by omega
 have AL:∀ u∈(#[.pointer (some ⟨ya,0,none⟩),.pointer (some ⟨na,0,none⟩)]:Array Value).toList,u.oneCell'=true:=by simp [Value.oneCell']
 have HO:=fX AL;clear AL
 go_region_held3 (fun w'=>w'.cell? ⟨b,2,none⟩=some (.slice sa ss.length sc)/\w'.cell? ⟨b,3,none⟩=some (.pointer (some ⟨ya,0,none⟩))/\w'.cell? ⟨b,4,none⟩=some (.pointer (some ⟨na,0,none⟩)))
  (first
   | exact ⟨(DC.cell lb).trans c2,(DC.cell lb).trans c3,(DC.cell lb).trans c4⟩
   | exact ⟨(hbb.cell lb).trans c2,(hbb.cell lb).trans c3,(hbb.cell lb).trans c4⟩
   | go_keep)
  (first
   | (go_at_call 57;refine (ed ss.length _ xs _ mu.drew aP).mono ?_;rintro en wc ⟨ac,kc,rfl,hoc,hbc,Gg⟩;have hbb:Below w.heap.size w wc:=(fH w.heap.size w).drew.trans hbc;have AS:∀ g,(Value.slice ac ss.length kc).ownBlock=some g->w.heap.size<=g:=Gg)
   | (go_at_call 57;refine (ed ss.length _ xs _ (mu.alloc _).drew aP).mono ?_;rintro en wc ⟨ac,kc,rfl,hoc,hbc,Gg⟩;have DZ:=(zq.lits #[.pointer (some ⟨ya,0,none⟩),.pointer (some ⟨na,0,none⟩)] 2 rfl HO.out _ rfl).drew.below hbc;have hbb:Below w.heap.size w wc:=below_ad hbc;have AS:=own_ad Gg)
   | (refine zF (by rfl) _ _ _ (by rfl) 34 (.pointer none) 1 8 Tryz.underlying66 Tryz.infoB rfl h01 (.slice ac ss.length kc) ss.length xs (by rfl) hoc _ 2 [.pointer (some ⟨ya,0,none⟩),.pointer (some ⟨na,0,none⟩)] (by rfl) DZ hm nA ?_;intro a' c' w6 rj fO sQ;have DC:Below w.heap.size w w6:=but_below2 hbb fO AS;have hFg:=own_2 hbb AS sQ)
   | (refine zF (by rfl) _ _ _ (by rfl) 34 (.pointer none) 1 8 Tryz.underlying66 Tryz.infoB rfl h01 (.slice ac ss.length kc) ss.length xs (by rfl) (hoc.alloc _) _ 2 [.pointer (some ⟨ya,0,none⟩),.pointer (some ⟨na,0,none⟩)] (by rfl) (zq.lits #[.pointer (some ⟨ya,0,none⟩),.pointer (some ⟨na,0,none⟩)] 2 rfl HO.out _ rfl) hm nA ?_;intro a' c' w6 rj fO sQ;have DC:Below w.heap.size w w6:=but_below hbb fO AS;have hFg:=own_1 hbb AS sQ))
 all_goals
  go_wp2_with fail
  go_ret
  refine ⟨_,rfl,DC,?_⟩
  have:(kq (.ask v ss y n)).length=ss.length+2:=by simp [kq]
  rw [this]
  refine rj.rep (fun g h=>.inr (hFg g h)) ?_
  show zX _ _ (jJ (ss++[y,n])) _
  rw [encBs_append]
  refine zX.append (zX.below DC (fun _ h=>.inl h) il) ?_
  exact zQ.2 ⟨_,_,rfl,Rep.below DC (fun _ h=>.inl h) hy,zX.one (Rep.below DC (fun _ h=>.inl h) hnn)⟩
theorem cF (F:Nat->Prop) (w:World) (b:Bd) (v:Value) (h:Rep F w (qK b) v) (hn:Lim (zW b)) :
 Calls Tryz.prog 31 #[v] w (gK F w b):=by
 cases b with
 | leaf c=>exact parts_leaf F w c v h
 | ask u ss y n=>exact parts_ask F w u ss y n v h (hn.mono (by
  have:=qB ss;have:=kW y;have:=kW n;simp [zW];omega))
def cp (b:Bd):Prop:=∀ (F:Nat->Prop) (w:World) (v:Value),Rep F w (qK b) v ->
 Calls Tryz.prog 81 #[v] w fun en w'=>en=.returned (.int .i64 (kP b:Nat))/\Below w.heap.size w w'
theorem depth_step (b:Bd) (hl:Lim (zW b)) (ih:∀ t,zW t<zW b->cp t):cp b:=by
 intro F w v hv
 have IH:=fX ih;clear ih
 have tR:=hl.le
 obtain ⟨a0,e⟩:=kZ hv
 subst e
 have f7:=uD b
 have hdl:=p8 _ b (fP _)
 go_enter Tryz.func81,Tryz.ntmps81
 go_wp2_with fail
 refine (cF F w b _ hv hl).mono ?_
 rintro en w1 ⟨pv,rfl,fA,hp⟩
 obtain ⟨pa,pc,e,_,_,fM⟩:=zP hp
 subst e
 have AT:=fX fM;clear fM hp
 have hlen:=qB (kq b)
 have HS:=fX f7;clear f7
 have Jq:(kq b).length<=16777216:=by have:=HS.out;omega
 go_wp2_with fail
 go_loopw [3,9] (fun n i wr=>∃ k:Nat,k<=(kq b).length/\i=.int .i64 k/\n=.int .i64 (( kI ((kq b).take k):Nat):Int)/\Below w1.heap.size w1 wr) (fun _ i _=>(kq b).length-(intOf i).toNat)
 case atStart=>exact ⟨0,Nat.zero_le _,rfl,by simp [kI],fH _ _⟩
 case round =>
  rename_i wr
  obtain ⟨k,hk,rfl,rfl,hb⟩:=hrel
  by_cases fT:k<(kq b).length
  ·obtain ⟨ba,oa,u,d,ea,_,Gp,hd,hu,hr⟩:=AT.out k fT
   subst ea
   rw [xV,Option.map_eq_some_iff] at hd
   obtain ⟨t,ht,rfl⟩:=hd
   obtain ⟨ta,eu⟩:=kZ hr
   subst eu
   have hc:wr.cell? ⟨ba,oa+k,none⟩=some (.pointer (some ⟨ta,0,none⟩)):=by rw [hb.cell Gp];exact hu
   have hst:=depthBs_take ht
   have i2:=yX ht
   have mO:=jb (kq b) (k+1)
   have sZ:Rep _ wr (qK t) (.pointer (some ⟨ta,0,none⟩)):=Rep.below hb (fun _ h=>h) hr
   have f7:=HS.out
   have ij:zW t<zW b:=by omega
   have hdt:=p8 _ t (fP _)
   have IH':=fX (IH.out t ij)
   have i7:kI ((kq b).take k)<=16777216:=by have h:=ex (ts:=(kq b).take k) (fun t _=>p8 _ t (fP _));have:=jb (kq b) k;omega
   have htd:kP t<=16777216:=by omega
   have HT:=fX hst
   clear hst i2 f7 ht hu hr
   go_wp2_with fail
   refine (IH'.out _ _ _ sZ).mono ?_
   rintro en w2 ⟨rfl,fN⟩
   have fv:=zzT hb fN
   go_wp2_with fail
   all_goals
    go_roundw
    case rel=>exact ⟨k+1,by omega,by go_num,by rw [HT.out];congr 1;omega,fv⟩
    case measure=>simp [intOf];omega
  ·obtain rfl:k=(kq b).length:=by omega
   go_wp2_with fail
   go_ret
   refine ⟨yz ?_,zzT fA hb⟩
   rw [List.take_length,yj b]
theorem depth_any (n:Nat):∀ b,zW b<=n->Lim n->cp b:=by
 induction n with
 | zero=>intro b h _;have:=kW b;omega
 | succ n ih=>exact fun b h hn=>depth_step b (hn.mono h) (fun t h'=>ih t (by omega) (hn.mono (by omega)))
def d7 (b:Bd):Prop:=∀ (F:Nat->Prop) (w:World) (v:Value),Rep F w (qK b) v ->
 Calls Tryz.prog 80 #[v] w fun en w'=>en=.returned (.int .i64 (zW b:Nat))/\Below w.heap.size w w'
theorem size_step (b:Bd) (hl:Lim (zW b)) (ih:∀ t,zW t<zW b->d7 t):d7 b:=by
 intro F w v hv
 have IH:=fX ih;clear ih
 have tR:=hl.le
 obtain ⟨a0,e⟩:=kZ hv
 subst e
 have f7:=uD b
 go_enter Tryz.func80,Tryz.ntmps80
 go_wp2_with fail
 refine (cF F w b _ hv hl).mono ?_
 rintro en w1 ⟨pv,rfl,fA,hp⟩
 obtain ⟨pa,pc,e,_,_,fM⟩:=zP hp
 subst e
 have AT:=fX fM;clear fM hp
 have hlen:=qB (kq b)
 have HS:=fX f7;clear f7
 have Jq:(kq b).length<=16777216:=by have:=HS.out;omega
 go_wp2_with fail
 go_loopw [3,9] (fun n i wr=>∃ k:Nat,k<=(kq b).length/\i=.int .i64 k/\n=.int .i64 ((1+zR ((kq b).take k):Nat):Int)/\Below w1.heap.size w1 wr) (fun _ i _=>(kq b).length-(intOf i).toNat)
 case atStart=>exact ⟨0,Nat.zero_le _,rfl,by simp [zR],fH _ _⟩
 case round =>
  rename_i wr
  obtain ⟨k,hk,rfl,rfl,hb⟩:=hrel
  by_cases fT:k<(kq b).length
  ·obtain ⟨ba,oa,u,d,ea,_,Gp,hd,hu,hr⟩:=AT.out k fT
   subst ea
   rw [xV,Option.map_eq_some_iff] at hd
   obtain ⟨t,ht,rfl⟩:=hd
   obtain ⟨ta,eu⟩:=kZ hr
   subst eu
   have hc:wr.cell? ⟨ba,oa+k,none⟩=some (.pointer (some ⟨ta,0,none⟩)):=by rw [hb.cell Gp];exact hu
   have i2:=yX ht
   have mO:=jb (kq b) (k+1)
   have sZ:Rep _ wr (qK t) (.pointer (some ⟨ta,0,none⟩)):=Rep.below hb (fun _ h=>h) hr
   have f7:=HS.out
   have ij:zW t<zW b:=by omega
   have IH':=fX (IH.out t ij)
   have i7:1+zR ((kq b).take k)<=16777216:=by omega
   have htd:zW t<=16777216:=by omega
   have II:1+zR ((kq b).take k)+zW t<=16777216:=by omega
   have HT:=fX i2
   clear i2 f7 ht hu hr
   go_wp2_with fail
   refine (IH'.out _ _ _ sZ).mono ?_
   rintro en w2 ⟨rfl,fN⟩
   have fv:=zzT hb fN
   go_wp2_with fail
   all_goals
    go_roundw
    case rel=>exact ⟨k+1,by omega,by go_num,by rw [HT.out];congr 1;omega,fv⟩
    case measure=>simp [intOf];omega
  ·obtain rfl:k=(kq b).length:=by omega
   have i7:1+zR (kq b)<=16777216:=by have:=HS.out;omega
   rw [List.take_length]
   go_wp2_with fail
   go_ret
   exact ⟨yz (by rw [HS.out]),zzT fA hb⟩
theorem size_any (n:Nat):∀ b,zW b<=n->Lim n->d7 b:=by
 induction n with
 | zero=>intro b h _;have:=kW b;omega
 | succ n ih=>exact fun b h hn=>size_step b (hn.mono h) (fun t h'=>ih t (by omega) (hn.mono (by omega)))
end Go.Proofs.YtjggkhmojjaomaaGreatDoor
namespace Go.Proofs.YtjggkhmojjaomaaGreatDoor
open Go.RowKit Go.Shelf
attribute [local go_sem] Oper.semAt_some
def KpB (n₀:Nat) (p:Addr) (sv:Value) (W W':World):Prop:=Below n₀ W W'/\(W.cell? p=some sv->W'.cell? p=some sv)
theorem kpB_t {n₀:Nat} {p:Addr} {sv:Value} {A B C:World} (h:KpB n₀ p sv A B) (k:KpB n₀ p sv B C):KpB n₀ p sv A C:=⟨h.1.trans k.1,fun e=>k.2 (h.2 e)⟩
theorem kpB_b {n₀:Nat} {p:Addr} {sv:Value} {w:World} (hn:n₀<=w.heap.size) (W:World) (l:Nat) (o o':Obj) (hl:w.heap.size<=l) (h:W.heap[l]? = some o) (hc:o.isCells=false) (hw:o.isWalk=false):KpB n₀ p sv W (W.putObj l o') :=
 ⟨belowK_b hn W l o o' hl h hc hw,fun e=>cell_kept e (grownBy_putObj' _ l o') (fun r e=>by cases e;exact ⟨_,h,hc⟩)⟩
def BackAt {α:Type} (ix bl:α->Nat) (n₀:Nat) (w:World) (a:Option Addr) (xs:List α):Prop :=
 ∀ k x,xs[k]? = some x->ix x+k+1=xs.length/\∃ b o,a=some ⟨b,o,none⟩/\b<n₀/\w.cell? ⟨b,o+ix x,none⟩=some (.pointer (some ⟨bl x,0,none⟩))
set_option maxRecDepth 100000 in
theorem back1_in {α:Type} (ix bl:α->Nat) (F:Fence) (n:Nat) (hf:F.fn 74) (IV:F.round=none) (hn:1<=n) (l Bs n₀ cap:Nat) (a:Option Addr) (xs:List α) (hlen:xs.length<=16777216) (J Jx:List α->World->Prop)
 (hY:∀ pre x W,J pre W->pre.length<xs.length->YieldAt F (n-1) Tryz.prog l #[.int .i64 (ix x:Nat),.pointer (some ⟨bl x,0,none⟩)] W fun e W' =>
  (e=.returned (.bool true)/\J (pre++[x]) W'/\KpB n₀ ⟨Bs,0,none⟩ (.slice a xs.length cap) W W')\/(e=.returned (.bool false)/\Jx (pre++[x]) W'))
 (W:World) (hBs:W.cell? ⟨Bs,0,none⟩=some (.slice a xs.length cap)) (hc:BackAt ix bl n₀ W a xs) (h0:J [] W) :
 CallsIn F n Tryz.prog 74 #[.func (.yield l) #[] #[],.pointer (some ⟨Bs,0,none⟩)] W fun e W'=>(∃ v,e=.returned v) /\
  ((∃ ys,ys=xs/\J ys W')\/(∃ pre,pre <+: xs/\Jx pre W')):=by
 refine callsIn_of_wp Tryz.func74 rfl hf ?_ IV
 simp only [Tryz.ntmps74,List.size_toArray,List.length_cons,List.length_nil,Nat.reduceAdd,Nat.reduceSub,Array.replicate_succ,Array.replicate_zero,List.push_toArray,List.append_toArray,List.nil_append,List.cons_append]
 have FF:IntKind.i64.wrap ((xs.length:Int)-1)=(xs.length:Int)-1:=IntWalk.i64_in _ (by omega)
 gi_wp2
 clear FF
 gi_loopw [3] (fun i wr=>Below n₀ W wr/\wr.cell? ⟨Bs,0,none⟩=some (.slice a xs.length cap)/\((i=.int .i64 (-1)/\J xs wr)\/(∃ j:Nat,j<xs.length/\i=.int .i64 (j:Nat)/\J (xs.take (xs.length-1-j)) wr)))
  (fun i _=>(intOf i+1).toNat)
 case atStart =>
  refine ⟨fH _ _,hBs,?_⟩
  cases hx:xs with
  | nil=>subst hx;exact .inl ⟨by simp,h0⟩
  | cons x ys=>subst hx;exact .inr ⟨ys.length,by simp,by simp,by simpa using h0⟩
 case round =>
  obtain ⟨f_,hbs,⟨rfl,hJs⟩ | ⟨j,hj,rfl,hJs⟩⟩:=hrel
  ·gi_wp2
   go_end0
   exact ⟨⟨_,rfl⟩,.inl ⟨_,rfl,hJs⟩⟩
  ·have hj0:(0:Int)<=(j:Int):=by omega
   obtain ⟨x,hx⟩:∃ x,xs[xs.length-1-j]? = some x:=⟨xs[xs.length-1-j],by simp [show xs.length-1-j<xs.length from by omega]⟩
   obtain ⟨e1,b,o,rfl,hb,nT⟩:=hc _ x hx
   have e2:ix x=j:=by omega
   have hcx:=(f_.cell (p:=⟨b,o+ix x,none⟩) hb).trans nT
   obtain ⟨fn,tmps,assign,body,hy,hR⟩:=hY _ x wr hJs (by rw [List.length_take];omega)
   rw [e2] at hcx hy
   have me:xs.take (xs.length-1-j)++[x]=xs.take (xs.length-1-j+1):=by rw [List.take_add_one,hx];rfl
   have HX:=fX (fW e1 (fW e2 (fW hx me)))
   clear hx e1 e2 me nT
   have Am:(j:Int)<(xs.length:Int):=by omega
   have Iz:IntKind.i64.wrap ((j:Int)-1)=(j:Int)-1:=IntWalk.i64_in _ (by omega)
   gi_wp2
   refine hR.mono ?_
   rintro e W3 (⟨rfl,Ko,Jv⟩ | ⟨rfl,hJx3⟩)
   ·have hbs3:=Jv.2 hbs
    have hbw3:=f_.trans Jv.1
    gi_wp2
    go_roundw
    case rel =>
     refine ⟨hbw3,hbs3,?_⟩
     rw [HX.out.2.2.2] at Ko
     cases j with
     | zero =>
       left
       refine ⟨by simp,?_⟩
       rw [show xs.length-1-0+1=xs.length from by omega,List.take_length] at Ko
       exact Ko
     | succ j =>
       right
       refine ⟨j,by omega,by simp,?_⟩
       rw [show xs.length-1-(j+1)+1=xs.length-1-j from by omega] at Ko
       exact Ko
    case measure=>simp [intOf]
   ·gi_wp2
    refine bodyPost_ret (results_none rfl _ _ _) rfl ?_
    exact ⟨⟨_,rfl⟩,.inr ⟨_,by rw [HX.out.2.2.2];exact List.take_prefix _ _,hJx3⟩⟩
theorem back_in (F:Fence) (n:Nat) (hf:F.fn 52) (IV:F.round=none) (a:Option Addr) (len cap:Nat) (w:World) :
 CallsIn F n Tryz.prog 52 #[.slice a len cap] w fun e w'=>e=.returned (.func (.func 74) #[] #[.pointer (some ⟨w.heap.size,0,none⟩)])/\w'=w.alloc (.cells #[.slice a len cap] 100):=by
 refine callsIn_of_wp Tryz.func52 rfl hf ?_ IV
 simp only [Tryz.ntmps52,List.size_toArray,List.length_cons,List.length_nil,Nat.reduceAdd,Nat.reduceSub,Array.replicate_succ,Array.replicate_zero,List.push_toArray,List.append_toArray,List.nil_append,List.cons_append]
 gi_wp2
 go_ret
 exact ⟨rfl,rfl⟩
theorem back_stops {α:Type} (ix bl:α->Nat) (F:Fence) (n:Nat) (hf:F.fn 74) (IV:F.round=none) (hn:1<=n) (Bs n₀ cap:Nat) (a:Option Addr) (xs:List α) (hlen:xs.length<=16777216) (w:World) (hBs:Bs<w.heap.size) (hn₀:n₀<=w.heap.size)
 (hc:w.cell? ⟨Bs,0,none⟩=some (.slice a xs.length cap)) (hI:BackAt ix bl n₀ w a xs) :
 SeqStopsK F n Tryz.prog 74 #[.pointer (some ⟨Bs,0,none⟩)] (fun x:α=>#[Value.int .i64 (ix x:Nat),.pointer (some ⟨bl x,0,none⟩)]) (KpB n₀ ⟨Bs,0,none⟩ (.slice a xs.length cap)) (fun ys=>ys=xs) (fun pre=>pre <+: xs) xs.length w:=fun l J Jx W hW _ _ hY h0 =>
 back1_in ix bl F n hf IV hn l Bs n₀ cap a xs hlen J Jx hY W ((hW.cell (p:=⟨Bs,0,none⟩) hBs).trans hc) (fun k x hx=>by
  obtain ⟨h1,b,o,h2,h3,h4⟩:=hI k x hx
  exact ⟨h1,b,o,h2,h3,((hW.mono hn₀).cell (p:=⟨b,o+ix x,none⟩) h3).trans h4⟩) h0
def jt:List Ty->Bs:=List.foldl (fun s t=>[40,62,32]++zN t++[32]++s++[41]) [98]
theorem gJ (pre:List Ty) (t:Ty):jt (pre++[t])=[40,62,32]++zN t++[32]++jt pre++[41]:=by simp [jt]
theorem hG:∀ ts:List Ty,jt ts.reverse=zN (.mk ts)
 | []=>by rw [uB];rfl
 | t::ts=>by rw [List.reverse_cons,gJ,hG ts,uX];simp
structure wR (F:Nat->Prop) (w:World) (t0:Ty) where
 ix:Nat
 bl:Nat
 ty:Ty
 rep:Rep F w (jS ty) (.pointer (some ⟨bl,0,none⟩))
 low:zV ty<zV t0
def cP (t:Ty):Prop:=∀ (F:Nat->Prop) (w:World) (v:Value),Rep F w (jS t) v ->
 Calls Tryz.prog 21 #[v] w fun en w'=>en=.returned (str (zN t))/\Below w.heap.size w w'
theorem textFrom_len (pre:List Ty) (C:Nat) (h:∀ t∈pre,(zN t).length<=C):(jt pre).length<=1+pre.length*(C+5):=by
 have key:∀ (pre:List Ty) (s:Bs),(∀ t∈pre,(zN t).length<=C)->(pre.foldl (fun s t=>[40,62,32]++zN t++[32]++s++[41]) s).length<=s.length+pre.length*(C+5):=by
  intro pre
  induction pre with
  | nil=>intro s _;simp
  | cons t pre ih =>
    intro s h
    have h1:=ih ([40,62,32]++zN t++[32]++s++[41]) fun x hx=>h x (by simp [hx])
    have h2:=h t (by simp)
    simp only [List.foldl_cons,List.length_append,List.length_cons,List.length_nil] at h1 ⊢
    rw [Nat.add_mul]
    omega
 have:=key pre [98] h
 simpa [jt] using this
theorem items_of {F:Nat->Prop} {w:World} {t:Ty} {a:Option Addr} {n₀:Nat} (hF:∀ i,F i->i<n₀) (fM:Ats F w t.args.length (jL t.args) a) :
 ∃ xs:List (wR F w t),xs.length=t.args.length/\xs.map wR.ty=t.args.reverse/\BackAt wR.ix wR.bl n₀ w a xs:=by
 have key:∀ m,m<=t.args.length->∃ xs:List (wR F w t),xs.length=m/\xs.map wR.ty=(t.args.take m).reverse/\∀ k x,xs[k]? = some x->x.ix+k+1=m/\∃ b o,a=some ⟨b,o,none⟩/\b<n₀/\w.cell? ⟨b,o+x.ix,none⟩=some (.pointer (some ⟨x.bl,0,none⟩)):=by
  intro m
  induction m with
  | zero=>intro _;exact ⟨[],rfl,by simp,by simp⟩
  | succ m ih =>
    intro hm
    obtain ⟨xs,h1,h2,h3⟩:=ih (by omega)
    obtain ⟨b,o,u,d,ea,Kp,f_,hd,hc,rQ⟩:=fM m (by omega)
    rw [pB,Option.map_eq_some_iff] at hd
    obtain ⟨ty,ht,rfl⟩:=hd
    obtain ⟨ub,_,rfl,_⟩:=kK rQ
    have sK:zV ty<zV t:=by
     have:=yu ht
     have:=uU t.args (m+1)
     have:=qg t
     omega
    refine ⟨⟨m,ub,ty,rQ,sK⟩::xs,by simp [h1],?_,fun k x hk=>?_⟩
    ·rw [List.map_cons,h2,List.take_add_one,ht];simp
    ·cases k with
     | zero =>
       simp at hk;subst hk
       exact ⟨rfl,b,o,ea,hF b Kp,hc⟩
     | succ k =>
       obtain ⟨q1,q2⟩:=h3 k x (by simpa using hk)
       exact ⟨by omega,q2⟩
 obtain ⟨xs,h1,h2,h3⟩:=key t.args.length (fP _)
 rw [List.take_length] at h2
 exact ⟨xs,h1,h2,fun k x hk=>by obtain ⟨q1,q2⟩:=h3 k x hk;exact ⟨by omega,q2⟩⟩
theorem eD {A B:World} (h:Below A.heap.size A B):KeepsOthers A B :=
 ⟨h.size,fun k o hk _=>(h.block k (zZ hk)).trans hk⟩
theorem keeps_round {w W w':World} {sv:Value} {R O T:Bs} {n₀:Nat} (hn:n₀<=w.heap.size) (hB:Below w.heap.size w W) (hb:Below W.heap.size W.drew w') (hc:w'.cell? ⟨w.heap.size,0,none⟩=some (str R)) (hf:w'.frozen? ⟨w.heap.size,0,none⟩=false) (hT:T=O) :
 KeepsOthers W (w'.setCell ⟨w.heap.size,0,none⟩ (str O))/\KpB w.heap.size ⟨w.heap.size+1,0,none⟩ sv W (w'.setCell ⟨w.heap.size,0,none⟩ (str O)) /\
  ((w'.setCell ⟨w.heap.size,0,none⟩ (str O)).cell? ⟨w.heap.size,0,none⟩=some (str T)/\(w'.setCell ⟨w.heap.size,0,none⟩ (str O)).frozen? ⟨w.heap.size,0,none⟩=false)/\Below w.heap.size w (w'.setCell ⟨w.heap.size,0,none⟩ (str O)):=by
 have h1:Below W.heap.size W w':=⟨hb.os,hb.tape,hb.output,hb.size,hb.block⟩
 have h2:=(h1.mono hB.size).setCell (p:=⟨w.heap.size,0,none⟩) (fP _) (str O)
 subst hT
 refine ⟨(eD h1).trans (KeepsOthers.setCell _ _ _),⟨h2,fun e=>?_⟩,⟨World.cell?_setCell_same' _ _ _ (by rw [hc];rfl),by rw [World.frozen?_setCell];exact hf⟩,hB.trans h2⟩
 have h3:=(h1.cell (p:=⟨w.heap.size+1,0,none⟩) (fG W _ e)).trans e
 rw [World.cell?_of_block (w:=w') (fB _ _ _ _ (by simp))]
 exact h3
set_option maxRecDepth 100000 in
theorem textK_step (t:Ty) (hl:zV t<=1000) (ih:∀ t',zV t'<zV t->cP t'):cP t:=by
 intro F0 w v h0
 have h1:Rep (fun i=>F0 i/\i<w.heap.size) w (jS t) v:=(Rep.keep fun b o hf ho=>⟨⟨hf,zZ ho⟩,ho⟩).1 _ _ h0
 obtain ⟨b,s,rfl,hb,hc,hs⟩:=kK h1
 have c1:w.cell? ⟨b,0,none⟩=some s:=by simp [World.cell?,hc]
 obtain ⟨a,cap,rfl,hn,hlen,fM⟩:=zP hs
 have lA:t.args.length<=1000:=by have:=qV t.args;have:=qg t;omega
 clear hc hs h0 h1 hn hlen
 obtain ⟨W0,mQ⟩:=zzN ((w.alloc (.cells #[str [98]] 9)).alloc (.cells #[.slice a t.args.length cap] 100))
 obtain ⟨xs,x1,x2,x3⟩:=items_of (n₀:=w.heap.size) (fun i hi=>hi.2) fM
 refine (callsIn_wide (n:=4)).1 ?_
 refine callsIn_of_wp_marks Tryz.func21 rfl trivial ?_ rfl
 simp only [Tryz.ntmps21,List.size_toArray,List.length_cons,List.length_nil,Nat.reduceAdd,Nat.reduceSub,Array.replicate_succ,Array.replicate_zero,List.push_toArray,List.append_toArray,List.nil_append,List.cons_append]
 gi_wp2_with (refine ⟨trivial,?_⟩;gi_at_call 52;refine (back_in Fence.wide _ trivial rfl _ _ _ _).mono ?_;rintro e w' ⟨rfl,rfl⟩)
 have GF:W0.heap[w.heap.size]? = some (.cells #[str [98]] 9 (0,0)):=by rw [<- mQ];exact zY (zG w _)
 have sV:W0.cell? ⟨w.heap.size,0,none⟩=some (str [98]):=by simp [World.cell?,GF]
 have hf0:W0.frozen? ⟨w.heap.size,0,none⟩=false:=by simp [World.frozen?,GF]
 have oK:W0.heap.size=w.heap.size+2:=by rw [<- mQ];simp
 have oX:W0.cell? ⟨w.heap.size+1,0,none⟩=some (.slice a xs.length cap):=by
  have h:W0.heap[w.heap.size+1]? = some (.cells #[.slice a t.args.length cap] 100 (0,0)):=by
   rw [<- mQ]
   have:=zG (w.alloc (.cells #[str [98]] 9)) (.cells #[.slice a t.args.length cap] 100)
   rwa [zK] at this
  simp [World.cell?,h,x1]
 have Hv:Below w.heap.size w W0:=by rw [<- mQ];exact ((fH _ w).alloc (fP _) _).alloc (by simp) _
 have Ht:BackAt wR.ix wR.bl w.heap.size W0 a xs:=fun k x hx=>by
  obtain ⟨q1,b,o,q2,q3,q4⟩:=x3 k x hx
  exact ⟨q1,b,o,q2,q3,(Hv.cell (p:=⟨b,o+x.ix,none⟩) q3).trans q4⟩
 have hx1000:xs.length<=1000:=by omega
 have oR:jt (xs.map wR.ty)=zN t:=by rw [x2,hG];cases t;rfl
 have IH:=fX ih
 clear ih
 refine wpIn_rangeFunc_ownF rfl (by omega) (gf:=74) (lb:=#[.pointer (some ⟨w.heap.size+1,0,none⟩)]) rfl trivial (enters_of Tryz.func74 (by kernel_rfl) rfl)
  (back_stops (α:=wR (fun i=>F0 i/\i<w.heap.size) w t) wR.ix wR.bl Fence.wide _ trivial rfl (by omega) (w.heap.size+1) w.heap.size cap a xs (by omega) W0 (by omega) (by omega) oX Ht) kpB_t (kpB_b (by omega)) (fH _ _) (fun _=>rfl)
  (fun pre W=>(W.cell? ⟨w.heap.size,0,none⟩=some (str (jt (pre.map wR.ty)))/\W.frozen? ⟨w.heap.size,0,none⟩=false)/\Below w.heap.size w W)
  (fun _ _ _=>False)
  (OwnFrom.and (Own.from (fun s A B row hs hg hr=>⟨cell_kept hs.1 hg hr,(frozen_kept hs.1 hg hr).trans hs.2⟩) _) (ownFrom_below (fP _) (by omega)))
  (fun _ _ _ _ _ hs _ _=>hs)
  ⟨⟨sV,hf0⟩,Hv⟩
  (fun x=>{ tmps:=#[.pointer (some ⟨b,0,none⟩),undef,str [],.pointer (some ⟨w.heap.size,0,none⟩),undef,.pointer (some ⟨x.bl,0,none⟩),.pointer (some ⟨b,0,none⟩),.pointer (some ⟨b,0,none⟩),.pointer (some ⟨b,0,none⟩),.slice a t.args.length cap,.func (.func 74) #[] #[.pointer (some ⟨w.heap.size+1,0,none⟩)],.int .i64 (x.ix:Nat),.pointer (some ⟨x.bl,0,none⟩),undef,undef,undef,undef,undef,undef,undef,undef],defers:=[] }) ?assign ?body ?done ?stop
 case assign =>
  intro l x W K hK
  gi_wp2
  exact hK
 case body =>
  rintro l pre x W ⟨⟨hc,hf⟩,hB⟩ fj
  have tP:Tryz.prog.follows .mixedOrders=true:=by kernel_rfl
  have Hc:(zN x.ty).length<=3000:=by have:=jy 1000 x.ty (by have:=x.low;omega);have:=x.low;omega
  have mO:(jt (pre.map wR.ty)).length<=1+pre.length*(3000+5):=by
   have:=textFrom_len (pre.map wR.ty) 3000 fun t' rV=>by
    obtain ⟨y,_,rfl⟩:=List.mem_map.1 rV
    have:=jy 1000 y.ty (by have:=y.low;omega);have:=y.low;omega
   rwa [List.length_map] at this
  have hne:jt ((pre++[x]).map wR.ty)=[40,62,32]++zN x.ty++[32]++jt (pre.map wR.ty)++[41]:=by rw [List.map_append,List.map_cons,List.map_nil,gJ]
  have IP:Rep (fun i=>F0 i/\i<w.heap.size) W (jS x.ty) (.pointer (some ⟨x.bl,0,none⟩)):=(Rep.keep fun b o hf ho=>⟨hf,by rw [hB.block b hf.2];exact ho⟩).1 _ _ x.rep
  have C1:Hid (∀ X,X=zN x.ty->Calls Tryz.prog 21 #[.pointer (some ⟨x.bl,0,none⟩)] W.drew fun en w'=>en=.returned (str X)/\Below W.heap.size W.drew w'):=by
   show ∀ X,_->_
   rintro X rfl
   exact IH.out x.ty x.low _ W.drew _ ((Rep.keep (w:=W) (w':=W.drew) fun _ _ hf ho=>⟨hf,ho⟩).1 _ _ IP)
  obtain ⟨X,hX⟩:=zzM (zN x.ty)
  obtain ⟨R,hR⟩:=zzM (jt (pre.map wR.ty))
  rw [<- hX] at Hc hne
  rw [<- hR] at mO hne hc
  have C2:=fX (C1.out X hX)
  obtain ⟨O1,h1⟩:=zzM ([40,62,32]++X)
  obtain ⟨O2,h2⟩:=zzM (O1++[32])
  obtain ⟨O3,h3⟩:=zzM (O2++R)
  obtain ⟨O4,h4⟩:=zzM (O3++[41])
  have m1:O1.length=X.length+3:=by rw [h1];simp
  have m2:O2.length=O1.length+1:=by rw [h2];simp
  have m3:O3.length=O2.length+R.length:=by rw [h3];simp
  have iN:=fun w0=>qN (P:=Tryz.prog) [40,62,32] X (by simp;omega) w0
  have iM:=fun w0=>qN (P:=Tryz.prog) O1 [32] (by simp;omega) w0
  have lI:=fun w0=>qN (P:=Tryz.prog) O2 R (by omega) w0
  have lL:=fun w0=>qN (P:=Tryz.prog) O3 [41] (by simp;omega) w0
  have H4:Hid (jt ((pre++[x]).map wR.ty)=O4):=by show _=_;rw [hne,h4,h3,h2,h1]
  rw [<- h1] at iN;rw [<- h2] at iM;rw [<- h3] at lI;rw [<- h4] at lL
  have HB:=fX hB
  have HXX:=fX (fW x3 (fW Ht (fW oX Hv)))
  clear h1 h2 h3 h4 m1 m2 m3 hX hR C1 IP hne Hc mO hB x3 Ht oX Hv oR x2 mQ sV hf0 fM c1
  gi_wp2
  have hcd:W.drew.cell? ⟨w.heap.size,0,none⟩=some (str R):=hc
  have hz:=fG W _ hc
  gi_region_with_o (refine ⟨trivial,?_⟩;gi_at_call 21;refine (CallsIn.inRound l (callsIn_wide.2 C2.out)).mono ?_;rintro e w' ⟨rfl,fx⟩;have Cr:w'.cell? ⟨w.heap.size,0,none⟩=some (str R):=(fx.cell (p:=⟨w.heap.size,0,none⟩) hz).trans hcd;have hf':w'.frozen? ⟨w.heap.size,0,none⟩=false:=(fx.frozen (p:=⟨w.heap.size,0,none⟩) hz).trans hf)
  all_goals gi_wp2
  all_goals exact keeps_round (fP _) HB.out fx Cr hf' (by rw [H4.out])
 case done =>
  rintro D ys W hD rfl ⟨⟨hc,hf⟩,hB⟩ hK
  rw [oR] at hc
  gi_wp2
  refine ⟨by simp,.inl ⟨_,_,rfl,run_takeDeferred hK,?_⟩⟩
  exact ⟨_,results_tmp rfl _ _ _,rfl,hB.trans (belowK_b (w:=w) (fP _) W D _ _ (by omega) hK rfl rfl)⟩
 case stop =>
  rintro D c pre W _ _ h _
  exact h.elim
theorem cG (n:Nat):∀ t,zV t<=n->n<=1000->cP t:=by
 induction n with
 | zero=>intro t h _;have:=kh t;omega
 | succ n ih=>exact fun t h hn=>textK_step t (by omega) (fun t' h'=>ih t' (by omega) (by omega))
end Go.Proofs.YtjggkhmojjaomaaGreatDoor
namespace Go.Proofs.YtjggkhmojjaomaaGreatDoor
open Go.RowKit
set_option maxRecDepth 20000 in
theorem eF (s:Bs) (w:World) (hl:Lim s.length) :
 Calls Tryz.prog 72 #[str s] w fun en w'=>en=.returned (.bool (qG s))/\w'=w:=by
 have tR:=hl.le
 by_cases h0:s.length=0
 ·obtain rfl:s=[]:=List.eq_nil_of_length_eq_zero h0
  clear h0
  go_enter Tryz.func72,Tryz.ntmps72
  go_wp2_with fail
  go_ret
  exact ⟨rfl,rfl⟩
 have hne:(s == [])=false:=by rw [beq_eq_false_iff_ne];rintro rfl;exact h0 rfl
 have iw:s.isEmpty=false:=by rw [List.isEmpty_eq_false_iff];rintro rfl;exact h0 rfl
 have mo:0<s.length:=by omega
 clear h0
 by_cases h3:3<s.length
 ·have HN:=fX (name_no1 h3)
  go_enter Tryz.func72,Tryz.ntmps72
  go_wp2_with fail
  go_ret
  exact ⟨by rw [HN.out];rfl,rfl⟩
 have B:=yN mo
 by_cases hA:s[0].toNat<120
 ·have HN:=fX (bG mo (.inl hA))
  have b1:((((⟨s.toArray⟩:ByteArray)[0]'(kx mo)).toNat:Int))<120:=by rw [B];omega
  clear B hA
  go_enter Tryz.func72,Tryz.ntmps72
  go_wp2_with fail
  go_ret
  exact ⟨by rw [HN.out];rfl,rfl⟩
 by_cases hB:122<s[0].toNat
 ·have HN:=fX (bG mo (.inr hB))
  have b1:(122:Int)<((((⟨s.toArray⟩:ByteArray)[0]'(kx mo)).toNat:Int)):=by rw [B];omega
  have b2:¬ ((((⟨s.toArray⟩:ByteArray)[0]'(kx mo)).toNat:Int))<120:=by omega
  clear B hA hB
  go_enter Tryz.func72,Tryz.ntmps72
  go_wp2_with fail
  go_ret
  exact ⟨by rw [HN.out];rfl,rfl⟩
 have b1:¬ (122:Int)<((((⟨s.toArray⟩:ByteArray)[0]'(kx mo)).toNat:Int)):=by rw [B];omega
 have b2:¬ ((((⟨s.toArray⟩:ByteArray)[0]'(kx mo)).toNat:Int))<120:=by rw [B];omega
 have HA:=fX (fW hA hB)
 clear B hA hB
 go_enter Tryz.func72,Tryz.ntmps72
 go_wp2_with fail
 clear b1 b2
 go_loop [3] (fun i=>∃ k:Nat,1<=k/\k<=s.length/\i=.int .i64 k/\∀ j,1<=j->j<k->∀ (hj:j<s.length),48<=s[j].toNat/\s[j].toNat<=57) (fun i=>s.length-(intOf i).toNat)
 case atStart=>exact ⟨1,fP _,mo,rfl,fun j h1 h2=>by omega⟩
 case round =>
  obtain ⟨k,Dx,hk,rfl,n9⟩:=hrel
  have HR:=fX n9;clear n9
  by_cases fT:k<s.length
  ·have B:=yN fT
   by_cases hA:s[k].toNat<48
   ·have HN:=fX (bP Dx fT (.inl hA))
    have b1:((((⟨s.toArray⟩:ByteArray)[k]'(kx fT)).toNat:Int))<48:=by rw [B];omega
    clear B hA
    go_wp2_with fail
    go_ret
    exact ⟨by rw [HN.out];rfl,rfl⟩
   by_cases hB:57<s[k].toNat
   ·have HN:=fX (bP Dx fT (.inr hB))
    have b1:(57:Int)<((((⟨s.toArray⟩:ByteArray)[k]'(kx fT)).toNat:Int)):=by rw [B];omega
    have b2:¬ ((((⟨s.toArray⟩:ByteArray)[k]'(kx fT)).toNat:Int))<48:=by omega
    clear B hA hB
    go_wp2_with fail
    go_ret
    exact ⟨by rw [HN.out];rfl,rfl⟩
   have b1:¬ (57:Int)<((((⟨s.toArray⟩:ByteArray)[k]'(kx fT)).toNat:Int)):=by rw [B];omega
   have b2:¬ ((((⟨s.toArray⟩:ByteArray)[k]'(kx fT)).toNat:Int))<48:=by rw [B];omega
   have HB:=fX (fW hA hB)
   clear B hA hB
   go_wp2_with fail
   go_round
   case rel=>exact ⟨k+1,by omega,by omega,by go_num,fun j h1 h2 hj=>by
    by_cases e:j=k
    ·subst e;have:=HB.out;omega
    ·exact HR.out j h1 (by omega) hj⟩
   case measure=>simp [intOf];omega
  ·go_wp2_with fail
   go_ret
   have HA':=HA.out
   exact ⟨by rw [name_yes mo (by omega) (by omega) (fun j h1 hj=>HR.out j h1 (by omega) hj)];rfl,rfl⟩
def jX:Tm->DV
 | .nm x=>.ptr 96 [.val (str []),.val (str x),.val (.pointer none),.sl 55 1 0 []]
 | .wd w=>.ptr 96 [.val (str w),.val (str []),.val (.pointer none),.sl 55 1 0 []]
 | .lam x k t=>.ptr 96 [.val (str jq),.val (str x),jS k,.sl 55 1 1 [jX t]]
 | .app m n=>.ptr 96 [.val (str vT),.val (str []),.val (.pointer none),.sl 55 1 2 [jX m,jX n]]
 | .ite l m n=>.ptr 96 [.val (str ifW),.val (str []),.val (.pointer none),.sl 55 1 3 [jX l,jX m,jX n]]
theorem qW {F:Nat->Prop} {w:World} {t:Tm} {v:Value} (h:Rep F w (jX t) v):∃ a,v=.pointer (some ⟨a,0,none⟩):=by
 cases t <;> (rw [jX,jd] at h;obtain ⟨a,c,h,_⟩:=h;exact ⟨a,h⟩)
def vH (sc:Nat) (c:List Value) (e:TypeId) (w:World) (o:Option (Tm×Bs)) (en:Ending) (w':World):Prop :=
 ∃ v r',en=.returned v/\But (· = sc) w w'/\jj sc c e r' w'/\(o=none->v=.pointer none)/\(∀ t rest,o=some (t,rest)->r'=rest/\Rep (w.heap.size<=·) w' (jX t) v)
theorem vH.no {sc:Nat} {c:List Value} {e:TypeId} {w:World} {r:Bs} {w':World} {o:Option (Tm×Bs)} (ho:o=none) (hb:But (· = sc) w w') (hs:jj sc c e r w'):vH sc c e w o (.returned (.pointer none)) w' :=
 ⟨_,r,rfl,hb,hs,fun _=>rfl,fun _ _ h=>by rw [ho] at h;simp at h⟩
theorem vH.yes {sc:Nat} {c:List Value} {e:TypeId} {w:World} {r:Bs} {w':World} {o:Option (Tm×Bs)} {t:Tm} {v:Value} (ho:o=some (t,r)) (hb:But (· = sc) w w') (hs:jj sc c e r w')
 (hv:Rep (w.heap.size<=·) w' (jX t) v):vH sc c e w o (.returned v) w' :=
 ⟨_,r,rfl,hb,hs,fun h=>by rw [ho] at h;simp at h,fun _ _ h=>by rw [ho] at h;simp at h;obtain ⟨rfl,rfl⟩:=h;exact ⟨rfl,hv⟩⟩
def cJ (sc:Nat) (c:List Value) (e:TypeId) (d:Nat):Prop:=∀ (r:Bs) (w:World),jj sc c e r w->Lim r.length ->
    Calls Tryz.prog 47 #[.pointer (some ⟨sc,0,none⟩),.int .i64 d] w (vH sc c e w (qh d r))
theorem uA {H:Type} {P:Program} (w:World) {ops:Array Oper} {rest:List Oper} {o:Oper} {a:Act} {Q:Exit->Act->World->Prop}
 (hg:o.guard=none) (m x v:Operand) (t:TypeId) (hop:o.op=Op.insert t m x v)
 (k e:TypeId) (K:Maps.Keyed P k) (ht:P.underlying t=some (.map k e)) (R:Value->Option (DataW H×List MemPlace)) (b n:Nat) (D:DataW H)
 (hm:a.eval m=.map (some b)) (fi:w.ownsMap P k R b n D) (hn:n<maxLen) (key val:Value) (kl:Lit) (hx:a.eval x=key) (hv:a.eval v=val) (hkey:keyOf P k key=some kl)
 (d:DataW H) (ps:List MemPlace) (DN:R val=some (d,ps))
 (hK:∀ w',w'.ownsMap P k R b (n+1) (D.put kl d)->w.grownBy w' (some b)->wpList P ops Q rest (a.put o.dst undef) w') :
 wpList P ops Q (o::rest) a w:=by
 refine wpList_plain hg fun K' hK'=>?_
 obtain ⟨w',BO,r1,r2⟩:=fi.update K ht hn hkey DN
 unfold Oper.wp
 simp [execOp,hop,hm,hx,hv,BO,Result.andThen]
 exact hK' _ _ (hK w' r1 r2)
theorem many_at (s:Bs) {H:Type}:((((DataW.map []:DataW H).put (.string jq) (.lit (.int .i64 1))).put (.string vT) (.lit (.int .i64 2))).put (.string ifW) (.lit (.int .i64 3))).atKey (.string s) (.lit (.int .i64 0))=.lit (.int .i64 (eX s:Nat)):=by
 have i0:Maps.IsMap (DataW.map []:DataW H):=Maps.isMap_empty
 unfold eX
 by_cases h3:s=ifW
 ·subst h3
  rw [Maps.atKey_put_same ((i0.put _ _).put _ _) (by simp [WideAt.IsKeyLit]),if_neg (by decide),if_neg (by decide),if_pos rfl];rfl
 rw [Maps.atKey_put_other (by simpa using h3)]
 by_cases h2:s=vT
 ·subst h2
  rw [Maps.atKey_put_same (i0.put _ _) (by simp [WideAt.IsKeyLit]),if_neg (by decide),if_pos rfl];rfl
 rw [Maps.atKey_put_other (by simpa using h2)]
 by_cases h1:s=jq
 ·subst h1
  rw [Maps.atKey_put_same i0 (by simp [WideAt.IsKeyLit]),if_pos rfl];rfl
 rw [Maps.atKey_put_other (by simpa using h1),if_neg h1,if_neg h2,if_neg h3]
 rfl
theorem Tryz.lawS:Maps.Keyed Tryz.prog 9:=Maps.string_keyed Tryz.underlying9
theorem Tryz.zeroI (w:World):(zeroValue 3).run Tryz.prog w=.ok (.int .i64 0) w:=by kernel_rfl
theorem keyS {s:Bs} (h:Lim s.length):keyOf Tryz.prog 9 (str s)=some (.string s):=by
 have:=WideMaps.keyOf_string_mk (P:=Tryz.prog) Tryz.underlying9 (s:=⟨s.toArray⟩) (by rw [wt];have:=h.le;unfold maxLen;omega)
 simpa using this
def vl (ob:Nat) (wd nm:Bs) (kv slv:Value) (w:World):Prop:=w.heap[ob]? = some (.cells #[str wd,str nm,kv,slv] 96 (0,0))
theorem vl.cells {ob:Nat} {wd nm:Bs} {kv slv:Value} {w:World} (h:vl ob wd nm kv slv w):w.cell? ⟨ob,0,none⟩=some (str wd)/\w.cell? ⟨ob,1,none⟩=some (str nm)/\w.cell? ⟨ob,2,none⟩=some kv/\w.cell? ⟨ob,3,none⟩=some slv/\ob<w.heap.size/\(∀ o,w.frozen? ⟨ob,o,none⟩=false):=by
 have hl:=zZ h
 unfold vl at h
 exact ⟨by simp [World.cell?,h],by simp [World.cell?,h],by simp [World.cell?,h],by simp [World.cell?,h],hl,fun o=>by simp [World.frozen?,h]⟩
theorem vl.put1 {ob:Nat} {wd nm u:Bs} {kv slv:Value} {w:World} (h:vl ob wd nm kv slv w):vl ob wd u kv slv (w.setCell ⟨ob,1,none⟩ (str u)):=by
 unfold vl;rw [zy h];rfl
theorem vl.put2 {ob:Nat} {wd nm:Bs} {kv slv u:Value} {w:World} (h:vl ob wd nm kv slv w):vl ob wd nm u slv (w.setCell ⟨ob,2,none⟩ u):=by
 unfold vl;rw [zy h];rfl
theorem vl.put3 {ob:Nat} {wd nm:Bs} {kv slv u:Value} {w:World} (h:vl ob wd nm kv slv w):vl ob wd nm kv u (w.setCell ⟨ob,3,none⟩ u):=by
 unfold vl;rw [zy h];rfl
set_option maxRecDepth 20000 in
theorem term_word (sc:Nat) (c:List Value) (e:TypeId) (d:Nat) (hd:d<=1000) (r:Bs) (w:World) (hs:jj sc c e r w) (hr:Lim r.length) (h1:pA [40] r) :
 Calls Tryz.prog 47 #[.pointer (some ⟨sc,0,none⟩),.int .i64 d] w (vH sc c e w (qh d r)):=by
 have hm:qh d r=if qG (zu r) then some (.nm (zu r),zT r) else if qj (zu r) then some (.wd (zu r),zT r) else none:=by rw [qh.eq_def];simp only [h1.out]
 have HM:=fX hm;clear hm
 have Ac:Lim (zu r).length:=hr.mono (by have:=xW r;omega)
 go_enter Tryz.func47,Tryz.ntmps47
 go_wp2_with fail
 refine (uI hs h1).mono ?_
 rintro en w1 ⟨rfl,fA,rq⟩
 go_wp2_with fail
 refine (dp _ _ _ _ _ rq hr).mono ?_
 rintro en w2 ⟨rfl,fN,iD⟩
 have hb:=fA.trans fN
 clear fA fN rq hs h1
 obtain ⟨wd,DM⟩:=zzM (zu r)
 rw [<- DM] at HM Ac ⊢
 clear DM
 go_wp2_with fail
 (with_reducible refine (eF wd w2 Ac).mono ?_)
 rintro en w3 ⟨rfl,e3⟩
 subst w3
 cases hn:qG wd with
 | true =>
   have HN:=fX hn;clear hn
   go_wp2_with fail
   go_ret
   refine vH.yes (t:=.nm wd) (r:=zT r) (by rw [HM.out,if_pos HN.out]) (hb.alloc _) (iD.alloc _) ?_
   rw [jX,jd]
   exact ⟨_,_,rfl,hb.size,zG _ _,zQ.2 ⟨_,_,rfl,zH.2 rfl,zQ.2 ⟨_,_,rfl,zH.2 rfl,zQ.2 ⟨_,_,rfl,zH.2 rfl,zQ.2 ⟨_,_,rfl,zp.2 ⟨rfl,none,0,rfl,fP _,fun _=>rfl,.inl rfl⟩,zC.2 rfl⟩⟩⟩⟩⟩
 | false =>
   have HN:=fX hn;clear hn
   have leaf:∀ x:UInt8,wd=[x]->qj [x]=true->∀ W,W=w2.alloc (.cells #[str [x],str [],.pointer none,.slice none 0 0] 96)->vH sc c e w (qh d r) (.returned (.pointer (some ⟨w2.heap.size,0,none⟩))) W:=by
    intro x hx Dw W hW
    subst hW
    refine vH.yes (t:=.wd wd) (r:=zT r) (by rw [HM.out,if_neg (by rw [HN.out];decide),if_pos (by rw [hx];exact Dw)]) (hb.alloc _) (iD.alloc _) ?_
    rw [jX,jd,hx]
    exact ⟨_,_,rfl,hb.size,zG _ _,zQ.2 ⟨_,_,rfl,zH.2 rfl,zQ.2 ⟨_,_,rfl,zH.2 rfl,zQ.2 ⟨_,_,rfl,zH.2 rfl,zQ.2 ⟨_,_,rfl,zp.2 ⟨rfl,none,0,rfl,fP _,fun _=>rfl,.inl rfl⟩,zC.2 rfl⟩⟩⟩⟩⟩
   have LEAF:=fX leaf;clear leaf
   by_cases c1:wd=[116]
   ·have HC:=fX c1
    rw [c1]
    clear c1 Ac
    go_wp2_with fail
    go_ret
    exact LEAF.out _ HC.out (by decide) _ rfl
   by_cases c2:wd=[102]
   ·have HC:=fX c2
    rw [c2]
    clear c1 c2 Ac
    go_wp2_with fail
    go_ret
    exact LEAF.out _ HC.out (by decide) _ rfl
   by_cases c3:wd=[117]
   ·have HC:=fX c3
    rw [c3]
    clear c1 c2 c3 Ac
    go_wp2_with fail
    go_ret
    exact LEAF.out _ HC.out (by decide) _ rfl
   have n1:(wd == [116])=false:=by rw [beq_eq_false_iff_ne];exact c1
   have n2:(wd == [102])=false:=by rw [beq_eq_false_iff_ne];exact c2
   have n3:(wd == [117])=false:=by rw [beq_eq_false_iff_ne];exact c3
   have HL:=fX (show qj wd=false by simp [qj,n1,n2,n3])
   clear c1 c2 c3 Ac LEAF
   go_wp2_with fail
   go_ret
   exact vH.no (by rw [HM.out,if_neg (by rw [HN.out];decide),if_neg (by rw [HL.out];decide)]) hb iD
def xT (sc:Nat) (c:List Value) (e:TypeId) (ob d m:Nat) (wd nm:Bs) (kv:Value) (r0:Bs) (wz:World) (k:Nat) (wr:World):Prop :=
 ∃ ts lk slv vs,ts.length=k/\(qE d m r0=(qE d (m-k) lk).map fun y=>(ts++y.1,y.2))/\lk.length<=r0.length/\But (fun i=>i=sc\/i=ob) wz wr/\jj sc c e lk wr/\vl ob wd nm kv slv wr /\
   Own wr 55 1 slv k vs/\(∀ g,slv.ownBlock=some g->wz.heap.size<=g)/\zX (fun b=>wz.heap.size<=b/\slv.ownBlock≠some b) wr (ts.map jX) vs
theorem Tryz.infoTm:(Tryz.prog.info? 55).map (fun i=>(i.zero,i.size,i.bytes))=some (some (.pointer none),1,8):=by kernel_rfl
theorem xT.next {sc:Nat} {c:List Value} {e:TypeId} {ob d m:Nat} {wd nm:Bs} {kv:Value} {r0:Bs} {wz:World} {k:Nat} {wr w2 w3:World} {ts:List Tm} {lk:Bs} {slv:Value} {vs:List Value} {t:Tm} {l1 rest:Bs} {vt:Value} {o:Obj} {a':Option Addr} {c':Nat}
 (fT:k<m) (mN:ts.length=k) (hp:qE d m r0=(qE d (m-k) lk).map fun y=>(ts++y.1,y.2)) (mO:lk.length<=r0.length) (hb:But (fun i=>i=sc\/i=ob) wz wr) (aj:vl ob wd nm kv slv wr)
 (fi:Own wr 55 1 slv k vs) (hZ:∀ g,slv.ownBlock=some g->wz.heap.size<=g) (hr:zX (fun b=>wz.heap.size<=b/\slv.ownBlock≠some b) wr (ts.map jX) vs)
 (hc:cut [32] lk=some l1) (ht:qh d l1=some (t,rest)) (fN:But (· = sc) wr w2) (iD:jj sc c e rest w2) (hv:Rep (wr.heap.size<=·) w2 (jX t) vt)
 (rj:Own w3 55 1 (.slice a' (k+1) c') (k+1) (vs++[vt])) (fv:But (fun b=>slv.ownBlock=some b) (w2.alloc o) w3) (hg:∀ g,(Value.slice a' (k+1) c').ownBlock=some g->slv.ownBlock=some g\/g=(w2.alloc o).heap.size)
 (Be:sc<ob) (Dt:ob<wz.heap.size):xT sc c e ob d m wd nm kv r0 wz (k+1) (w3.setCell ⟨ob,3,none⟩ (.slice a' (k+1) c')):=by
 have z0:=hb.size;have z2:=fN.size;have z3:=fv.size
 rw [zK] at hg z3
 have keep:∀ i x,w2.heap[i]? = some x->slv.ownBlock≠some i->i≠ob->(w3.setCell ⟨ob,3,none⟩ (.slice a' (k+1) c')).heap[i]? = some x:=by
  intro i x hi hne ho
  rw [fB _ _ _ _ (by simpa using ho),fv.block i (by rw [zK];have:=zZ hi;omega) hne]
  exact zY hi
 have mT:∀ g,slv.ownBlock=some g->g<wr.heap.size:=fun g h=>fi.lt h
 have Jg:vl ob wd nm kv slv w2:=(fN.block ob (zZ aj) (by omega)).trans aj
 have B8:vl ob wd nm kv slv w3:=by
  unfold vl;rw [fv.block ob (by rw [zK];have:=zZ Jg;omega) (fun e=>by have:=hZ ob e;omega)]
  exact zY Jg
 refine ⟨ts++[t],rest,_,vs++[vt],by simp [mN],?_,?_,?_,?_,B8.put3,?_,?_,?_⟩
 ·rw [show m-k=(m-(k+1))+1 from by omega] at hp
  exact rdParTm_step hp hc ht
 ·have k1:=congrArg List.length (vW hc)
  have k2:=rdTm_le ht
  simp only [List.length_append,List.length_cons,List.length_nil] at k1
  omega
 ·refine ((hb.trans (fN.weak fun i _ e=>.inl e)).trans' ((But.refl (fun b=>slv.ownBlock=some b) w2).alloc o |>.trans fv) fun i hi e=>?_).setCell (p:=⟨ob,3,none⟩) (.inl (.inr rfl)) _
  have:=hZ i e;omega
 ·exact keep sc _ iD (fun e=>by have:=hZ sc e;omega) (by omega)
 ·refine rj.keep fun g x sQ Dp=>?_
  rw [fB _ _ _ _ (by
   rcases hg g sQ with h | h
   ·have:=hZ g h;simp;omega
   ·simp;omega)]
  exact Dp
 ·intro g h
  rcases hg g h with h | h
  ·exact hZ g h
  ·omega
 ·rw [List.map_append]
  refine zX.append ?_ (zX.one ?_)
  ·refine (Rep.keep fun i x hi Dp=>⟨⟨hi.1,fun e=>?_⟩,?_⟩).2 _ _ hr
   ·have hi1:=hi.1
    exact keep i x (by rw [fN.block i (zZ Dp) (by omega)];exact Dp) hi.2 (by omega)
   ·rcases hg i e with h | h
    ·exact hi.2 h
    ·have:=zZ Dp;omega
  ·refine (Rep.keep fun i x hi Dp=>⟨⟨by have:=hi;omega,fun e=>?_⟩,?_⟩).1 _ _ hv
   ·exact keep i x Dp (fun e=>by have:=mT i e;have:=hi;omega) (by have:=hi;omega)
   ·rcases hg i e with h | h
    ·have:=mT i h;have:=hi;omega
    ·have:=zZ Dp;omega
theorem enc_mk {F:Nat->Prop} {w:World} {ob n:Nat} {wd nm:Bs} {kv slv:Value} {kd:DV} {ds:List DV} (hF:F ob) (h:vl ob wd nm kv slv w) (hk:Rep F w kd kv) (hs:Rep F w (.sl 55 1 n ds) slv) :
 Rep F w (.ptr 96 [.val (str wd),.val (str nm),kd,.sl 55 1 n ds]) (.pointer (some ⟨ob,0,none⟩)):=by
 rw [jd]
 exact ⟨_,_,rfl,hF,h,zQ.2 ⟨_,_,rfl,zH.2 rfl,zQ.2 ⟨_,_,rfl,zH.2 rfl,zQ.2 ⟨_,_,rfl,hk,zQ.2 ⟨_,_,rfl,hs,zC.2 rfl⟩⟩⟩⟩⟩
theorem enc_lam (x:Bs) (k:Ty) (ts:List Tm) (h:ts.length=1):jX (gj jq x k ts)=.ptr 96 [.val (str jq),.val (str x),jS k,.sl 55 1 ts.length (ts.map jX)]:=by
 match ts,h with
 | [t],_=>rw [gj,jX];rfl
theorem enc_app (k:Ty) (ts:List Tm) (h:ts.length=2):jX (gj vT [] k ts)=.ptr 96 [.val (str vT),.val (str []),.val (.pointer none),.sl 55 1 ts.length (ts.map jX)]:=by
 match ts,h with
 | [t,u],_=>rw [gj,jX];rfl
theorem enc_ite (k:Ty) (ts:List Tm) (h:ts.length=3):jX (gj ifW [] k ts)=.ptr 96 [.val (str ifW),.val (str []),.val (.pointer none),.sl 55 1 ts.length (ts.map jX)]:=by
 match ts,h with
 | [t,u,v],_=>rw [gj,jX];rfl
set_option maxRecDepth 20000 in
theorem term_open (sc:Nat) (c:List Value) (e:TypeId) (d0:Nat) (hd:d0<=1000) (ih:∀ d',d0=d'+1->cJ sc c e d') (r r1:Bs) (w:World) (hs:jj sc c e r w) (hr:Lim r.length) (h1:Cut [40] r r1) :
 Calls Tryz.prog 47 #[.pointer (some ⟨sc,0,none⟩),.int .i64 d0] w (vH sc c e w (qh d0 r)):=by
 have er:r=40::r1:=by have:=vW h1.out;simpa using this
 have HR:=fX er;clear er
 have IH:=fX ih;clear ih
 have nZ:=hr.mono h1.le
 have Ac:Lim (zu r1).length:=nZ.mono (by have:=xW r1;omega)
 have rM:Lim (zT r1).length:=nZ.mono (by have:=xW r1;omega)
 have hmm:=@run_makeMap Tryz.prog
 go_enter Tryz.func47,Tryz.ntmps47
 go_wp2_with fail
 refine (vI hs h1).mono ?_
 rintro en w1 ⟨rfl,fA,rq⟩
 go_wp2_with fail
 refine (dp _ _ _ _ _ rq nZ).mono ?_
 rintro en w2 ⟨rfl,fN,iD⟩
 have hb:=fA.trans fN
 clear fA fN rq h1
 obtain ⟨wd,DM⟩:=zzM (zu r1)
 rw [<- DM] at Ac ⊢
 have HW:=fX DM.symm;clear DM
 have kS:=fX (keyS Ac)
 have k1:keyOf Tryz.prog 9 (str jq)=some (.string jq):=keyS (s:=jq) (by unfold Lim;decide)
 have k2:keyOf Tryz.prog 9 (str vT)=some (.string vT):=keyS (s:=vT) (by unfold Lim;decide)
 have k3:keyOf Tryz.prog 9 (str ifW)=some (.string ifW):=keyS (s:=ifW) (by unfold Lim;decide)
 have K1:=fX (fW k1 (fW k2 k3));clear k1 k2 k3 Ac
 have f7:=hb.size
 have made:((w2.alloc (.cells #[str wd,str [],.pointer none,.slice none 0 0] 96)).alloc (.map #[] 0)).ownsMap Tryz.prog 9 (plainElem (H:=Unit) Tryz.prog 3) (w2.heap.size+1) 0 (.map []):=by
  have:=World.ownsMap_made (H:=Unit) (w2.alloc (.cells #[str wd,str [],.pointer none,.slice none 0 0] 96)) Tryz.prog 9 (plainElem (H:=Unit) Tryz.prog 3)
  rwa [zK] at this
 have MADE:=fX made;clear made
 go_wp2_with (refine uA (H:=Unit) _ rfl _ _ _ 136 rfl 9 3 Tryz.lawS Tryz.underlying136 (plainElem Tryz.prog 3) (w2.heap.size+1) 0 _ rfl MADE.out (by unfold maxLen;omega) _ _ _ rfl rfl K1.out.1 _ [] (plainElem_int Tryz.underlying3 (by decide)) ?_)
 intro wa hA gA
 go_wp2_with (refine uA (H:=Unit) _ rfl _ _ _ 136 rfl 9 3 Tryz.lawS Tryz.underlying136 (plainElem Tryz.prog 3) (w2.heap.size+1) 1 _ rfl hA (by unfold maxLen;omega) _ _ _ rfl rfl K1.out.2.1 _ [] (plainElem_int Tryz.underlying3 (by decide)) ?_)
 intro wb hB gB
 go_wp2_with (refine uA (H:=Unit) _ rfl _ _ _ 136 rfl 9 3 Tryz.lawS Tryz.underlying136 (plainElem Tryz.prog 3) (w2.heap.size+1) 2 _ rfl hB (by unfold maxLen;omega) _ _ _ rfl rfl K1.out.2.2 _ [] (plainElem_int Tryz.underlying3 (by decide)) ?_)
 intro w3 hC gC
 have fv:But (fun i=>i=w2.heap.size+1) ((w2.alloc (.cells #[str wd,str [],.pointer none,.slice none 0 0] 96)).alloc (.map #[] 0)) w3 :=
  ((But.ofGrown gA).weak (m':=fun i=>i=w2.heap.size+1) (fun i _ h=>by simpa using h)).trans (((But.ofGrown gB).weak (m':=fun i=>i=w2.heap.size+1) (fun i _ h=>by simpa using h)).trans ((But.ofGrown gC).weak (m':=fun i=>i=w2.heap.size+1) (fun i _ h=>by simpa using h)))
 obtain ⟨M,BO,fM,_⟩:=hC.lookup_int Tryz.lawS Tryz.underlying136 Tryz.underlying3 (Tryz.zeroI _) kS.out
 rw [many_at] at fM
 obtain rfl:(eX wd:Int)=M:=by simpa using fM
 have z3:=fv.size
 simp only [zK] at z3
 have J4:But (· = sc) w w3:=hb.trans' (m':=fun i=>i=w2.heap.size+1) (((But.refl (fun i=>i=w2.heap.size+1) w2).alloc _ |>.alloc _).trans fv) (fun i hi e=>by omega)
 have Jv:∀ i x,w2.heap[i]? = some x->w3.heap[i]? = some x:=fun i x h=>by
  have hl:=zZ h
  rw [fv.block i (by simp;omega) (by omega)];exact zY (zY h)
 have oY:jj sc c e (zT r1) w3:=Jv _ _ iD
 have B8:vl w2.heap.size wd [] (.pointer none) (.slice none 0 0) w3:=by
  unfold vl
  rw [fv.block w2.heap.size (by simp;omega) (by omega)]
  exact zY (zG _ _)
 have DL:w.heap.size<=w2.heap.size:=f7
 have hscw:=pO hs
 clear hA hB hC gA gB gC fv fM MADE K1 kS iD Jv
 obtain ⟨q0,_,_,_,q4,_⟩:=B8.cells
 obtain ⟨M,hM⟩:=zzM (eX wd)
 rw [<- hM] at BO
 have HMW:=fX hM;clear hM
 generalize hO:w2.heap.size=ob at *
 clear hO z3
 have ow:=fX (fW oY (fW B8 J4))
 clear oY B8 J4 hb
 by_cases Jk:M=0
 ·have HX:=fX (show qh d0 r=none by rw [HR.out];exact rdTm_none (by rw [HW.out,<- HMW.out,Jk]))
  subst Jk
  go_wp2_with fail
  go_ret
  exact vH.no HX.out ow.out.2.2 ow.out.1
 have m0:((M:Int) == 0)=false:=by rw [beq_eq_false_iff_ne];omega
 by_cases lM:d0=0
 ·have HX:=fX (show qh d0 r=none by rw [HR.out,lM];exact rdTm_zero)
  subst lM
  go_wp2_with fail
  go_ret
  exact vH.no HX.out ow.out.2.2 ow.out.1
 obtain ⟨d,rfl⟩:∃ d',d0=d'+1:=⟨d0-1,by omega⟩
 have ecast:((d+1:Nat):Int)=(d:Int)+1:=by omega
 rw [ecast]
 clear ecast
 have d00:((d:Int)+1 == 0)=false:=by rw [beq_eq_false_iff_ne];omega
 have IH':=fX (IH.out d rfl)
 clear IH lM
 by_cases rB:wd=jq
 ·have hq:(wd == [108,97,109])=true:=by rw [beq_iff_eq];exact rB
  have HL:=fX rB;clear rB
  go_wp2_with fail
  rcases qP [32] (zT r1) with h4 | ⟨l3,h4⟩
  ·refine (uI ow.out.1 h4).mono ?_
   rintro en w4 ⟨rfl,fl,rA⟩
   go_wp2_with fail
   go_ret
   exact vH.no (by rw [HR.out];exact rdTm_lamNo1 (by rw [HW.out,HL.out]) h4.out) (ow.out.2.2.trans fl) rA
  refine (vI ow.out.1 h4).mono ?_
  rintro en w4 ⟨rfl,fl,rA⟩
  have F8:=rM.mono h4.le
  clear q0 q4 BO
  go_wp2_with fail
  refine (dp _ _ _ _ _ rA F8).mono ?_
  rintro en w5 ⟨rfl,fe,Af⟩
  have hbb:=fl.trans fe
  have aY:vl ob wd [] (.pointer none) (.slice none 0 0) w5:=(hbb.block ob (zZ ow.out.2.1) (by omega)).trans ow.out.2.1
  have lT:=ow.out.2.2.trans hbb
  obtain ⟨nm,Dv⟩:=zzM (zu l3)
  have Jo:Lim (zu l3).length:=F8.mono (by have:=xW l3;omega)
  have hl3r:Lim (zT l3).length:=F8.mono (by have:=xW l3;omega)
  rw [<- Dv] at Jo ⊢
  have HNM:=fX Dv.symm;clear Dv
  obtain ⟨_,q1,_,_,q4,q5⟩:=aY.cells
  have q6:=q5 1
  have lD:=aY.put1 (u:=nm)
  have J7:=lT.setCell (p:=⟨ob,1,none⟩) (.inr (by simpa using DL)) (str nm)
  have G7:jj sc c e (zT l3) (w5.setCell ⟨ob,1,none⟩ (str nm)):=by unfold jj;rw [fB _ _ _ _ (by simp;omega)];exact Af
  have Bo:=fX (fW G7 (fW lD J7))
  clear q5 rA Af fl fe hbb lT aY G7 lD J7
  go_wp2_with fail
  obtain ⟨w6,hw6⟩:=zzM (w5.setCell ⟨ob,1,none⟩ (str nm))
  rw [<- hw6] at Bo ⊢
  clear hw6 q1 q4 q6
  (with_reducible refine (eF nm w6 Jo).mono ?_)
  rintro en w7 ⟨rfl,e7⟩
  subst w7
  cases hn:qG nm with
  | false =>
    have HN:=fX hn;clear hn
    go_wp2_with fail
    go_ret
    exact vH.no (by rw [HR.out];exact rdTm_lamNo2 (by rw [HW.out,HL.out]) h4.out (by rw [HNM.out,HN.out])) Bo.out.2.2 Bo.out.1
  | true =>
    have HN:=fX hn;clear hn
    go_wp2_with fail
    rcases qP [32] (zT l3) with h5 | ⟨l4,h5⟩
    ·refine (uI Bo.out.1 h5).mono ?_
     rintro en w7 ⟨rfl,fS,EK⟩
     go_wp2_with fail
     go_ret
     exact vH.no (by rw [HR.out];exact rdTm_lamNo3 (by rw [HW.out,HL.out]) h4.out h5.out) (Bo.out.2.2.trans fS) EK
    refine (vI Bo.out.1 h5).mono ?_
    rintro en w7 ⟨rfl,fS,EK⟩
    have aH:=hl3r.mono h5.le
    go_wp2_with fail
    refine (kind_any _ _ _ 60 (by omega) l4 w7 EK aH).mono ?_
    rintro en w8 ⟨kv,r8,rfl,mJ,DR,hn8,hy8⟩
    have Ed:=fS.trans mJ
    have DW:vl ob wd nm (.pointer none) (.slice none 0 0) w8:=(Ed.block ob (zZ Bo.out.2.1) (by omega)).trans Bo.out.2.1
    have ic:=Bo.out.2.2.trans Ed
    have z7:=Bo.out.2.2.size
    have z78:=fS.size
    have hl7:ob<w7.heap.size:=by have:=zZ Bo.out.2.1;omega
    obtain ⟨_,_,q2,_,q4,q5⟩:=DW.cells
    have q6:=q5 2
    have DU:=DW.put2 (u:=kv)
    have Ef:=ic.setCell (p:=⟨ob,2,none⟩) (.inr (by simpa using DL)) kv
    have G6:jj sc c e r8 (w8.setCell ⟨ob,2,none⟩ kv):=by unfold jj;rw [fB _ _ _ _ (by simp;omega)];exact DR
    rcases hk:rdK 60 l4 with _ | ⟨kk,l6⟩
    ·obtain rfl:=hn8 hk
     have HK:=fX hk;clear hk hn8 hy8
     have Ep:=fX (fW G6 (fW DU Ef))
     clear G6 DU Ef ic DW Ed mJ DR fS EK q5
     go_wp2_with fail
     go_ret
     exact vH.no (by rw [HR.out];exact rdTm_lamNo4 (by rw [HW.out,HL.out]) h4.out (by exact h5.out) HK.out) Ep.out.2.2 Ep.out.1
    obtain ⟨rfl,iF⟩:=hy8 _ _ hk
    have Eq:Rep (fun b=>w.heap.size<=b/\b≠ob/\b≠sc) (w8.setCell ⟨ob,2,none⟩ kv) (jS kk) kv:=(Rep.keep fun b o h ho=>⟨by have:=h;omega,by rw [fB _ _ _ _ (by have:=h;simp;omega)];exact ho⟩).1 _ _ iF
    obtain ⟨kb,rfl⟩:∃ ba,kv=.pointer (some ⟨ba,0,none⟩):=by obtain ⟨ba,_,h,_⟩:=kK iF;exact ⟨ba,h⟩
    have hM1:M=1:=by rw [HMW.out,HL.out];decide
    have Ds:=aH.mono (rdK_le _ hk).1
    have HM:qh (d+1) r=(qE d M r8).bind fun y=>(cut [41] y.2).map fun r'=>(gj wd nm kk y.1,r'):=by rw [HR.out,rdTm_lam (by rw [HW.out,HL.out]) h4.out (by rw [HNM.out];exact HN.out) h5.out hk,hM1,HL.out,HNM.out]
    have HE:∀ ts:List Tm,ts.length=M->jX (gj wd nm kk ts)=.ptr 96 [.val (str wd),.val (str nm),jS kk,.sl 55 1 ts.length (ts.map jX)]:=fun ts h=>by rw [HL.out];exact enc_lam nm kk ts (by rw [h,hM1])
    have Ep:=fX (fW G6 (fW DU (fW Ef (fW Eq (fW HE HM)))))
    clear G6 DU Ef ic DW Ed mJ DR fS EK q5 iF hk hn8 hy8 HE HM Eq
    have HM1:=fX hM1;clear hM1
    have M20:M<=3:=by have:=HM1.out;omega
    go_wp2_with fail
    obtain ⟨wz,AD⟩:=zzM (w8.setCell ⟨ob,2,none⟩ (.pointer (some ⟨kb,0,none⟩)))
    rw [<- AD] at Ep ⊢
    clear AD q2 q4 q6
    obtain ⟨f7,sM,lf,Eq,HE,HM⟩:=Ep.out
    obtain ⟨r0,B4⟩:=zzM (r8)
    rw [<- B4] at Ds f7 HM
    clear B4 Ep Bo ow
    obtain ⟨kv,He⟩:=zzM (Value.pointer (some ⟨kb,0,none⟩))
    rw [<- He] at sM Eq
    clear He
    clear hmm
    have BM:sc<ob:=by omega
    have F1:ob<wz.heap.size:=zZ sM
    have tX:xT sc c e ob d M wd nm kv r0 wz 0 wz:=⟨[],r0,.slice none 0 0,[],rfl,by simp,fP _,But.refl _ _,f7,sM,World.ownsRow_nil _ _ _ _,fun g h=>by simp [Value.ownBlock] at h,zC.2 rfl⟩
    have HZ:=fX (fW lf (fW Eq (fW HE HM)))
    clear lf f7 sM Eq HE HM
    go_loopw [84] (fun i wr=>∃ k:Nat,k<=M/\i=.int .i64 k/\xT sc c e ob d M wd nm kv r0 wz k wr) (fun i _=>M-(intOf i).toNat)
    case atStart=>exact ⟨0,Nat.zero_le _,rfl,tX⟩
    case round =>
     clear tX
     rename_i wr
     obtain ⟨k,hk,rfl,ts,lk,slv,vs,mN,hp,mO,hb,BL,aj,fi,hZ,rR⟩:=hrel
     have DY:=Ds.mono mO
     have f_:But (· = sc) w wr:=HZ.out.1.trans' hb (fun i hi e=>by rcases e with e | e;exact e;omega)
     have HP:=fX (fW hp (fW hb (fW fi (fW hZ (fW rR (fW mN mO))))))
     clear hp hb fi hZ rR mN mO
     have Er:=fX f_;clear f_
     by_cases fT:k<M
     ·have hltI:(k:Int)<(M:Int):=by omega
      have oF:M-k=(M-k-1)+1:=by omega
      have K5:=fX oF;clear oF
      go_wp2_with fail
      rcases qP [32] lk with h4 | ⟨l4,h4⟩
      ·refine (uI BL h4).mono ?_
       rintro en w4 ⟨rfl,fl,rA⟩
       go_wp2_with fail
       go_ret
       refine vH.no ?_ (Er.out.trans fl) rA
       have hp:=HP.out.1
       rw [K5.out] at hp
       rw [HZ.out.2.2.2,dX hp h4.out];rfl
      refine (vI BL h4).mono ?_
      rintro en w4 ⟨rfl,fl,rA⟩
      have h4l:=h4.le
      go_wp2_with fail
      refine (IH'.out l4 w4 rA (DY.mono h4l)).mono ?_
      rintro en w5 ⟨vt,r5,rfl,fe,Af,B9,BI⟩
      have nN:=fl.trans fe
      have z4:=fl.size
      rcases ht:qh d l4 with _ | ⟨t,r5'⟩
      ·obtain rfl:=B9 ht
       have HT:=fX ht;clear ht B9 BI
       go_wp2_with fail
       go_ret
       refine vH.no ?_ (Er.out.trans nN) Af
       have hp:=HP.out.1
       rw [K5.out] at hp
       rw [HZ.out.2.2.2,dY hp h4.out HT.out];rfl
      obtain ⟨rfl,FH⟩:=BI _ _ ht
      have HT:=fX ht;clear ht B9 BI
      obtain ⟨at5,rfl⟩:=qW FH
      have aY:vl ob wd nm kv slv w5:=(nN.block ob (zZ aj) (by omega)).trans aj
      obtain ⟨_,_,_,q3,q4,q5⟩:=aY.cells
      have q6:=q5 3
      have lH:Own w5 55 1 slv k vs:=HP.out.2.2.1.keep fun g o sQ ho=>by rw [nN.block g (zZ ho) (by have:=HP.out.2.2.2.1 g sQ;omega)];exact ho
      have En:=fX (fW lH (fW FH (fW nN Af)))
      clear q5 lH FH nN fl fe rA Af BL
      go_wp2_with (at_builtin;refine zE rfl _ _ 94 rfl 55 (.pointer none) 1 8 Tryz.underlying94 Tryz.infoTm rfl (by decide) slv k vs rfl ?c1 _ 1 [.pointer (some ⟨at5,0,none⟩)] rfl ?c2 ?c3 ?c4 ?_)
      case c1=>exact En.out.1.keep fun g o sQ ho=>zY ho
      case c2=>exact zq.lit rfl
      case c3=>unfold maxLen;omega
      case c4=>omega
      intro a' c' w6 rj fO sQ
      have lD:vl ob wd nm kv slv w6:=by
       unfold vl;rw [fO.block ob (by simp;omega) (fun e=>by have:=HP.out.2.2.2.1 ob e;omega)]
       exact zY aY
      have mW:=xT.next fT HP.out.2.2.2.2.2.1 HP.out.1 HP.out.2.2.2.2.2.2 HP.out.2.1 aj HP.out.2.2.1 HP.out.2.2.2.1 HP.out.2.2.2.2.1 h4.out HT.out En.out.2.2.1 En.out.2.2.2 ((Rep.keep fun b o h ho=>⟨by have:=h;omega,ho⟩).1 _ _ En.out.2.1) rj fO (fun g h=>(sQ g h).imp_right fun e=>e.trans (by simp)) BM F1
      obtain ⟨_,_,_,p3,p4,p5⟩:=lD.cells
      have p6:=p5 3
      clear sQ p5 fO rj aY lD aj q3 q4 q6
      go_wp2_with fail
      go_roundw
      case rel=>exact ⟨k+1,by omega,by go_num,mW⟩
      case measure=>simp [intOf];omega
     ·obtain rfl:k=M:=by omega
      go_wp2_with fail
      rcases qP [41] lk with h4 | ⟨l4,h4⟩
      ·refine (uI BL h4).mono ?_
       rintro en w4 ⟨rfl,fl,rA⟩
       go_wp2_with fail
       go_ret
       refine vH.no ?_ (Er.out.trans fl) rA
       have hp:=HP.out.1
       rw [Nat.sub_self,yq] at hp
       rw [HZ.out.2.2.2,hp]
       simp [h4.out]
      refine (vI BL h4).mono ?_
      rintro en w4 ⟨rfl,fl,rA⟩
      go_wp2_with fail
      go_ret
      have hp:=HP.out.1
      rw [Nat.sub_self,yq] at hp
      have Gk:But (fun i=>i=sc\/i=ob) wz w4:=HP.out.2.1.trans (fl.weak fun i _ e=>.inl e)
      have oK:=HZ.out.1.size
      have IE:=pO hs
      refine vH.yes (t:=gj wd nm kk ts) (r:=l4) ?_ (Er.out.trans fl) rA ?_
      ·rw [HZ.out.2.2.2,hp]
       simp [h4.out]
      ·rw [HZ.out.2.2.1 ts HP.out.2.2.2.2.2.1]
       have F3:vl ob wd nm kv slv w4:=(fl.block ob (zZ aj) (by omega)).trans aj
       refine enc_mk DL F3 (Rep.but Gk (fun b hb=>⟨by rintro (e | e) <;> omega,hb.1⟩) HZ.out.2.1) ?_
       rw [HP.out.2.2.2.2.2.1]
       have hz:=HP.out.2.2.2.1
       refine (HP.out.2.2.1.keep (w':=w4) fun g o sQ ho=>?_).rep (fun g hg=>?_) ?_
       ·rw [fl.block g (zZ ho) (by have:=hz g sQ;omega)];exact ho
       ·have:=hz g hg;show w.heap.size<=g;omega
       ·exact zX.but fl (fun b hb=>⟨by have:=hb.1;omega,by have:=hb.1;show w.heap.size<=b;omega⟩) HP.out.2.2.2.2.1
 ·have hq:(wd == [108,97,109])=false:=by rw [beq_eq_false_iff_ne];exact rB
  have lf:=ow.out.2.2;have f7:=ow.out.1;have sM:=ow.out.2.1
  obtain ⟨nm,Dv⟩:∃ x:Bs,x=[]:=⟨_,rfl⟩
  rw [<- Dv] at sM
  have hHM:∀ kk:Ty,(M=2\/M=3)/\(qh (d+1) r=(qE d M (zT r1)).bind fun y=>(cut [41] y.2).map fun r'=>(gj wd nm kk y.1,r')) /\
   (∀ ts:List Tm,ts.length=M->jX (gj wd nm kk ts)=.ptr 96 [.val (str wd),.val (str nm),.val (.pointer none),.sl 55 1 ts.length (ts.map jX)]):=by
   intro kk
   have hM:=HMW.out
   unfold eX at hM
   rw [if_neg rB] at hM
   by_cases h2:wd=vT
   ·rw [if_pos h2] at hM
    refine ⟨.inl hM,?_,fun ts h=>?_⟩
    ·rw [HR.out,rdTm_app nm kk (by rw [HW.out,h2]),hM,h2]
    ·rw [h2,Dv];exact enc_app kk ts (by rw [h,hM])
   rw [if_neg h2] at hM
   by_cases h3:wd=ifW
   ·rw [if_pos h3] at hM
    refine ⟨.inr hM,?_,fun ts h=>?_⟩
    ·rw [HR.out,rdTm_ite nm kk (by rw [HW.out,h3]),hM,h3]
    ·rw [h3,Dv];exact enc_ite kk ts (by rw [h,hM])
   rw [if_neg h3] at hM
   exact absurd hM Jk
  obtain ⟨kk,i6⟩:∃ k:Ty,k=.mk []:=⟨_,rfl⟩
  obtain ⟨hM23,HM,HE⟩:=hHM kk
  have Ep:=fX (fW f7 (fW sM (fW lf (fW HE HM))))
  have M20:M<=3:=by omega
  clear hHM f7 sM lf HE HM hM23 i6 rB Dv
  go_wp2_with fail
  clear BO q0 q4
  obtain ⟨f7,sM,lf,HE,HM⟩:=Ep.out
  obtain ⟨wz,AD⟩:=zzM (w3)
  rw [<- AD] at f7 sM lf ⊢
  clear AD Ep ow
  obtain ⟨r0,B4⟩:=zzM (zT r1)
  rw [<- B4] at rM f7 HM
  have Ds:=rM
  clear B4 rM
  obtain ⟨kv,He⟩:=zzM (Value.pointer none)
  have Eq:Rep (fun b=>w.heap.size<=b/\b≠ob/\b≠sc) wz (.val (.pointer none)) kv:=zH.2 He
  rw [<- He] at sM
  clear He
  clear hmm
  have BM:sc<ob:=by omega
  have F1:ob<wz.heap.size:=zZ sM
  have tX:xT sc c e ob d M wd nm kv r0 wz 0 wz:=⟨[],r0,.slice none 0 0,[],rfl,by simp,fP _,But.refl _ _,f7,sM,World.ownsRow_nil _ _ _ _,fun g h=>by simp [Value.ownBlock] at h,zC.2 rfl⟩
  have HZ:=fX (fW lf (fW Eq (fW HE HM)))
  clear lf f7 sM Eq HE HM
  go_loopw [84] (fun i wr=>∃ k:Nat,k<=M/\i=.int .i64 k/\xT sc c e ob d M wd nm kv r0 wz k wr) (fun i _=>M-(intOf i).toNat)
  case atStart=>exact ⟨0,Nat.zero_le _,rfl,tX⟩
  case round =>
   clear tX
   rename_i wr
   obtain ⟨k,hk,rfl,ts,lk,slv,vs,mN,hp,mO,hb,BL,aj,fi,hZ,rR⟩:=hrel
   have DY:=Ds.mono mO
   have f_:But (· = sc) w wr:=HZ.out.1.trans' hb (fun i hi e=>by rcases e with e | e;exact e;omega)
   have HP:=fX (fW hp (fW hb (fW fi (fW hZ (fW rR (fW mN mO))))))
   clear hp hb fi hZ rR mN mO
   have Er:=fX f_;clear f_
   by_cases fT:k<M
   ·have hltI:(k:Int)<(M:Int):=by omega
    have oF:M-k=(M-k-1)+1:=by omega
    have K5:=fX oF;clear oF
    go_wp2_with fail
    rcases qP [32] lk with h4 | ⟨l4,h4⟩
    ·refine (uI BL h4).mono ?_
     rintro en w4 ⟨rfl,fl,rA⟩
     go_wp2_with fail
     go_ret
     refine vH.no ?_ (Er.out.trans fl) rA
     have hp:=HP.out.1
     rw [K5.out] at hp
     rw [HZ.out.2.2.2,dX hp h4.out];rfl
    refine (vI BL h4).mono ?_
    rintro en w4 ⟨rfl,fl,rA⟩
    have h4l:=h4.le
    go_wp2_with fail
    refine (IH'.out l4 w4 rA (DY.mono h4l)).mono ?_
    rintro en w5 ⟨vt,r5,rfl,fe,Af,B9,BI⟩
    have nN:=fl.trans fe
    have z4:=fl.size
    rcases ht:qh d l4 with _ | ⟨t,r5'⟩
    ·obtain rfl:=B9 ht
     have HT:=fX ht;clear ht B9 BI
     go_wp2_with fail
     go_ret
     refine vH.no ?_ (Er.out.trans nN) Af
     have hp:=HP.out.1
     rw [K5.out] at hp
     rw [HZ.out.2.2.2,dY hp h4.out HT.out];rfl
    obtain ⟨rfl,FH⟩:=BI _ _ ht
    have HT:=fX ht;clear ht B9 BI
    obtain ⟨at5,rfl⟩:=qW FH
    have aY:vl ob wd nm kv slv w5:=(nN.block ob (zZ aj) (by omega)).trans aj
    obtain ⟨_,_,_,q3,q4,q5⟩:=aY.cells
    have q6:=q5 3
    have lH:Own w5 55 1 slv k vs:=HP.out.2.2.1.keep fun g o sQ ho=>by rw [nN.block g (zZ ho) (by have:=HP.out.2.2.2.1 g sQ;omega)];exact ho
    have En:=fX (fW lH (fW FH (fW nN Af)))
    clear q5 lH FH nN fl fe rA Af BL
    go_wp2_with (at_builtin;refine zE rfl _ _ 94 rfl 55 (.pointer none) 1 8 Tryz.underlying94 Tryz.infoTm rfl (by decide) slv k vs rfl ?c1 _ 1 [.pointer (some ⟨at5,0,none⟩)] rfl ?c2 ?c3 ?c4 ?_)
    case c1=>exact En.out.1.keep fun g o sQ ho=>zY ho
    case c2=>exact zq.lit rfl
    case c3=>unfold maxLen;omega
    case c4=>omega
    intro a' c' w6 rj fO sQ
    have lD:vl ob wd nm kv slv w6:=by
     unfold vl;rw [fO.block ob (by simp;omega) (fun e=>by have:=HP.out.2.2.2.1 ob e;omega)]
     exact zY aY
    have mW:=xT.next fT HP.out.2.2.2.2.2.1 HP.out.1 HP.out.2.2.2.2.2.2 HP.out.2.1 aj HP.out.2.2.1 HP.out.2.2.2.1 HP.out.2.2.2.2.1 h4.out HT.out En.out.2.2.1 En.out.2.2.2 ((Rep.keep fun b o h ho=>⟨by have:=h;omega,ho⟩).1 _ _ En.out.2.1) rj fO (fun g h=>(sQ g h).imp_right fun e=>e.trans (by simp)) BM F1
    obtain ⟨_,_,_,p3,p4,p5⟩:=lD.cells
    have p6:=p5 3
    clear sQ p5 fO rj aY lD aj q3 q4 q6
    go_wp2_with fail
    go_roundw
    case rel=>exact ⟨k+1,by omega,by go_num,mW⟩
    case measure=>simp [intOf];omega
   ·obtain rfl:k=M:=by omega
    go_wp2_with fail
    rcases qP [41] lk with h4 | ⟨l4,h4⟩
    ·refine (uI BL h4).mono ?_
     rintro en w4 ⟨rfl,fl,rA⟩
     go_wp2_with fail
     go_ret
     refine vH.no ?_ (Er.out.trans fl) rA
     have hp:=HP.out.1
     rw [Nat.sub_self,yq] at hp
     rw [HZ.out.2.2.2,hp]
     simp [h4.out]
    refine (vI BL h4).mono ?_
    rintro en w4 ⟨rfl,fl,rA⟩
    go_wp2_with fail
    go_ret
    have hp:=HP.out.1
    rw [Nat.sub_self,yq] at hp
    have Gk:But (fun i=>i=sc\/i=ob) wz w4:=HP.out.2.1.trans (fl.weak fun i _ e=>.inl e)
    have oK:=HZ.out.1.size
    have IE:=pO hs
    refine vH.yes (t:=gj wd nm kk ts) (r:=l4) ?_ (Er.out.trans fl) rA ?_
    ·rw [HZ.out.2.2.2,hp]
     simp [h4.out]
    ·rw [HZ.out.2.2.1 ts HP.out.2.2.2.2.2.1]
     have F3:vl ob wd nm kv slv w4:=(fl.block ob (zZ aj) (by omega)).trans aj
     refine enc_mk DL F3 (Rep.but Gk (fun b hb=>⟨by rintro (e | e) <;> omega,hb.1⟩) HZ.out.2.1) ?_
     rw [HP.out.2.2.2.2.2.1]
     have hz:=HP.out.2.2.2.1
     refine (HP.out.2.2.1.keep (w':=w4) fun g o sQ ho=>?_).rep (fun g hg=>?_) ?_
     ·rw [fl.block g (zZ ho) (by have:=hz g sQ;omega)];exact ho
     ·have:=hz g hg;show w.heap.size<=g;omega
     ·exact zX.but fl (fun b hb=>⟨by have:=hb.1;omega,by have:=hb.1;show w.heap.size<=b;omega⟩) HP.out.2.2.2.2.1
theorem term_step (sc:Nat) (c:List Value) (e:TypeId) (d:Nat) (hd:d<=1000) (ih:∀ d',d=d'+1->cJ sc c e d'):cJ sc c e d:=by
 intro r w hs hr
 rcases qP [40] r with h1 | ⟨r1,h1⟩
 ·exact term_word sc c e d hd r w hs hr h1
 ·exact term_open sc c e d hd ih r r1 w hs hr h1
theorem term_any (sc:Nat) (c:List Value) (e:TypeId):∀ (d:Nat),d<=1000->cJ sc c e d
 | 0,h=>term_step sc c e 0 h (fun d' e=>by omega)
 | d+1,h=>term_step sc c e (d+1) h (fun d' e=>by obtain rfl:d=d':=by omega
                                                 exact term_any _ _ _ d (by omega))
def yd:Tm->Bs
 | .nm _=>[]
 | .wd w=>w
 | .lam _ _ _=>jq
 | .app _ _=>vT
 | .ite _ _ _=>ifW
def yr:Tm->Bs
 | .nm x=>x
 | .lam x _ _=>x
 | _=>[]
def uf:Tm->Option Ty
 | .lam _ k _=>some k
 | _=>none
def ze:Tm->List Tm
 | .nm _=>[]
 | .wd _=>[]
 | .lam _ _ t=>[t]
 | .app m n=>[m,n]
 | .ite l m n=>[l,m,n]
def ug (ts:List Tm):Nat:=(ts.map zM).sum
def kindN:Option Ty->Nat
 | some k=>1+zV k
 | none=>0
theorem sizeTm_mk (t:Tm):zM t=1+kindN (uf t)+ug (ze t):=by
 cases t <;> simp [zM,uf,ze,kindN,ug] <;> omega
theorem de {ts:List Tm} {k:Nat} {t:Tm} (h:ts[k]? = some t):ug (ts.take (k+1))=ug (ts.take k)+zM t:=by
 unfold ug
 rw [List.take_add_one,h]
 simp
theorem gV (ts:List Tm) (k:Nat):ug (ts.take k)<=ug ts:=by
 unfold ug
 conv=>rhs;rw [<- List.take_append_drop k ts,List.map_append,List.sum_append]
 omega
theorem sumTm_mem {ts:List Tm} {t:Tm} (h:t∈ts):zM t<=ug ts:=by
 induction ts with
 | nil=>simp at h
 | cons x xs ih =>
   unfold ug at *
   simp only [List.map_cons,List.sum_cons]
   rcases List.mem_cons.1 h with rfl | h
   ·omega
   ·have:=ih h;omega
theorem tmParts_len (t:Tm):(ze t).length<=3:=by cases t <;> simp [ze]
theorem jT {F:Nat->Prop} {w:World} {t:Tm} {v:Value} (h:Rep F w (jX t) v) :
 ∃ b kv slv,v=.pointer (some ⟨b,0,none⟩)/\F b/\w.heap[b]? = some (.cells #[str (yd t),str (yr t),kv,slv] 96 (0,0))/\(uf t=none->kv=.pointer none)/\(∀ k,uf t=some k->Rep F w (jS k) kv) /\
   Rep F w (.sl 55 1 (ze t).length ((ze t).map jX)) slv:=by
 have key:∀ (wd nm:Bs) (kd:DV) (n:Nat) (ds:List DV),Rep F w (.ptr 96 [.val (str wd),.val (str nm),kd,.sl 55 1 n ds]) v ->
  ∃ b kv slv,v=.pointer (some ⟨b,0,none⟩)/\F b/\w.heap[b]? = some (.cells #[str wd,str nm,kv,slv] 96 (0,0))/\Rep F w kd kv/\Rep F w (.sl 55 1 n ds) slv:=by
  intro wd nm kd n ds h
  rw [jd] at h
  obtain ⟨b,c,rfl,hb,hc,hr⟩:=h
  simp only [zQ,zC,zH] at hr
  obtain ⟨_,_,e1,rfl,_,_,rfl,rfl,kv,_,rfl,h1,slv,_,rfl,h2,rfl⟩:=hr
  have:c=#[str wd,str nm,kv,slv]:=by apply Array.ext';simpa using e1
  subst this
  exact ⟨b,kv,slv,rfl,hb,hc,h1,h2⟩
 cases t with
 | nm x =>
   obtain ⟨b,kv,slv,h1,h2,h3,h4,h5⟩:=key _ _ _ _ _ h
   exact ⟨b,kv,slv,h1,h2,h3,fun _=>zH.1 h4,fun k e=>by simp [uf] at e,h5⟩
 | wd x =>
   obtain ⟨b,kv,slv,h1,h2,h3,h4,h5⟩:=key _ _ _ _ _ h
   exact ⟨b,kv,slv,h1,h2,h3,fun _=>zH.1 h4,fun k e=>by simp [uf] at e,h5⟩
 | lam x k t =>
   obtain ⟨b,kv,slv,h1,h2,h3,h4,h5⟩:=key _ _ _ _ _ h
   exact ⟨b,kv,slv,h1,h2,h3,fun e=>by simp [uf] at e,fun k e=>by simp [uf] at e;subst e;exact h4,h5⟩
 | app m n =>
   obtain ⟨b,kv,slv,h1,h2,h3,h4,h5⟩:=key _ _ _ _ _ h
   exact ⟨b,kv,slv,h1,h2,h3,fun _=>zH.1 h4,fun k e=>by simp [uf] at e,h5⟩
 | ite l m n =>
   obtain ⟨b,kv,slv,h1,h2,h3,h4,h5⟩:=key _ _ _ _ _ h
   exact ⟨b,kv,slv,h1,h2,h3,fun _=>zH.1 h4,fun k e=>by simp [uf] at e,h5⟩
def TmAtoms (F:Nat->Prop) (w:World) (t:Tm):Prop:=∀ v,Rep F w (jX t) v ->
 Calls Tryz.prog 48 #[v] w fun en w'=>en=.returned (.int .i64 (zM t))/\w'=w
set_option maxRecDepth 20000 in
theorem tmAtoms_step (F:Nat->Prop) (w:World) (t:Tm) (hl:Lim (zM t)) (ih:∀ t',zM t'<zM t->TmAtoms F w t'):TmAtoms F w t:=by
 intro v hv
 obtain ⟨b,kv,slv,rfl,hb,hc,iV,D0,hs⟩:=jT hv
 have c1:w.cell? ⟨b,2,none⟩=some kv:=by simp [World.cell?,hc]
 have c2:w.cell? ⟨b,3,none⟩=some slv:=by simp [World.cell?,hc]
 obtain ⟨a,cap,rfl,hn,hlen,fM⟩:=zP hs
 have e1:=sizeTm_mk t
 have IH:=fX ih;clear ih hc hv hs
 have E1:=fX e1;clear e1
 have tR:=hl.le
 have hp3:=tmParts_len t
 have HL:=fX hlen;clear hlen
 have AT:=fX fM;clear fM
 have base:Calls Tryz.prog 48 #[.pointer (some ⟨b,0,none⟩)] w fun en w'=>en=.returned (.int .i64 (1+kindN (uf t)+ug (ze t):Nat))/\w'=w:=by
  have Ar:1+kindN (uf t)+ug (ze t)<=16777216:=by have:=E1.out;omega
  cases hk:uf t with
  | none =>
    obtain rfl:=iV hk
    rw [hk] at Ar
    clear hk iV D0
    simp only [kindN] at Ar ⊢
    go_enter Tryz.func48,Tryz.ntmps48
    go_wp2_with fail
    go_loop [3,24] (fun n i=>∃ k:Nat,k<=(ze t).length/\i=.int .i64 k/\n=.int .i64 ((1+ug ((ze t).take k):Nat):Int)) (fun _ i=>(ze t).length-(intOf i).toNat)
    case atStart=>exact ⟨0,Nat.zero_le _,rfl,by simp [ug]⟩
    case round =>
     obtain ⟨k,hk,rfl,rfl⟩:=hrel
     by_cases fT:k<(ze t).length
     ·obtain ⟨b',o,u,d,rfl,_,fx,hd,hu,hr⟩:=AT.out k fT
      rw [List.getElem?_map,Option.map_eq_some_iff] at hd
      obtain ⟨t',rV,rfl⟩:=hd
      have hs:=de rV
      have mO:=gV (ze t) (k+1)
      have sW:=E1.out
      have mx:=sumTm_mem (List.mem_of_getElem? rV)
      have IH':=fX (IH.out t' (by omega))
      have HS:=fX hs
      have b1:1+ug ((ze t).take k)+zM t'<=16777216:=by omega
      clear hs rV sW mO mx
      obtain ⟨bu,eu⟩:=qW hr
      subst eu
      go_wp2_with fail
      refine (IH'.out _ hr).mono ?_
      rintro en w' ⟨rfl,ew⟩
      subst ew
      go_wp2_with fail
      go_round
      case rel=>exact ⟨k+1,by omega,by go_num,by rw [HS.out];go_num⟩
      case measure=>simp [intOf];omega
     ·go_wp2_with fail
      go_ret
      have:k=(ze t).length:=by omega
      subst this
      exact ⟨yz (by rw [List.take_length]),rfl⟩
  | some kk =>
    have iF:=D0 kk hk
    rw [hk] at Ar
    clear hk iV D0
    simp only [kindN] at Ar ⊢
    obtain ⟨kb,ek⟩:∃ ba,kv=.pointer (some ⟨ba,0,none⟩):=by obtain ⟨ba,_,h,_⟩:=kK iF;exact ⟨ba,h⟩
    subst ek
    have CK:=fX (uS F w (zV kk) kk (fP _) (show _<=_ by omega) _ iF)
    clear iF
    go_enter Tryz.func48,Tryz.ntmps48
    go_wp2_with fail
    refine CK.out.mono ?_
    rintro en w' ⟨rfl,ew⟩
    subst w'
    go_wp2_with fail
    go_loop [3,24] (fun n i=>∃ k:Nat,k<=(ze t).length/\i=.int .i64 k/\n=.int .i64 ((1+(1+zV kk)+ug ((ze t).take k):Nat):Int)) (fun _ i=>(ze t).length-(intOf i).toNat)
    case atStart=>exact ⟨0,Nat.zero_le _,rfl,by simp [ug]⟩
    case round =>
     obtain ⟨k,hk,rfl,rfl⟩:=hrel
     by_cases fT:k<(ze t).length
     ·obtain ⟨b',o,u,d,rfl,_,fx,hd,hu,hr⟩:=AT.out k fT
      rw [List.getElem?_map,Option.map_eq_some_iff] at hd
      obtain ⟨t',rV,rfl⟩:=hd
      have hs:=de rV
      have mO:=gV (ze t) (k+1)
      have sW:=E1.out
      have mx:=sumTm_mem (List.mem_of_getElem? rV)
      have IH':=fX (IH.out t' (by omega))
      have HS:=fX hs
      have b1:1+(1+zV kk)+ug ((ze t).take k)+zM t'<=16777216:=by omega
      clear hs rV sW mO mx
      obtain ⟨bu,eu⟩:=qW hr
      subst eu
      go_wp2_with fail
      refine (IH'.out _ hr).mono ?_
      rintro en w' ⟨rfl,ew⟩
      subst ew
      go_wp2_with fail
      go_round
      case rel=>exact ⟨k+1,by omega,by go_num,by rw [HS.out];go_num⟩
      case measure=>simp [intOf];omega
     ·go_wp2_with fail
      go_ret
      have:k=(ze t).length:=by omega
      subst this
      exact ⟨yz (by rw [List.take_length]),rfl⟩
 rw [E1.out]
 exact base
theorem tmAtoms_any (F:Nat->Prop) (w:World) (n:Nat):∀ t,zM t<=n->Lim n->TmAtoms F w t:=by
 induction n with
 | zero=>intro t h _;have:=sizeTm_mk t;omega
 | succ n ih=>exact fun t h hn=>tmAtoms_step F w t (hn.mono h) (fun t' h'=>ih t' (by omega) (hn.mono (by omega)))
theorem textT_atoms (k:Ty):zV k<=(zN k).length:=by
 have h1:=wl (zV k) k [] (by omega)
 have h2:=rdK_atoms _ h1
 simpa using h2
theorem uW:∀ t:Tm,uZ t->zM t<=(zt t).length
 | .nm x,h=>by
   rw [show zt (.nm x)=x from by unfold zt;rw [z_,zL],zM]
   exact List.length_pos_iff.2 (yB h).1
 | .wd x,h=>by
   rw [show zt (.wd x)=x from by unfold zt;rw [z_,zL],zM]
   exact List.length_pos_iff.2 (x5 h).1
 | .lam x k t,h=>by
   have h1:=uW t h.2
   have h2:=textT_atoms k
   rw [um,zM];simp;omega
 | .app m n,h=>by
   have h1:=uW m h.1
   have h2:=uW n h.2
   rw [ue,zM];simp;omega
 | .ite l m n,h=>by
   have h0:=uW l h.1
   have h1:=uW m h.2.1
   have h2:=uW n h.2.2
   rw [ur,zM];simp;omega
def RTPost (w:World) (o:Option Tm) (en:Ending) (w':World):Prop :=
 ∃ v,en=.returned v/\Below w.heap.size w w'/\(o=none->v=.pointer none)/\(∀ t,o=some t->Rep (w.heap.size<=·) w' (jX t) v)
set_option maxRecDepth 20000 in
theorem bJ (l:Bs) (w:World) (hl:Lim l.length) :
 Calls Tryz.prog 19 #[str l] w (RTPost w (qD l)):=by
 have tR:=hl.le
 go_enter Tryz.func19,Tryz.ntmps19
 go_wp2_with fail
 have oX:jj w.heap.size [] 90 l (w.alloc (.cells #[str l] 90)):=zG _ _
 refine (term_any _ _ _ 60 (by omega) l _ oX hl).mono ?_
 rintro en w1 ⟨v,r1,rfl,fA,rq,mH,mX⟩
 have hb:Below w.heap.size w w1:=((fH w.heap.size w).alloc (fP _) _).trans (fA.toBelow (by simp) (fun i hi e=>by omega))
 rcases ha:qh 60 l with _ | ⟨t,r1'⟩
 ·obtain rfl:=mH ha
  have Ha:=fX ha;clear ha mH mX
  go_wp2_with fail
  go_ret
  exact ⟨_,rfl,hb,fun _=>rfl,fun t h=>by simp [qD,Ha.out] at h⟩
 obtain ⟨rfl,iu⟩:=mX _ _ ha
 obtain ⟨ba,rfl⟩:=qW iu
 obtain ⟨etx,fa,_⟩:=gT _ _ _ _ ha
 have f7:=uW t fa
 have hlen:=congrArg List.length etx
 rw [List.length_append] at hlen
 have hst:zM t<=l.length:=by omega
 have Ha:=fX ha;clear ha mH mX etx fa f7 hlen
 have rD:=rq.cell
 have hz:w.heap.size<w1.heap.size:=pO rq
 cases r1 with
 | cons x xs =>
   have hne:(!(x::xs).isEmpty)=true:=rfl
   go_wp2_with fail
   go_ret
   exact ⟨_,rfl,hb,fun _=>rfl,fun t h=>by simp [qD,Ha.out] at h⟩
 | nil =>
   go_wp2_with fail
   refine (tmAtoms_any _ w1 (zM t) t (fP _) (hl.mono hst) _ iu).mono ?_
   rintro en w2 ⟨rfl,e2⟩
   subst e2
   by_cases lr:zM t<=60
   ·go_wp2_with fail
    go_ret
    have HM:qD l=some t:=by simp [qD,Ha.out,lr]
    exact ⟨_,rfl,hb,fun h=>by simp [HM] at h,fun t' h=>by rw [HM] at h;simp at h;subst h;exact (Rep.keep fun b o h ho=>⟨by have:=h;simp at this;omega,ho⟩).1 _ _ iu⟩
   ·go_wp2_with fail
    go_ret
    have HM:qD l=none:=by simp [qD,Ha.out,lr]
    exact ⟨_,rfl,hb,fun _=>rfl,fun t' h=>by rw [HM] at h;simp at h⟩
end Go.Proofs.YtjggkhmojjaomaaGreatDoor

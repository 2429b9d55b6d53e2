/- Walks. -/
import Derived.Lib.SliceRun
import Derived.RangeFuncNested
import Derived.RangeFuncBound
import Derived.RangeFuncCalls
import Derived.RangeFuncLeaves
import Derived.RangeFuncFrom
import Derived.RangeFuncBox
import Derived.Shelf.Abstract
import Derived.Shelf.RegionOpen
import Derived.OwnWalkIn
import Derived.TacticsInMore
import Derived.LoopNIn
import Derived.LoopIn
import Derived.Test.YtdhaafoiokkbnabGreatDoorQ4
set_option linter.unusedVariables false
set_option linter.unusedSimpArgs false
set_option maxHeartbeats 2000000
set_option maxRecDepth 100000
open Array renaming replicate_succ->Rb,replicate_zero->Rc
open Bool renaming and_eq_true->OP,or_eq_true->PX
open Go.Lib renaming decDigits->Pf,run_eql_slice_nil->Sw
open Go.Proofs.Tryz renaming func29->T7,func60->T6,func77->T8,ntmps29->Tx,ntmps60->Tw,prog->No,underlying66->PV
open Go.Value renaming ownBlock->OG,slice->Ox
open Go.World renaming cell?->Li
open List renaming append_assoc->Pi,append_nil->OY,append_toArray->Rw,cons_append->ON,drop_left->R8,foldl_cons->R7,getElem?_eq_some_iff->OB,length_append->Ov,length_cons->OD,length_nil->Pd,map_cons->OU,mem_append->O_,mem_cons->OX,mem_of_getElem?->OI,nil_append->OW,push_toArray->RG,size_toArray->QT,takeWhile_cons->QG,take_add_one->Pc,take_length->OT
open List.cons renaming injEq->OL,sizeOf_spec->R9
open Nat renaming div_lt_self->Q9,lt_or_ge->PT,lt_succ_self->S5,mod_lt->QR,reduceAdd->PN,reduceSub->Sh,strongRecOn->Qn,zero_le->OS
open Option renaming bind_eq_bind->Ow,bind_eq_some_iff->N0,bind_none->PK,bind_some->Lx,map_eq_some_iff->OA,map_some->Py
open Prod.mk renaming inj->UI,injEq->RL
namespace Go.Proofs.YtdhaafoiokkbnabGreatDoor
open Go.RowKit
theorem nR (n:Nat) (s:Value) (xs:List Value) (w:World) (h:zu 1 s n xs w) (hn:Lim n) :
 Calls No 60 #[s] w fun en w' =>
  ∃ a c,en=.returned (.slice a n c)/\Own w' 33 1 (.slice a n c) n xs/\Below w.heap.size w w'/\(∀ g,(Ox a n c).ownBlock=some g->w.heap.size<=g):=by
 have hl:=hn.le;obtain ⟨a,c,e⟩:=h.slice;subst e;cases a with
 | none =>
   have h0:n=0/\c=0:=by
    obtain ⟨_,_,⟨a',c',e,_⟩ | ⟨e,h0⟩⟩:=h
    ·simp at e
    ·simp at e;exact e
   obtain ⟨rfl,rfl⟩:=h0;have hx:xs=[]:=List.eq_nil_of_length_eq_zero (by simpa using h.1);subst hx;have q:=fun w=>Sw (P:=No) w 66 33 none 0 0 0 0 PV;go_enter T6,Tw;go_wp2_with fail
   go_ret;exact ⟨none,0,rfl,World.ownsRow_nil _ _ _ _,rZ _ _,fun g h=>by simp [OG] at h⟩
 | some a =>
   have q:=fun w=>Sw (P:=No) w 66 33 (some a) n c 0 0 PV;go_enter T6,Tw;go_wp2_with (at_builtin;refine zM rfl _ _ 66 rfl 33 (.pointer none) 1 8 PV Tryz.infoB rfl (by decide) _ 0 [] rfl ?c1 _ n xs rfl ?c2 ?c3 ?c4 ?_)
   case c1=>exact Own.lit #[] 0 (by decide) rfl
   case c2=>exact h.keep fun _ _ h=>zV h
   case c3=>unfold maxLen;omega
   case c4=>omega
   intro a' c' w' ho hb hg;go_wp2_with fail
   go_ret;refine ⟨a',c',rfl,ho,((rZ w.heap.size w).alloc (n9 _) _).trans (hb.toBelow (by simp) (fun i hi e=>by simp [OG] at e;omega)),fun g h=>?_⟩;rcases hg g h with h | h
   ·simp [OG] at h;omega
   ·omega
def b_ (F:Nat->Prop) (w:World) (b:Bd) (en:Ending) (w':World):Prop :=
 ∃ v,en=.returned v/\Below w.heap.size w w'/\Rep (fun k=>F k\/w.heap.size<=k) w' (.sl 33 1 (ki b).length (jU (ki b))) v
theorem parts_leaf (F:Nat->Prop) (w:World) (c:UInt8) (v:Value) (h:Rep F w (k_ (.leaf c)) v) :
 Calls No 29 #[v] w (b_ F w (.leaf c)):=by
 obtain ⟨a,e⟩:=zd h;subst e;go_enter T7,Tx;go_wp2_with fail
 refine (yK F w c _ h).mono ?_;rintro en w' ⟨rfl,e⟩;subst e;go_wp2_with fail
 go_ret;exact ⟨_,rfl,rZ _ _,zh.2 ⟨rfl,none,0,rfl,n9 _,fun _=>rfl,.inl rfl⟩⟩
theorem but_below {w wc w6:World} {o:Obj} {v:Value} (hbb:Below w.heap.size w wc) (rC:But (fun b=>v.ownBlock=some b) (wc.alloc o) w6)
 (BI:∀ g,v.ownBlock=some g->w.heap.size<=g):Below w.heap.size w w6:=by
 refine (hbb.alloc hbb.size _).trans (rC.toBelow ?_ ?_)
 ·have:=hbb.size;show w.heap.size<=(wc.heap.push o).size;rw [Array.size_push];omega
 ·intro i hi e;have h:w.heap.size<=i:=BI i e;omega
theorem but_below2 {w wc w6:World} {v:Value} (hbb:Below w.heap.size w wc) (rC:But (fun b=>v.ownBlock=some b) wc w6)
 (BI:∀ g,v.ownBlock=some g->w.heap.size<=g):Below w.heap.size w w6:=by
 refine hbb.trans (rC.toBelow hbb.size ?_);intro i hi e;have h:w.heap.size<=i:=BI i e;omega
theorem own_1 {w wc:World} {o:Obj} {v v':Value} (hbb:Below w.heap.size w wc) (BI:∀ g,v.ownBlock=some g->w.heap.size<=g)
 (hg:∀ g,v'.ownBlock=some g->v.ownBlock=some g\/g=(wc.alloc o).heap.size):∀ g,v'.ownBlock=some g->w.heap.size<=g:=by
 intro g h;rcases hg g h with h | h
 ·exact BI g h
 ·have:=hbb.size;rw [h,zK];omega
theorem own_2 {w wc:World} {v v':Value} (hbb:Below w.heap.size w wc) (BI:∀ g,v.ownBlock=some g->w.heap.size<=g)
 (hg:∀ g,v'.ownBlock=some g->v.ownBlock=some g\/g=wc.heap.size):∀ g,v'.ownBlock=some g->w.heap.size<=g:=by
 intro g h;rcases hg g h with h | h
 ·exact BI g h
 ·have:=hbb.size;rw [h];omega
theorem own_ad {w:World} {o:Obj} {v:Value} (h:∀ g,v.ownBlock=some g->(w.alloc o).drew.heap.size<=g):∀ g,v.ownBlock=some g->w.heap.size<=g:=by
 intro g hg;have:=h g hg;have h2:(w.alloc o).drew.heap.size=w.heap.size+1:=zK w o;omega
theorem parts_ask (F:Nat->Prop) (w:World) (v:Nat) (ss:List Bd) (y n:Bd) (p:Value) (h:Rep F w (k_ (.ask v ss y n)) p) (hn:Lim (ss.length+2)) :
 Calls No 29 #[p] w (b_ F w (.ask v ss y n)):=by
 obtain ⟨b,sl,yv,nv,e,NH,hc,tN,hy,hnn⟩:=uu h;subst e;obtain ⟨xs,Ao,sE⟩:=zu.ofRep tN (oneCell_encBs _);obtain ⟨sa,sc,esl⟩:=sE.slice;subst esl;obtain ⟨ya,ey⟩:=zd hy;obtain ⟨na,ena⟩:=zd hnn;subst ey;subst ena;have c2:w.cell? ⟨b,2,none⟩=some (.slice sa ss.length sc):=by simp [Li,hc]
 have c3:w.cell? ⟨b,3,none⟩=some (.pointer (some ⟨ya,0,none⟩)):=by simp [Li,hc]
 have c4:w.cell? ⟨b,4,none⟩=some (.pointer (some ⟨na,0,none⟩)):=by simp [Li,hc]
 have lb:=zZ hc;have hl:=hn.le;clear hc;go_enter T7,Tx;go_wp2_with fail
 refine (yh F w v ss y n _ h).mono ?_;rintro en w' ⟨rfl,e⟩;obtain rfl:w=w':=e.symm;go_wp2_with fail
 have lp:Lim ss.length:=hn.mono (by omega);have hm:ss.length+2<=maxLen:=by unfold maxLen;omega
 have tC:(ss.length+2)*8<=140737488355328:=by omega
 have h01:0<1:=by omega
 have D2:∀ u∈(#[.pointer (some ⟨ya,0,none⟩),.pointer (some ⟨na,0,none⟩)]:Array Value).toList,u.oneCell'=true:=by simp [Value.oneCell']
 have HO:=n7 D2;clear D2
 go_region_held3 (fun w'=>w'.cell? ⟨b,2,none⟩=some (.slice sa ss.length sc)/\w'.cell? ⟨b,3,none⟩=some (.pointer (some ⟨ya,0,none⟩))/\w'.cell? ⟨b,4,none⟩=some (.pointer (some ⟨na,0,none⟩)))
  (first
   | exact ⟨(Bo.cell lb).trans c2,(Bo.cell lb).trans c3,(Bo.cell lb).trans c4⟩
   | exact ⟨(hbb.cell lb).trans c2,(hbb.cell lb).trans c3,(hbb.cell lb).trans c4⟩
   | go_keep)
  (first
   | (go_at_call 60;refine (nR ss.length _ xs _ sE.drew lp).mono ?_;rintro en wc ⟨ac,kc,rfl,Jj,Ic,JB⟩;have hbb:Below w.heap.size w wc:=(rZ w.heap.size w).drew.trans Ic;have BI:∀ g,(Ox ac ss.length kc).ownBlock=some g->w.heap.size<=g:=JB)
   | (go_at_call 60;refine (nR ss.length _ xs _ (sE.alloc _).drew lp).mono ?_;rintro en wc ⟨ac,kc,rfl,Jj,Ic,JB⟩;have GB:=(zu.lits #[.pointer (some ⟨ya,0,none⟩),.pointer (some ⟨na,0,none⟩)] 2 rfl HO.out _ rfl).drew.below Ic;have hbb:Below w.heap.size w wc:=below_ad Ic;have BI:=own_ad JB)
   | (refine zI (by rfl) _ _ _ (by rfl) 33 (.pointer none) 1 8 PV Tryz.infoB rfl h01 (.slice ac ss.length kc) ss.length xs (by rfl) Jj _ 2 [.pointer (some ⟨ya,0,none⟩),.pointer (some ⟨na,0,none⟩)] (by rfl) GB hm tC ?_;intro a' c' w6 aK rC tV;have Bo:Below w.heap.size w w6:=but_below2 hbb rC BI;have hFg:=own_2 hbb BI tV)
   | (refine zI (by rfl) _ _ _ (by rfl) 33 (.pointer none) 1 8 PV Tryz.infoB rfl h01 (.slice ac ss.length kc) ss.length xs (by rfl) (Jj.alloc _) _ 2 [.pointer (some ⟨ya,0,none⟩),.pointer (some ⟨na,0,none⟩)] (by rfl) (zu.lits #[.pointer (some ⟨ya,0,none⟩),.pointer (some ⟨na,0,none⟩)] 2 rfl HO.out _ rfl) hm tC ?_;intro a' c' w6 aK rC tV;have Bo:Below w.heap.size w w6:=but_below hbb rC BI;have hFg:=own_1 hbb BI tV))
 all_goals
  go_wp2_with fail
  go_ret;refine ⟨_,rfl,Bo,?_⟩;have:(ki (.ask v ss y n)).length=ss.length+2:=by simp [ki]
  rw [this];refine aK.rep (fun g h=>.inr (hFg g h)) ?_;show zW _ _ (jU (ss++[y,n])) _;rw [dc];refine zW.append (zW.below Bo (fun _ h=>.inl h) Ao) ?_;exact zQ.2 ⟨_,_,rfl,Rep.below Bo (fun _ h=>.inl h) hy,zW.one (Rep.below Bo (fun _ h=>.inl h) hnn)⟩
theorem eF (F:Nat->Prop) (w:World) (b:Bd) (v:Value) (h:Rep F w (k_ b) v) (hn:Lim (zU b)) :
 Calls No 29 #[v] w (b_ F w b):=by
 cases b with
 | leaf c=>exact parts_leaf F w c v h
 | ask u ss y n=>exact parts_ask F w u ss y n v h (hn.mono (by
  have:=qO ss;have:=ze y;have:=ze n;simp [zU];omega))
def fK (b:Bd):Prop:=∀ (F:Nat->Prop) (w:World) (v:Value),Rep F w (k_ b) v ->
 Calls No 85 #[v] w fun en w'=>en=.returned (.int .i64 (kr b:Nat))/\Below w.heap.size w w'
theorem depth_step (b:Bd) (hl:Lim (zU b)) (ih:∀ t,zU t<zU b->fK t):fK b:=by
 intro F w v hv;have IH:=n7 ih;clear ih;have i5:=hl.le;obtain ⟨a0,e⟩:=zd hv;subst e;have hsz:=uo b;have hdl:=bi _ b (n9 _);go_enter Tryz.func85,Tryz.ntmps85;go_wp2_with fail
 refine (eF F w b _ hv hl).mono ?_;rintro en w1 ⟨pv,rfl,rW,hp⟩;obtain ⟨pa,pc,e,_,_,rX⟩:=zP hp;subst e;have AT:=n7 rX;clear rX hp;have hlen:=qO (ki b);have HS:=n7 hsz;clear hsz;have Hu:(ki b).length<=16777216:=by have:=HS.out;omega
 go_wp2_with fail
 go_loopw [3,9] (fun n i wr=>∃ k:Nat,k<=(ki b).length/\i=.int .i64 k/\n=.int .i64 (( qK ((ki b).take k):Nat):Int)/\Below w1.heap.size w1 wr) (fun _ i _=>(ki b).length-(intOf i).toNat)
 case atStart=>exact ⟨0,OS _,rfl,by simp [qK],rZ _ _⟩
 case round =>
  rename_i wr;obtain ⟨k,hk,rfl,rfl,hb⟩:=hrel;by_cases rH:k<(ki b).length
  ·obtain ⟨ba,oa,u,d,ea,_,JJ,hd,hu,hr⟩:=AT.out k rH;subst ea;rw [xE,OA] at hd;obtain ⟨t,ht,rfl⟩:=hd;obtain ⟨ta,eu⟩:=zd hr;subst eu;have hc:wr.cell? ⟨ba,oa+k,none⟩=some (.pointer (some ⟨ta,0,none⟩)):=by rw [hb.cell JJ];exact hu
   have hst:=depthBs_take ht;have Ar:=xU ht;have sw:=jR (ki b) (k+1);have iF:Rep _ wr (k_ t) (.pointer (some ⟨ta,0,none⟩)):=Rep.below hb (fun _ h=>h) hr;have hsz:=HS.out;have AX:zU t<zU b:=by omega
   have hdt:=bi _ t (n9 _);have IH':=n7 (IH.out t AX);have Bi:qK ((ki b).take k)<=16777216:=by have h:=nE (ts:=(ki b).take k) (fun t _=>bi _ t (n9 _));have:=jR (ki b) k;omega
   have htd:kr t<=16777216:=by omega
   have HT:=n7 hst;clear hst Ar hsz ht hu hr;go_wp2_with fail
   refine (IH'.out _ _ _ iF).mono ?_;rintro en w2 ⟨rfl,rY⟩;have rE:=zzT hb rY;go_wp2_with fail
   all_goals
    go_roundw
    case rel=>exact ⟨k+1,by omega,by go_num,by rw [HT.out];congr 1;omega,rE⟩
    case measure=>simp [intOf];omega
  ·obtain rfl:k=(ki b).length:=by omega
   go_wp2_with fail
   go_ret;refine ⟨xj ?_,zzT rW hb⟩;rw [OT,xu b]
theorem depth_any (n:Nat):∀ b,zU b<=n->Lim n->fK b:=by
 induction n with
 | zero=>intro b h _;have:=ze b;omega
 | succ n ih=>exact fun b h hn=>depth_step b (hn.mono h) (fun t h'=>ih t (by omega) (hn.mono (by omega)))
def mS (b:Bd):Prop:=∀ (F:Nat->Prop) (w:World) (v:Value),Rep F w (k_ b) v ->
 Calls No 84 #[v] w fun en w'=>en=.returned (.int .i64 (zU b:Nat))/\Below w.heap.size w w'
theorem size_step (b:Bd) (hl:Lim (zU b)) (ih:∀ t,zU t<zU b->mS t):mS b:=by
 intro F w v hv;have IH:=n7 ih;clear ih;have i5:=hl.le;obtain ⟨a0,e⟩:=zd hv;subst e;have hsz:=uo b;go_enter Tryz.func84,Tryz.ntmps84;go_wp2_with fail
 refine (eF F w b _ hv hl).mono ?_;rintro en w1 ⟨pv,rfl,rW,hp⟩;obtain ⟨pa,pc,e,_,_,rX⟩:=zP hp;subst e;have AT:=n7 rX;clear rX hp;have hlen:=qO (ki b);have HS:=n7 hsz;clear hsz;have Hu:(ki b).length<=16777216:=by have:=HS.out;omega
 go_wp2_with fail
 go_loopw [3,9] (fun n i wr=>∃ k:Nat,k<=(ki b).length/\i=.int .i64 k/\n=.int .i64 ((1+zE ((ki b).take k):Nat):Int)/\Below w1.heap.size w1 wr) (fun _ i _=>(ki b).length-(intOf i).toNat)
 case atStart=>exact ⟨0,OS _,rfl,by simp [zE],rZ _ _⟩
 case round =>
  rename_i wr;obtain ⟨k,hk,rfl,rfl,hb⟩:=hrel;by_cases rH:k<(ki b).length
  ·obtain ⟨ba,oa,u,d,ea,_,JJ,hd,hu,hr⟩:=AT.out k rH;subst ea;rw [xE,OA] at hd;obtain ⟨t,ht,rfl⟩:=hd;obtain ⟨ta,eu⟩:=zd hr;subst eu;have hc:wr.cell? ⟨ba,oa+k,none⟩=some (.pointer (some ⟨ta,0,none⟩)):=by rw [hb.cell JJ];exact hu
   have Ar:=xU ht;have sw:=jR (ki b) (k+1);have iF:Rep _ wr (k_ t) (.pointer (some ⟨ta,0,none⟩)):=Rep.below hb (fun _ h=>h) hr;have hsz:=HS.out;have AX:zU t<zU b:=by omega
   have IH':=n7 (IH.out t AX);have Bi:1+zE ((ki b).take k)<=16777216:=by omega
   have htd:zU t<=16777216:=by omega
   have LE:1+zE ((ki b).take k)+zU t<=16777216:=by omega
   have HT:=n7 Ar;clear Ar hsz ht hu hr;go_wp2_with fail
   refine (IH'.out _ _ _ iF).mono ?_;rintro en w2 ⟨rfl,rY⟩;have rE:=zzT hb rY;go_wp2_with fail
   all_goals
    go_roundw
    case rel=>exact ⟨k+1,by omega,by go_num,by rw [HT.out];congr 1;omega,rE⟩
    case measure=>simp [intOf];omega
  ·obtain rfl:k=(ki b).length:=by omega
   have Bi:1+zE (ki b)<=16777216:=by have:=HS.out;omega
   rw [OT];go_wp2_with fail
   go_ret;exact ⟨xj (by rw [HS.out]),zzT rW hb⟩
theorem size_any (n:Nat):∀ b,zU b<=n->Lim n->mS b:=by
 induction n with
 | zero=>intro b h _;have:=ze b;omega
 | succ n ih=>exact fun b h hn=>size_step b (hn.mono h) (fun t h'=>ih t (by omega) (hn.mono (by omega)))
end Go.Proofs.YtdhaafoiokkbnabGreatDoor
namespace Go.Proofs.YtdhaafoiokkbnabGreatDoor
open Go.RowKit Go.Shelf
attribute [local go_sem] Oper.semAt_some
def KpB (n₀:Nat) (p:Addr) (sv:Value) (W W':World):Prop:=Below n₀ W W'/\(W.cell? p=some sv->W'.cell? p=some sv)
theorem kpB_t {n₀:Nat} {p:Addr} {sv:Value} {A B C:World} (h:KpB n₀ p sv A B) (k:KpB n₀ p sv B C):KpB n₀ p sv A C:=⟨h.1.trans k.1,fun e=>k.2 (h.2 e)⟩
theorem kpB_b {n₀:Nat} {p:Addr} {sv:Value} {w:World} (hn:n₀<=w.heap.size) (W:World) (l:Nat) (o o':Obj) (hl:w.heap.size<=l) (h:W.heap[l]? = some o) (hc:o.isCells=false) (hw:o.isWalk=false):KpB n₀ p sv W (W.putObj l o') :=
 ⟨belowK_b hn W l o o' hl h hc hw,fun e=>cell_kept e (grownBy_putObj' _ l o') (fun r e=>by cases e;exact ⟨_,h,hc⟩)⟩
def BackAt {α:Type} (ix bl:α->Nat) (n₀:Nat) (w:World) (a:Option Addr) (xs:List α):Prop :=
 ∀ k x,xs[k]? = some x->ix x+k+1=xs.length/\∃ b o,a=some ⟨b,o,none⟩/\b<n₀/\w.cell? ⟨b,o+ix x,none⟩=some (.pointer (some ⟨bl x,0,none⟩))
theorem back1_in {α:Type} (ix bl:α->Nat) (F:Fence) (n:Nat) (hf:F.fn 77) (LS:F.round=none) (hn:1<=n) (l Bs n₀ cap:Nat) (a:Option Addr) (xs:List α) (hlen:xs.length<=16777216) (J Jx:List α->World->Prop)
 (hY:∀ pre x W,J pre W->pre.length<xs.length->YieldAt F (n-1) No l #[.int .i64 (ix x:Nat),.pointer (some ⟨bl x,0,none⟩)] W fun e W' =>
  (e=.returned (.bool true)/\J (pre++[x]) W'/\KpB n₀ ⟨Bs,0,none⟩ (.slice a xs.length cap) W W')\/(e=.returned (.bool false)/\Jx (pre++[x]) W'))
 (W:World) (hBs:W.cell? ⟨Bs,0,none⟩=some (.slice a xs.length cap)) (hc:BackAt ix bl n₀ W a xs) (h0:J [] W) :
 CallsIn F n No 77 #[.func (.yield l) #[] #[],.pointer (some ⟨Bs,0,none⟩)] W fun e W'=>(∃ v,e=.returned v) /\
  ((∃ ys,ys=xs/\J ys W')\/(∃ pre,pre <+: xs/\Jx pre W')):=by
 refine callsIn_of_wp T8 rfl hf ?_ LS;simp only [Tryz.ntmps77,QT,OD,Pd,PN,Sh,Rb,Rc,RG,Rw,OW,ON];have FW:IntKind.i64.wrap ((xs.length:Int)-1)=(xs.length:Int)-1:=IntWalk.i64_in _ (by omega)
 gi_wp2
 clear FW
 gi_loopw [3] (fun i wr=>Below n₀ W wr/\wr.cell? ⟨Bs,0,none⟩=some (.slice a xs.length cap)/\((i=.int .i64 (-1)/\J xs wr)\/(∃ j:Nat,j<xs.length/\i=.int .i64 (j:Nat)/\J (xs.take (xs.length-1-j)) wr)))
  (fun i _=>(intOf i+1).toNat)
 case atStart =>
  refine ⟨rZ _ _,hBs,?_⟩;cases hx:xs with
  | nil=>subst hx;exact .inl ⟨by simp,h0⟩
  | cons x ys=>subst hx;exact .inr ⟨ys.length,by simp,by simp,by simpa using h0⟩
 case round =>
  obtain ⟨sJ,hbs,⟨rfl,hJs⟩ | ⟨j,hj,rfl,hJs⟩⟩:=hrel
  ·gi_wp2
   go_end0
   exact ⟨⟨_,rfl⟩,.inl ⟨_,rfl,hJs⟩⟩
  ·have hj0:(0:Int)<=(j:Int):=by omega
   obtain ⟨x,hx⟩:∃ x,xs[xs.length-1-j]? = some x:=⟨xs[xs.length-1-j],by simp [show xs.length-1-j<xs.length from by omega]⟩;obtain ⟨e1,b,o,rfl,hb,aJ⟩:=hc _ x hx;have e2:ix x=j:=by omega
   have hcx:=(sJ.cell (p:=⟨b,o+ix x,none⟩) hb).trans aJ;obtain ⟨fn,tmps,assign,body,hy,hR⟩:=hY _ x wr hJs (by rw [List.length_take];omega);rw [e2] at hcx hy;have tY:xs.take (xs.length-1-j)++[x]=xs.take (xs.length-1-j+1):=by rw [Pc,hx];rfl
   have HX:=n7 (n8 e1 (n8 e2 (n8 hx tY)));clear hx e1 e2 tY aJ;have DC:(j:Int)<(xs.length:Int):=by omega
   have Hf:IntKind.i64.wrap ((j:Int)-1)=(j:Int)-1:=IntWalk.i64_in _ (by omega)
   gi_wp2
   refine hR.mono ?_;rintro e W3 (⟨rfl,NF,MA⟩ | ⟨rfl,hJx3⟩)
   ·have hbs3:=MA.2 hbs;have hbw3:=sJ.trans MA.1
    gi_wp2
    go_roundw
    case rel =>
     refine ⟨hbw3,hbs3,?_⟩;rw [HX.out.2.2.2] at NF;cases j with
     | zero =>
       left;refine ⟨by simp,?_⟩;rw [show xs.length-1-0+1=xs.length from by omega,OT] at NF;exact NF
     | succ j =>
       right;refine ⟨j,by omega,by simp,?_⟩;rw [show xs.length-1-(j+1)+1=xs.length-1-j from by omega] at NF;exact NF
    case measure=>simp [intOf]
   ·gi_wp2
    refine bodyPost_ret (results_none rfl _ _ _) rfl ?_;exact ⟨⟨_,rfl⟩,.inr ⟨_,by rw [HX.out.2.2.2];exact List.take_prefix _ _,hJx3⟩⟩
theorem back_in (F:Fence) (n:Nat) (hf:F.fn 51) (LS:F.round=none) (a:Option Addr) (len cap:Nat) (w:World) :
 CallsIn F n No 51 #[.slice a len cap] w fun e w'=>e=.returned (.func (.func 77) #[] #[.pointer (some ⟨w.heap.size,0,none⟩)])/\w'=w.alloc (.cells #[.slice a len cap] 100):=by
 refine callsIn_of_wp Tryz.func51 rfl hf ?_ LS;simp only [Tryz.ntmps51,QT,OD,Pd,PN,Sh,Rb,Rc,RG,Rw,OW,ON]
 gi_wp2
 go_ret;exact ⟨rfl,rfl⟩
theorem back_stops {α:Type} (ix bl:α->Nat) (F:Fence) (n:Nat) (hf:F.fn 77) (LS:F.round=none) (hn:1<=n) (Bs n₀ cap:Nat) (a:Option Addr) (xs:List α) (hlen:xs.length<=16777216) (w:World) (hBs:Bs<w.heap.size) (hn₀:n₀<=w.heap.size)
 (hc:w.cell? ⟨Bs,0,none⟩=some (.slice a xs.length cap)) (hI:BackAt ix bl n₀ w a xs) :
 SeqStopsK F n No 77 #[.pointer (some ⟨Bs,0,none⟩)] (fun x:α=>#[Value.int .i64 (ix x:Nat),.pointer (some ⟨bl x,0,none⟩)]) (KpB n₀ ⟨Bs,0,none⟩ (.slice a xs.length cap)) (fun ys=>ys=xs) (fun pre=>pre <+: xs) xs.length w:=fun l J Jx W hW _ _ hY h0 =>
 back1_in ix bl F n hf LS hn l Bs n₀ cap a xs hlen J Jx hY W ((hW.cell (p:=⟨Bs,0,none⟩) hBs).trans hc) (fun k x hx=>by
  obtain ⟨h1,b,o,h2,h3,h4⟩:=hI k x hx;exact ⟨h1,b,o,h2,h3,((hW.mono hn₀).cell (p:=⟨b,o+ix x,none⟩) h3).trans h4⟩) h0
def vG:List Ty->Bs:=List.foldl (fun s t=>[40,62,32]++zL t++[32]++s++[41]) [98]
theorem cJ (pre:List Ty) (t:Ty):vG (pre++[t])=[40,62,32]++zL t++[32]++vG pre++[41]:=by simp [vG]
theorem dK:∀ ts:List Ty,vG ts.reverse=zL (.mk ts)
 | []=>by rw [yI];rfl
 | t::ts=>by rw [List.reverse_cons,cJ,dK ts,um];simp
structure pd (F:Nat->Prop) (w:World) (t0:Ty) where
 ix:Nat
 bl:Nat
 ty:Ty
 rep:Rep F w (jA ty) (.pointer (some ⟨bl,0,none⟩))
 low:zJ ty<zJ t0
def eV (t:Ty):Prop:=∀ (F:Nat->Prop) (w:World) (v:Value),Rep F w (jA t) v ->
 Calls No 19 #[v] w fun en w'=>en=.returned (str (zL t))/\Below w.heap.size w w'
theorem textFrom_len (pre:List Ty) (C:Nat) (h:∀ t∈pre,(zL t).length<=C):(vG pre).length<=1+pre.length*(C+5):=by
 have key:∀ (pre:List Ty) (s:Bs),(∀ t∈pre,(zL t).length<=C)->(pre.foldl (fun s t=>[40,62,32]++zL t++[32]++s++[41]) s).length<=s.length+pre.length*(C+5):=by
  intro pre
  induction pre with
  | nil=>intro s _;simp
  | cons t pre ih =>
    intro s h;have h1:=ih ([40,62,32]++zL t++[32]++s++[41]) fun x hx=>h x (by simp [hx]);have h2:=h t (by simp);simp only [R7,Ov,OD,Pd] at h1 ⊢;rw [Nat.add_mul];omega
 have:=key pre [98] h;simpa [vG] using this
theorem items_of {F:Nat->Prop} {w:World} {t:Ty} {a:Option Addr} {n₀:Nat} (hF:∀ i,F i->i<n₀) (rX:Ats F w t.args.length (qH t.args) a) :
 ∃ xs:List (pd F w t),xs.length=t.args.length/\xs.map pd.ty=t.args.reverse/\BackAt pd.ix pd.bl n₀ w a xs:=by
 have key:∀ m,m<=t.args.length->∃ xs:List (pd F w t),xs.length=m/\xs.map pd.ty=(t.args.take m).reverse/\∀ k x,xs[k]? = some x->x.ix+k+1=m/\∃ b o,a=some ⟨b,o,none⟩/\b<n₀/\w.cell? ⟨b,o+x.ix,none⟩=some (.pointer (some ⟨x.bl,0,none⟩)):=by
  intro m
  induction m with
  | zero=>intro _;exact ⟨[],rfl,by simp,by simp⟩
  | succ m ih =>
    intro hm;obtain ⟨xs,h1,h2,h3⟩:=ih (by omega);obtain ⟨b,o,u,d,ea,NH,sJ,hd,hc,tq⟩:=rX m (by omega);rw [uv,OA] at hd;obtain ⟨ty,ht,rfl⟩:=hd;obtain ⟨ub,_,rfl,_⟩:=zc tq;have iM:zJ ty<zJ t:=by
     have:=xy ht;have:=ud t.args (m+1);have:=qx t;omega
    refine ⟨⟨m,ub,ty,tq,iM⟩::xs,by simp [h1],?_,fun k x hk=>?_⟩
    ·rw [OU,h2,Pc,ht];simp
    ·cases k with
     | zero =>
       simp at hk;subst hk;exact ⟨rfl,b,o,ea,hF b NH,hc⟩
     | succ k =>
       obtain ⟨q1,q2⟩:=h3 k x (by simpa using hk);exact ⟨by omega,q2⟩
 obtain ⟨xs,h1,h2,h3⟩:=key t.args.length (n9 _);rw [OT] at h2;exact ⟨xs,h1,h2,fun k x hk=>by obtain ⟨q1,q2⟩:=h3 k x hk;exact ⟨by omega,q2⟩⟩
theorem nQ {A B:World} (h:Below A.heap.size A B):KeepsOthers A B :=
 ⟨h.size,fun k o hk _=>(h.block k (zZ hk)).trans hk⟩
theorem keeps_round {w W w':World} {sv:Value} {R O T:Bs} {n₀:Nat} (hn:n₀<=w.heap.size) (hB:Below w.heap.size w W) (hb:Below W.heap.size W.drew w') (hc:w'.cell? ⟨w.heap.size,0,none⟩=some (str R)) (hf:w'.frozen? ⟨w.heap.size,0,none⟩=false) (hT:T=O) :
 KeepsOthers W (w'.setCell ⟨w.heap.size,0,none⟩ (str O))/\KpB w.heap.size ⟨w.heap.size+1,0,none⟩ sv W (w'.setCell ⟨w.heap.size,0,none⟩ (str O)) /\
  ((w'.setCell ⟨w.heap.size,0,none⟩ (str O)).cell? ⟨w.heap.size,0,none⟩=some (str T)/\(w'.setCell ⟨w.heap.size,0,none⟩ (str O)).frozen? ⟨w.heap.size,0,none⟩=false)/\Below w.heap.size w (w'.setCell ⟨w.heap.size,0,none⟩ (str O)):=by
 have h1:Below W.heap.size W w':=⟨hb.os,hb.tape,hb.output,hb.size,hb.block⟩;have h2:=(h1.mono hB.size).setCell (p:=⟨w.heap.size,0,none⟩) (n9 _) (str O);subst hT;refine ⟨(nQ h1).trans (KeepsOthers.setCell _ _ _),⟨h2,fun e=>?_⟩,⟨World.cell?_setCell_same' _ _ _ (by rw [hc];rfl),by rw [World.frozen?_setCell];exact hf⟩,hB.trans h2⟩;have h3:=(h1.cell (p:=⟨w.heap.size+1,0,none⟩) (n_ W _ e)).trans e;rw [World.cell?_of_block (w:=w') (rK _ _ _ _ (by simp))];exact h3
theorem textK_step (t:Ty) (hl:zJ t<=1000) (ih:∀ t',zJ t'<zJ t->eV t'):eV t:=by
 intro F0 w v h0;have h1:Rep (fun i=>F0 i/\i<w.heap.size) w (jA t) v:=(Rep.keep fun b o hf ho=>⟨⟨hf,zZ ho⟩,ho⟩).1 _ _ h0;obtain ⟨b,s,rfl,hb,hc,hs⟩:=zc h1;have c1:w.cell? ⟨b,0,none⟩=some s:=by simp [Li,hc]
 obtain ⟨a,cap,rfl,hn,hlen,rX⟩:=zP hs;have AA:t.args.length<=1000:=by have:=qN t.args;have:=qx t;omega
 clear hc hs h0 h1 hn hlen;obtain ⟨W0,sV⟩:=zzN ((w.alloc (.cells #[str [98]] 9)).alloc (.cells #[.slice a t.args.length cap] 100));obtain ⟨xs,x1,x2,x3⟩:=items_of (n₀:=w.heap.size) (fun i hi=>hi.2) rX;refine (callsIn_wide (n:=4)).1 ?_;refine callsIn_of_wp_marks Tryz.func19 rfl trivial ?_ rfl;simp only [Tryz.ntmps19,QT,OD,Pd,PN,Sh,Rb,Rc,RG,Rw,OW,ON]
 gi_wp2_with (refine ⟨trivial,?_⟩;gi_at_call 51;refine (back_in Fence.wide _ trivial rfl _ _ _ _).mono ?_;rintro e w' ⟨rfl,rfl⟩)
 have hB1:W0.heap[w.heap.size]? = some (.cells #[str [98]] 9 (0,0)):=by rw [<- sV];exact zY (zG w _)
 have iS:W0.cell? ⟨w.heap.size,0,none⟩=some (str [98]):=by simp [Li,hB1]
 have hf0:W0.frozen? ⟨w.heap.size,0,none⟩=false:=by simp [World.frozen?,hB1]
 have Ce:W0.heap.size=w.heap.size+2:=by rw [<- sV];simp
 have ik:W0.cell? ⟨w.heap.size+1,0,none⟩=some (.slice a xs.length cap):=by
  have h:W0.heap[w.heap.size+1]? = some (.cells #[.slice a t.args.length cap] 100 (0,0)):=by
   rw [<- sV];have:=zG (w.alloc (.cells #[str [98]] 9)) (.cells #[.slice a t.args.length cap] 100);rwa [zK] at this
  simp [Li,h,x1]
 have KW:Below w.heap.size w W0:=by rw [<- sV];exact ((rZ _ w).alloc (n9 _) _).alloc (by simp) _
 have KR:BackAt pd.ix pd.bl w.heap.size W0 a xs:=fun k x hx=>by
  obtain ⟨q1,b,o,q2,q3,q4⟩:=x3 k x hx;exact ⟨q1,b,o,q2,q3,(KW.cell (p:=⟨b,o+x.ix,none⟩) q3).trans q4⟩
 have hx1000:xs.length<=1000:=by omega
 have Cz:vG (xs.map pd.ty)=zL t:=by rw [x2,dK];cases t;rfl
 have IH:=n7 ih;clear ih
 refine wpIn_rangeFunc_ownF rfl (by omega) (gf:=77) (lb:=#[.pointer (some ⟨w.heap.size+1,0,none⟩)]) rfl trivial (enters_of T8 (by kernel_rfl) rfl)
  (back_stops (α:=pd (fun i=>F0 i/\i<w.heap.size) w t) pd.ix pd.bl Fence.wide _ trivial rfl (by omega) (w.heap.size+1) w.heap.size cap a xs (by omega) W0 (by omega) (by omega) ik KR) kpB_t (kpB_b (by omega)) (rZ _ _) (fun _=>rfl)
  (fun pre W=>(W.cell? ⟨w.heap.size,0,none⟩=some (str (vG (pre.map pd.ty)))/\W.frozen? ⟨w.heap.size,0,none⟩=false)/\Below w.heap.size w W)
  (fun _ _ _=>False)
  (OwnFrom.and (Own.from (fun s A B row hs hg hr=>⟨cell_kept hs.1 hg hr,(frozen_kept hs.1 hg hr).trans hs.2⟩) _) (ownFrom_below (n9 _) (by omega)))
  (fun _ _ _ _ _ hs _ _=>hs)
  ⟨⟨iS,hf0⟩,KW⟩
  (fun x=>{ tmps:=#[.pointer (some ⟨b,0,none⟩),undef,str [],.pointer (some ⟨w.heap.size,0,none⟩),undef,.pointer (some ⟨x.bl,0,none⟩),.pointer (some ⟨b,0,none⟩),.pointer (some ⟨b,0,none⟩),.pointer (some ⟨b,0,none⟩),.slice a t.args.length cap,.func (.func 77) #[] #[.pointer (some ⟨w.heap.size+1,0,none⟩)],.int .i64 (x.ix:Nat),.pointer (some ⟨x.bl,0,none⟩),undef,undef,undef,undef,undef,undef,undef,undef],defers:=[] }) ?assign ?body ?done ?stop
 case assign =>
  intro l x W K hK
  gi_wp2
  exact hK
 case body =>
  rintro l pre x W ⟨⟨hc,hf⟩,hB⟩ rM;have i2:No.follows .mixedOrders=true:=by kernel_rfl
  have Kw:(zL x.ty).length<=3000:=by have:=jE 1000 x.ty (by have:=x.low;omega);have:=x.low;omega
  have sw:(vG (pre.map pd.ty)).length<=1+pre.length*(3000+5):=by
   have:=textFrom_len (pre.map pd.ty) 3000 fun t' aN=>by
    obtain ⟨y,_,rfl⟩:=List.mem_map.1 aN;have:=jE 1000 y.ty (by have:=y.low;omega);have:=y.low;omega
   rwa [List.length_map] at this
  have hne:vG ((pre++[x]).map pd.ty)=[40,62,32]++zL x.ty++[32]++vG (pre.map pd.ty)++[41]:=by rw [List.map_append,OU,List.map_nil,cJ]
  have LM:Rep (fun i=>F0 i/\i<w.heap.size) W (jA x.ty) (.pointer (some ⟨x.bl,0,none⟩)):=(Rep.keep fun b o hf ho=>⟨hf,by rw [hB.block b hf.2];exact ho⟩).1 _ _ x.rep;have C1:Hid (∀ X,X=zL x.ty->Calls No 19 #[.pointer (some ⟨x.bl,0,none⟩)] W.drew fun en w'=>en=.returned (str X)/\Below W.heap.size W.drew w'):=by
   show ∀ X,_->_;rintro X rfl;exact IH.out x.ty x.low _ W.drew _ ((Rep.keep (w:=W) (w':=W.drew) fun _ _ hf ho=>⟨hf,ho⟩).1 _ _ LM)
  obtain ⟨X,hX⟩:=zzM (zL x.ty);obtain ⟨R,hR⟩:=zzM (vG (pre.map pd.ty));rw [<- hX] at Kw hne;rw [<- hR] at sw hne hc;have C2:=n7 (C1.out X hX);obtain ⟨O1,h1⟩:=zzM ([40,62,32]++X);obtain ⟨O2,h2⟩:=zzM (O1++[32]);obtain ⟨O3,h3⟩:=zzM (O2++R);obtain ⟨O4,h4⟩:=zzM (O3++[41]);have m1:O1.length=X.length+3:=by rw [h1];simp
  have m2:O2.length=O1.length+1:=by rw [h2];simp
  have m3:O3.length=O2.length+R.length:=by rw [h3];simp
  have AJ:=fun w0=>kI (P:=No) [40,62,32] X (by simp;omega) w0;have AI:=fun w0=>kI (P:=No) O1 [32] (by simp;omega) w0;have BP:=fun w0=>kI (P:=No) O2 R (by omega) w0;have BO:=fun w0=>kI (P:=No) O3 [41] (by simp;omega) w0;have H4:Hid (vG ((pre++[x]).map pd.ty)=O4):=by show _=_;rw [hne,h4,h3,h2,h1]
  rw [<- h1] at AJ;rw [<- h2] at AI;rw [<- h3] at BP;rw [<- h4] at BO;have HB:=n7 hB;have HXX:=n7 (n8 x3 (n8 KR (n8 ik KW)));clear h1 h2 h3 h4 m1 m2 m3 hX hR C1 LM hne Kw sw hB x3 KR ik KW Cz x2 sV iS hf0 rX c1
  gi_wp2
  have hcd:W.drew.cell? ⟨w.heap.size,0,none⟩=some (str R):=hc;have hz:=n_ W _ hc
  gi_region_with_o (refine ⟨trivial,?_⟩;gi_at_call 19;refine (CallsIn.inRound l (callsIn_wide.2 C2.out)).mono ?_;rintro e w' ⟨rfl,rS⟩;have Fs:w'.cell? ⟨w.heap.size,0,none⟩=some (str R):=(rS.cell (p:=⟨w.heap.size,0,none⟩) hz).trans hcd;have hf':w'.frozen? ⟨w.heap.size,0,none⟩=false:=(rS.frozen (p:=⟨w.heap.size,0,none⟩) hz).trans hf)
  all_goals gi_wp2
  all_goals exact keeps_round (n9 _) HB.out rS Fs hf' (by rw [H4.out])
 case done =>
  rintro D ys W hD rfl ⟨⟨hc,hf⟩,hB⟩ hK;rw [Cz] at hc
  gi_wp2
  refine ⟨by simp,.inl ⟨_,_,rfl,run_takeDeferred hK,?_⟩⟩;exact ⟨_,results_tmp rfl _ _ _,rfl,hB.trans (belowK_b (w:=w) (n9 _) W D _ _ (by omega) hK rfl rfl)⟩
 case stop =>
  rintro D c pre W _ _ h _;exact h.elim
theorem bJ (n:Nat):∀ t,zJ t<=n->n<=1000->eV t:=by
 induction n with
 | zero=>intro t h _;have:=ke t;omega
 | succ n ih=>exact fun t h hn=>textK_step t (by omega) (fun t' h'=>ih t' (by omega) (by omega))
end Go.Proofs.YtdhaafoiokkbnabGreatDoor
namespace Go.Proofs.YtdhaafoiokkbnabGreatDoor
open Go.RowKit


theorem implValid_any (s text:Bs) (hs:Lim s.length) (hl:Lim text.length) (w:World) (hg:yF w) :
 Calls No 9 #[str s,str text] w fun en w'=>en=.returned (.bool (kE s text).isSome)/\Below w.heap.size w w':=by
 have he:(fa s text).map Prod.snd=kE s text:=by
  rw [rdTS_eq];cases kE s text <;> rfl
 rw [<- he];clear he;go_enter Tryz.func9,Tryz.ntmps9;go_wp2_with fail
 refine (dJ s text w hg hs hl).mono ?_;rintro en w1 ⟨kv,bv,rfl,rW,hn,hy⟩;cases hq:fa s text with
 | none =>
   obtain rfl:=hn hq;have HQ:=n7 hq;clear hq hn hy;go_wp2_with fail
   go_ret;exact ⟨ret_bool (by rw [HQ.out];rfl),rW⟩
 | some x =>
   obtain ⟨t,b⟩:=x;obtain ⟨hk,hr⟩:=hy t b hq;have HQ:=n7 hq;clear hq hn hy;obtain ⟨ab,eb⟩:=zd hr;subst eb;go_wp2_with fail
   go_ret;exact ⟨ret_bool (by rw [HQ.out];rfl),rW⟩
inductive Mn where
 | op (o:Nat) (t:Ty)
 | bd (t:Ty) (b:Bd) (env:List Mn)
structure Gf where
 yes:Bd
 no:Bd
 env:List Mn
def opens:Nat->List Ty->List Mn
 | _,[]=>[]
 | n,t::ts=>.op n t::opens (n+1) ts
def owns (env:List Mn):List Ty->List Bd->List Mn
 | t::ts,s::ss=>.bd t s env::owns env ts ss
 | _,_=>[]
def kV (ev:Nat->Bd->List Mn->Nat->List Gf->Option (Bd×Nat)) (env:List Mn) (n:Nat):Nat->List Ty->List Bd->Option (List Bd×Nat)
 | l,t::ts,s::ss=>do
   let (x,l1)<-ev l s (env++opens n t.args) (n+t.args.length) []
   let (xs,l2)<-kV ev env n l1 ts ss
   some (x::xs,l2)
 | l,_,_=>some ([],l)
def ev:Nat->Nat->Bd->List Mn->Nat->List Gf->Option (Bd×Nat)
 | 0,_,_,_,_,_=>none
 | d+1,l,b,env,n,st=>match l with
   | 0=>none
   | l+1=>match b with
     | .leaf c=>if c=117 then some (.leaf c,l) else match st with
       | []=>some (.leaf c,l)
       | f::st'=>ev d l (if c=116 then f.yes else f.no) f.env n st'
     | .ask v ss y no=>match env[v]? with
       | none=>none
       | some (.bd t b' e)=>ev d l b' (e++owns env t.args ss) n (⟨y,no,env⟩::st)
       | some (.op o t)=>do
         let (xs,l1)<-kV (ev d) env n l t.args ss
         let (x,l2)<-ev d l1 y env n st
         let (z,l3)<-ev d l2 no env n st
         some (.ask o xs x z,l3)
def kq (ev:Nat->Nat->Bd->List Mn->Nat->List Gf->Option (Bd×Nat×Nat)) (env:List Mn) (n:Nat):Nat->Nat->List Ty->List Bd->Option (List Bd×Nat×Nat)
 | k,l,t::ts,s::ss=>do
   let (x,k1,l1)<-ev k l s (env++opens n t.args) (n+t.args.length) []
   let (xs,k2,l2)<-kq ev env n k1 l1 ts ss
   some (x::xs,k2,l2)
 | k,l,_,_=>some ([],k,l)
def evN:Nat->Nat->Nat->Bd->List Mn->Nat->List Gf->Option (Bd×Nat×Nat)
 | 0,_,_,_,_,_,_=>none
 | d+1,k,l,b,env,n,st=>match l with
   | 0=>none
   | l+1=>match k with
     | 0=>none
     | k+1=>match b with
       | .leaf c=>if c=117 then some (.leaf c,k,l) else match st with
         | []=>some (.leaf c,k,l)
         | f::st'=>evN d (k+1) l (if c=116 then f.yes else f.no) f.env n st'
       | .ask v ss y no=>match env[v]? with
         | none=>none
         | some (.bd t b' e)=>evN d (k+1) l b' (e++owns env t.args ss) n (⟨y,no,env⟩::st)
         | some (.op o t)=>do
           let (xs,k1,l1)<-kq (evN d) env n k l t.args ss
           let (x,k2,l2)<-evN d k1 l1 y env n st
           let (z,k3,l3)<-evN d k2 l2 no env n st
           some (.ask o xs x z,k3,l3)
def pu (k:Nat):Option (Bd×Nat)->Option (Bd×Nat×Nat)
 | none=>none
 | some (b,l)=>if zU b<=k then some (b,k-zU b,l) else none
def pK (k:Nat):Option (List Bd×Nat)->Option (List Bd×Nat×Nat)
 | none=>none
 | some (bs,l)=>if zE bs<=k then some (bs,k-zE bs,l) else none
theorem fQ (k:Nat):pu k none=none:=rfl
theorem nS {k l:Nat} {b:Bd} (h:zU b<=k):pu k (some (b,l))=some (b,k-zU b,l):=by simp only [pu];rw [if_pos h]
theorem gt {k l:Nat} {b:Bd} (h:¬ zU b<=k):pu k (some (b,l))=none:=by simp only [pu];rw [if_neg h]
theorem capNs_none (k:Nat):pK k none=none:=rfl
theorem capNs_pos {k l:Nat} {b:List Bd} (h:zE b<=k):pK k (some (b,l))=some (b,k-zE b,l):=by simp only [pK];rw [if_pos h]
theorem capNs_neg {k l:Nat} {b:List Bd} (h:¬ zE b<=k):pK k (some (b,l))=none:=by simp only [pK];rw [if_neg h]
theorem nB (d:Nat) (ih:∀ k l b env n st,evN d k l b env n st=pu k (ev d l b env n st)) (env:List Mn) (n:Nat) :
 ∀ (ts:List Ty) (ss:List Bd) (k l:Nat),kq (evN d) env n k l ts ss=pK k (kV (ev d) env n l ts ss)
 | [],ss,k,l=>by cases ss <;> simp [kq,kV,pK,zE]
 | t::ts,[],k,l=>by simp [kq,kV,pK,zE]
 | t::ts,s::ss,k,l=>by
   simp only [kq,kV,Ow,ih];cases h1:ev d l s (env++opens n t.args) (n+t.args.length) [] with
   | none=>simp [pu,pK]
   | some x =>
     obtain ⟨x,l1⟩:=x;simp only [pu,Lx];by_cases hx:zU x<=k
     ·rw [if_pos hx];simp only [Lx,nB d ih env n ts ss];cases h2:kV (ev d) env n l1 ts ss with
      | none=>simp [pK]
      | some y =>
        obtain ⟨xs,l2⟩:=y;have hsz:zE (x::xs)=zU x+zE xs:=by simp only [zE]
        simp only [pK,Lx];by_cases hy:zE xs<=k-zU x
        ·rw [if_pos hy,if_pos (by omega),hsz];simp;omega
        ·rw [if_neg hy,if_neg (by omega)];rfl
     ·rw [if_neg hx];cases h2:kV (ev d) env n l1 ts ss with
      | none=>simp [pK]
      | some y =>
        obtain ⟨xs,l2⟩:=y;have hsz:zE (x::xs)=zU x+zE xs:=by simp only [zE]
        simp only [pK,Lx];rw [if_neg (by omega)];rfl
theorem evN_eq (d:Nat):∀ (k l:Nat) (b:Bd) (env:List Mn) (n:Nat) (st:List Gf),evN d k l b env n st=pu k (ev d l b env n st):=by
 induction d with
 | zero=>intro k l b env n st;simp [evN,ev,pu]
 | succ d ih =>
   intro k l b env n st;rw [evN.eq_def,ev.eq_def];cases l with
   | zero=>simp [pu]
   | succ l =>
     cases k with
     | zero =>
       simp only;cases h:(match b with
     | .leaf c=>if c=117 then some (.leaf c,l) else match st with
       | []=>some (.leaf c,l)
       | f::st'=>ev d l (if c=116 then f.yes else f.no) f.env n st'
     | .ask v ss y no=>match env[v]? with
       | none=>none
       | some (.bd t b' e)=>ev d l b' (e++owns env t.args ss) n (⟨y,no,env⟩::st)
       | some (.op o t)=>do
         let (xs,l1)<-kV (ev d) env n l t.args ss
         let (x,l2)<-ev d l1 y env n st
         let (z,l3)<-ev d l2 no env n st
         some (.ask o xs x z,l3):Option (Bd×Nat)) with
       | none=>simp [pu]
       | some x=>obtain ⟨x,l'⟩:=x;have:=ze x;simp only [pu];rw [if_neg (by omega)]
     | succ k =>
       simp only;cases b with
       | leaf c =>
         simp only;by_cases hc:c=117
         ·rw [if_pos hc,if_pos hc];simp [pu,zU]
         ·rw [if_neg hc,if_neg hc];cases st with
          | nil=>simp [pu,zU]
          | cons f st'=>simp only;exact ih _ _ _ _ _ _
       | ask v ss y no =>
         simp only;cases hv:env[v]? with
         | none=>simp [pu]
         | some m =>
           cases m with
           | bd t b' e=>simp only;exact ih _ _ _ _ _ _
           | op o t =>
             simp only [Ow,nB d ih,ih];cases h1:kV (ev d) env n l t.args ss with
             | none=>simp only [capNs_none,fQ,PK]
             | some x =>
               obtain ⟨xs,l1⟩:=x;by_cases Ao:zE xs<=k
               ·simp only [capNs_pos Ao,Lx];cases h2:ev d l1 y env n st with
                | none=>simp only [fQ,PK]
                | some x =>
                  obtain ⟨x,l2⟩:=x;by_cases hx:zU x<=k-zE xs
                  ·simp only [nS hx,Lx];cases h3:ev d l2 no env n st with
                   | none=>simp only [fQ,PK]
                   | some z =>
                     obtain ⟨z,l3⟩:=z;have hsz:zU (.ask o xs x z)=1+(zE xs+(zU x+zU z)):=by simp only [zU]
                     by_cases hz:zU z<=k-zE xs-zU x
                     ·simp only [nS hz,Lx];rw [nS (by omega),hsz];simp;omega
                     ·simp only [gt hz,Lx,PK];rw [gt (by omega)]
                  ·simp only [gt hx,Lx,PK];cases h3:ev d l2 no env n st with
                   | none=>rfl
                   | some z =>
                     obtain ⟨z,l3⟩:=z;have hsz:zU (.ask o xs x z)=1+(zE xs+(zU x+zU z)):=by simp only [zU]
                     simp only [Lx];rw [gt (by omega)]
               ·simp only [capNs_neg Ao,Lx,PK];cases h2:ev d l1 y env n st with
                | none=>rfl
                | some x =>
                  obtain ⟨x,l2⟩:=x;simp only [Lx];cases h3:ev d l2 no env n st with
                  | none=>rfl
                  | some z =>
                    obtain ⟨z,l3⟩:=z;have hsz:zU (.ask o xs x z)=1+(zE xs+(zU x+zU z)):=by simp only [zU]
                    simp only [Lx];rw [gt (by omega)]
mutual
def wV (H:List Ty):Mn->Ty->Prop
 | .op o t,t'=>t=t'/\H[o]? = some t
 | .bd t b e,t'=>t=t'/\∃ h,jX H e h/\qj (h++t.args) b
def jX (H:List Ty):List Mn->List Ty->Prop
 | [],h=>h=[]
 | m::ms,h=>∃ t ts,h=t::ts/\wV H m t/\jX H ms ts
end
theorem mnFits_at {H:List Ty}:∀ (cs:List Mn) (h:List Ty),jX H cs h->∀ (i:Nat) (t:Ty),h[i]? = some t->∃ c,cs[i]? = some c/\wV H c t
 | [],h,k,i,c,hc=>by rw [jX] at k;subst k;simp at hc
 | c::cs,h,k,i,t',hc=>by
   rw [jX] at k;obtain ⟨t,ts,rfl,k1,k2⟩:=k;cases i with
   | zero=>simp at hc;subst hc;exact ⟨c,rfl,k1⟩
   | succ i=>simp at hc;simpa using mnFits_at cs ts k2 i t' hc
theorem y9 {H:List Ty}:∀ (xs bs:List Mn) (h k:List Ty),jX H xs h->jX H bs k->jX H (xs++bs) (h++k)
 | [],bs,h,k,h1,h2=>by rw [jX] at h1;subst h1;simpa using h2
 | a::xs,bs,h,k,h1,h2=>by
   rw [jX] at h1;obtain ⟨t,ts,rfl,k1,k2⟩:=h1;simp only [ON];rw [jX];exact ⟨t,ts++k,rfl,k1,y9 xs bs ts k k2 h2⟩
mutual
theorem mnFit_more {H X:List Ty}:∀ (m:Mn) (t:Ty),wV H m t->wV (H++X) m t
 | .op o t,t',h=>by
   rw [wV] at *;exact ⟨h.1,by rw [List.getElem?_append_left (OB.1 h.2).1];exact h.2⟩
 | .bd t b e,t',h=>by
   rw [wV] at *;obtain ⟨h1,k,h2,h3⟩:=h;exact ⟨h1,k,gR e k h2,h3⟩
theorem gR {H X:List Ty}:∀ (ms:List Mn) (h:List Ty),jX H ms h->jX (H++X) ms h
 | [],h,k=>by rw [jX] at *;exact k
 | m::ms,h,k=>by
   rw [jX] at *;obtain ⟨t,ts,rfl,k1,k2⟩:=k;exact ⟨t,ts,rfl,mnFit_more m t k1,gR ms ts k2⟩
end
theorem eM {H:List Ty}:∀ (ts:List Ty) (n:Nat),(∀ i t,ts[i]? = some t->H[n+i]? = some t)->jX H (opens n ts) ts
 | [],n,h=>by rw [opens,jX]
 | t::ts,n,h=>by
   rw [opens,jX];refine ⟨t,ts,rfl,?_,eM ts (n+1) fun i t' hi=>?_⟩
   ·rw [wV];exact ⟨rfl,by have:=h 0 t rfl;simpa using this⟩
   ·have:=h (i+1) t' (by simpa using hi);rw [show n+1+i=n+(i+1) from by omega];exact this
theorem cX (H:List Ty) (ts:List Ty):jX (H++ts) (opens H.length ts) ts :=
 eM ts H.length fun i t h=>by rw [List.getElem?_append_right (by omega),Nat.add_sub_cancel_left];exact h
theorem owns_fit {H h:List Ty} {env:List Mn} (he:jX H env h):∀ (ts:List Ty) (ss:List Bd),qU (kD h ts) ss->jX H (owns env ts ss) ts
 | [],ss,hf=>by
   rw [owns]
   ·rw [jX]
   ·intros;contradiction
 | t::ts,[],hf=>by
   rw [qU] at hf;simp [kD] at hf
 | t::ts,s::ss,hf=>by
   rw [qU] at hf;obtain ⟨h',lQ,e,h1,h2⟩:=hf;simp only [kD,OU,OL] at e;obtain ⟨rfl,rfl⟩:=e;rw [owns,jX];refine ⟨t,ts,rfl,?_,owns_fit he ts ss h2⟩;rw [wV];exact ⟨rfl,h,he,h1⟩
def gfFit (H:List Ty) (f:Gf):Prop:=∃ h,jX H f.env h/\qj h f.yes/\qj h f.no
structure ji (H:List Ty) (b:Bd) (env:List Mn) (st:List Gf):Prop where
 fit:∃ h,jX H env h/\qj h b
 frames:∀ f∈st,gfFit H f
theorem ji.back {H:List Ty} {b:Bd} {env:List Mn} {f:Gf} {st:List Gf} (h:ji H b env (f::st)) (c:UInt8):ji H (if c=116 then f.yes else f.no) f.env st:=by
 obtain ⟨k,k1,k2,k3⟩:=h.frames f (by simp);refine ⟨⟨k,k1,?_⟩,fun g hg=>h.frames g (by simp [hg])⟩;split
 ·exact k2
 ·exact k3
theorem ji.ask {H:List Ty} {v:Nat} {ss:List Bd} {y no:Bd} {env:List Mn} {st:List Gf} (h:ji H (.ask v ss y no) env st) :
 ∃ m t hh,env[v]? = some m/\wV H m t/\jX H env hh/\qU (kD hh t.args) ss/\qj hh y/\qj hh no:=by
 obtain ⟨⟨hh,h1,h2⟩,_⟩:=h;rw [qj] at h2;obtain ⟨t,k1,k2,k3,k4⟩:=h2;obtain ⟨m,m1,m2⟩:=mnFits_at _ _ h1 v t k1;exact ⟨m,t,hh,m1,m2,h1,k2,k3,k4⟩
theorem ji.call {H:List Ty} {v:Nat} {ss:List Bd} {y no:Bd} {env:List Mn} {st:List Gf} (h:ji H (.ask v ss y no) env st) {t:Ty} {b':Bd} {e:List Mn} (he:env[v]? = some (.bd t b' e)) :
 ss.length=t.args.length/\ji H b' (e++owns env t.args ss) (⟨y,no,env⟩::st):=by
 obtain ⟨m,t',hh,m1,m2,m3,m4,m5,m6⟩:=h.ask;rw [he] at m1;simp at m1;subst m1;rw [wV] at m2;obtain ⟨rfl,k,k1,k2⟩:=m2;refine ⟨?_,⟨k++t.args,y9 _ _ _ _ k1 (owns_fit m3 _ _ m4),k2⟩,fun f hf=>?_⟩
 ·have:=kh _ _ m4;rw [kL] at this;exact this.symm
 ·rcases OX.1 hf with rfl | hf
  ·exact ⟨hh,m3,m5,m6⟩
  ·exact h.frames f hf
theorem ji.keep {H:List Ty} {v:Nat} {ss:List Bd} {y no:Bd} {env:List Mn} {st:List Gf} (h:ji H (.ask v ss y no) env st) {t:Ty} {o:Nat} (he:env[v]? = some (.op o t)) :
 ss.length=t.args.length/\H[o]? = some t/\(∀ (k:Nat) (a:Ty) (s:Bd),t.args[k]? = some a->ss[k]? = some s->ji (H++a.args) s (env++opens H.length a.args) [])/\ji H y env st/\ji H no env st:=by
 obtain ⟨m,t',hh,m1,m2,m3,m4,m5,m6⟩:=h.ask;rw [he] at m1;simp at m1;subst m1;rw [wV] at m2;obtain ⟨rfl,k1⟩:=m2;have hl:=kh _ _ m4;rw [kL] at hl;refine ⟨hl.symm,k1,fun k a s ha hs=>?_,⟨⟨hh,m3,m5⟩,h.frames⟩,⟨⟨hh,m3,m6⟩,h.frames⟩⟩;obtain ⟨x,hx,hf⟩:=w_ _ _ m4 k s hs;have Ab:x=hh++a.args:=by simp [kD,ha] at hx;exact hx.symm
 subst Ab;exact ⟨⟨hh++a.args,y9 _ _ _ _ (gR _ _ m3) (cX H a.args),hf⟩,by simp⟩
theorem nH {H:List Ty} {env:List Mn} {d:Nat} (ih:∀ (H:List Ty) (l:Nat) (b:Bd) (env:List Mn) (st:List Gf) (out:Bd) (l':Nat),ji H b env st->ev d l b env H.length st=some (out,l')->qj H out) :
 ∀ (ts:List Ty) (ss:List Bd) (l:Nat) (outs:List Bd) (l':Nat),ss.length=ts.length->(∀ (k:Nat) (a:Ty) (s:Bd),ts[k]? = some a->ss[k]? = some s->ji (H++a.args) s (env++opens H.length a.args) []) ->
   kV (ev d) env H.length l ts ss=some (outs,l')->qU (kD H ts) outs
 | [],[],l,outs,l',hl,hk,h=>by simp [kV] at h;obtain ⟨rfl,rfl⟩:=h;simp [kD,qU]
 | [],s::ss,l,outs,l',hl,hk,h=>by simp at hl
 | t::ts,[],l,outs,l',hl,hk,h=>by simp at hl
 | t::ts,s::ss,l,outs,l',hl,hk,h=>by
   simp only [kV,Ow,N0,Prod.exists] at h;obtain ⟨x,l1,h1,xs,l2,h2,h3⟩:=h;simp at h3;obtain ⟨rfl,rfl⟩:=h3;have k0:=hk 0 t s rfl rfl;have h1':ev d l s (env++opens H.length t.args) (H++t.args).length []=some (x,l1):=by rw [Ov];exact h1
   refine ⟨H++t.args,kD H ts,rfl,ih _ _ _ _ _ _ _ k0 h1',nH ih ts ss l1 xs l2 (by simpa using hl) (fun k a s' ha hs=>hk (k+1) a s' (by simpa using ha) (by simpa using hs)) h2⟩
theorem ev_fit (d:Nat):∀ (H:List Ty) (l:Nat) (b:Bd) (env:List Mn) (st:List Gf) (out:Bd) (l':Nat),ji H b env st->ev d l b env H.length st=some (out,l')->qj H out:=by
 induction d with
 | zero=>intro H l b env st out l' _ h;simp [ev] at h
 | succ d ih =>
   intro H l b env st out l' hf h;rw [ev.eq_def] at h;cases l with
   | zero=>simp at h
   | succ l =>
     simp only at h;cases b with
     | leaf c =>
       simp only at h;split at h
       ·simp at h;obtain ⟨rfl,_⟩:=h;simp [qj]
       ·cases st with
        | nil=>simp at h;obtain ⟨rfl,_⟩:=h;simp [qj]
        | cons f st'=>exact ih _ _ _ _ _ _ _ (hf.back c) h
     | ask v ss y no =>
       simp only at h;cases hv:env[v]? with
       | none=>rw [hv] at h;simp at h
       | some m =>
         rw [hv] at h;cases m with
         | bd t b' e=>exact ih _ _ _ _ _ _ _ (hf.call hv).2 h
         | op o t =>
           simp only [Ow,N0,Prod.exists] at h;obtain ⟨xs,l1,h1,x,l2,h2,z,l3,h3,h4⟩:=h;simp at h4;obtain ⟨rfl,_⟩:=h4;obtain ⟨k1,k2,k3,k4,k5⟩:=hf.keep hv;rw [qj];exact ⟨t,k2,nH ih _ _ _ _ _ k1 k3 h1,ih _ _ _ _ _ _ _ k4 h2,ih _ _ _ _ _ _ _ k5 h3⟩
mutual
def wfB:Bd->Prop
 | .leaf c=>c=116\/c=102\/c=117
 | .ask _ ss y n=>vl ss/\wfB y/\wfB n
def vl:List Bd->Prop
 | []=>True
 | b::bs=>wfB b/\vl bs
end
theorem fE:∀ (xs ys:List Bd),vl xs->vl ys->vl (xs++ys)
 | [],ys,_,h=>h
 | x::xs,ys,h,k=>by rw [vl] at h;exact ⟨h.1,fE xs ys h.2 k⟩
theorem fi:∀ (xs:List Bd),vl xs->∀ (k:Nat) (b:Bd),xs[k]? = some b->wfB b
 | [],_,k,b,h=>by simp at h
 | x::xs,hw,k,b,h=>by
   rw [vl] at hw;cases k with
   | zero=>simp at h;subst h;exact hw.1
   | succ k=>exact fi xs hw.2 k b (by simpa using h)
theorem dec_ne (n:Nat):dec n≠[]:=by
 by_cases h:n<10
 ·rw [vQ h];simp
 ·rw [vc h];simp
theorem dig_digit {r:Nat} (h:r<10):dig (xF r)=true:=by
 rcases (by omega:r=0\/r=1\/r=2\/r=3\/r=4\/r=5\/r=6\/r=7\/r=8\/r=9) with rfl | rfl | rfl | rfl | rfl | rfl | rfl | rfl | rfl | rfl <;> rfl
theorem fZ {r:Nat} (h:r<10):(xF r).toNat-48=r:=by
 rcases (by omega:r=0\/r=1\/r=2\/r=3\/r=4\/r=5\/r=6\/r=7\/r=8\/r=9) with rfl | rfl | rfl | rfl | rfl | rfl | rfl | rfl | rfl | rfl <;> rfl
theorem dec_all (n:Nat):∀ c∈dec n,dig c=true:=by
 induction n using Qn with
 | _ n ih =>
   by_cases h:n<10
   ·rw [vQ h];intro c hc;simp at hc;subst hc;exact dig_digit h
   ·rw [vc h];intro c hc;rcases O_.1 hc with hc | hc
    ·exact ih (n / 10) (Q9 (by omega) (by omega)) c hc
    ·simp at hc;subst hc;exact dig_digit (QR _ (by omega))
theorem dec_val (n:Nat):jv (dec n)=n:=by
 induction n using Qn with
 | _ n ih =>
   by_cases h:n<10
   ·rw [vQ h];unfold jv;simp only [R7,List.foldl_nil];rw [fZ h];omega
   ·rw [vc h,pW,ih (n / 10) (Q9 (by omega) (by omega)),fZ (QR _ (by omega))];omega
theorem dec_head (n:Nat):1<(dec n).length->(dec n).head?≠some 48:=by
 induction n using Qn with
 | _ n ih =>
   by_cases h:n<10
   ·rw [vQ h];simp
   ·rw [vc h];intro _;have hne:=dec_ne (n / 10);obtain ⟨c,cs,hc⟩:∃ c cs,dec (n / 10)=c::cs:=by
     cases hd:dec (n / 10) with
     | nil=>exact absurd hd hne
     | cons c cs=>exact ⟨c,cs,rfl⟩
    rw [hc];simp only [ON,List.head?_cons,ne_eq,Option.some.injEq];by_cases h1:1<(dec (n / 10)).length
    ·have:=ih (n / 10) (Q9 (by omega) (by omega)) h1;rw [hc] at this;simpa using this
    ·have J0:n / 10<10:=by
      rcases PT (n / 10) 10 with h' | h'
      ·exact h'
      ·exfalso;apply h1;rw [vc (by omega)];have:=List.length_pos_iff.2 (dec_ne (n / 10 / 10));simp;omega
     rw [vQ J0] at hc;simp at hc;obtain ⟨rfl,_⟩:=hc;intro e;have hv:=fZ J0;rw [e] at hv;have:(48:UInt8).toNat-48=0:=rfl;omega
theorem digsOf_dec {v:Nat} (h:v<10000) (r:Bs):qD (dec v++32::r)=dec v:=by
 have h4:(dec v).length<=4:=uY 3 v (by omega);unfold qD;have key:∀ (ds:Bs) (m:Nat),ds.length<=m->(∀ c∈ds,dig c=true)->((ds++32::r).take m).takeWhile dig=ds:=by
  intro ds
  induction ds with
  | nil =>
    intro m _ _;cases m with
    | zero=>simp
    | succ m=>simp [dig]
  | cons d ds ih =>
    intro m hm hd;cases m with
    | zero=>simp at hm
    | succ m =>
      simp only [ON,List.take_succ_cons,QG];rw [if_pos (hd d (by simp)),ih m (by simpa using hm) (fun c hc=>hd c (by simp [hc]))]
 exact key _ 4 h4 (dec_all v)
theorem specNum_dec {v:Nat} (h:v<10000) (r:Bs):jF (dec v++32::r)=some (v,(dec v).length):=by
 unfold jF;rw [digsOf_dec h,dec_val,if_neg];rintro (h1 | ⟨h1,h2⟩)
 ·exact dec_ne v h1
 ·have:=dec_head v h1;apply this;cases hd:dec v with
  | nil=>exact absurd hd (dec_ne v)
  | cons c cs=>rw [hd] at h2;simpa using h2
theorem eU (v:Nat) (ss:List Bd) (y n:Bd):kC (.ask v ss y n)=40::(dec v++(kz (ss++[y,n])++[41])):=by
 rw [kC,vx];simp [kz]
theorem askOf_parts (v:Nat) (ss:List Bd) (y n:Bd):wH v ss.length (ss++[y,n])=some (.ask v ss y n):=by
 unfold wH;rw [R8,List.take_left]
theorem gX {rd:RdS}:∀ (ps:List Bd) (hs:List (List Ty)) (r:Bs),hs.length=ps.length->(∀ (k:Nat) (h:List Ty) (p:Bd) (r:Bs),hs[k]? = some h->ps[k]? = some p->rd h (kC p++r)=some (p,r))->zF rd hs (kz ps++r)=some (ps,r)
 | [],[],r,_,_=>by simp [zF,kz]
 | [],h::hs,r,hl,_=>by simp at hl
 | p::ps,[],r,hl,_=>by simp at hl
 | p::ps,h::hs,r,hl,hp=>by
   rw [kz,zF];have h0:=hp 0 h p (kz ps++r) rfl rfl;have hc:cut [32] ([32]++kC p++kz ps++r)=some (kC p++(kz ps++r)):=by
    rw [Pi,Pi];exact mQ [32] _
   simp only [qB,hc,Ow,Lx,h0,gX ps hs r (by simpa using hl) (fun k h' p' r' hh hk=>hp (k+1) h' p' r' (by simpa using hh) (by simpa using hk))]
theorem depthBs_mem {ts:List Bd} {t:Bd} (h:t∈ts):1+kr t<=qK ts:=by
 induction ts with
 | nil=>simp at h
 | cons x xs ih =>
   rcases OX.1 h with rfl | h
   ·simp only [qK];omega
   ·have:=ih h;simp only [qK];omega
theorem rdN_text (e:Nat):∀ (hand:List Ty) (b:Bd) (r:Bs),qj hand b->wfB b->kr b<e->jC e hand->rdN e hand (kC b++r)=some (b,r):=by
 induction e with
 | zero=>intro hand b r _ _ h;omega
 | succ e ih =>
   intro hand b r hf hw hd hh;cases b with
   | leaf c =>
     rw [wfB] at hw;rw [kC];simp only [ON,OW,rdN];rw [if_pos hw]
   | ask v ss y n =>
     obtain ⟨t,ht,hfp,tN⟩:=fit_parts hf;rw [wfB] at hw;have hwp:vl (ss++[y,n]):=fE _ _ hw.1 ⟨hw.2.1,hw.2.2,trivial⟩;have hv:v<10000:=by
      have h1:=(OB.1 ht).1;have:=hh.2;omega
     rw [xu] at hd;have Gv:jF (dec v++(kz (ss++[y,n])++[41])++r)=some (v,(dec v).length):=by
      obtain ⟨q,hq⟩:∃ q,dec v++(kz (ss++[y,n])++[41])++r=dec v++32::q:=by
       cases ss with
       | nil=>exact ⟨kC y++kz [n]++[41]++r,by simp [kz]⟩
       | cons s ss=>exact ⟨kC s++kz (ss++[y,n])++[41]++r,by simp [kz]⟩
      rw [hq];exact specNum_dec hv q
     rw [eU,ON,rdN.eq_def];simp only;rw [if_neg (by decide),if_neg (by decide),Gv];simp only [ht];have M1:(dec v++(kz (ss++[y,n])++[41])++r).drop (dec v).length=kz (ss++[y,n])++([41]++r):=by
      rw [Pi,R8,Pi]
     have oQ:zF (rdN e) (jJ hand t) (kz (ss++[y,n])++([41]++r))=some (ss++[y,n],[41]++r):=by
      refine gX _ _ _ (kh _ _ hfp) fun k h p r' hk hp=>?_;obtain ⟨h',D_,hf'⟩:=w_ _ _ hfp k p hp;rw [hk] at D_;simp at D_;subst D_;have si:p∈ss++[y,n]:=OI hp;have hdp:=depthBs_mem si;refine ih h p r' hf' (fi _ hwp k p hp) (by have:qK (ss++[y,n])<e+1:=hd;omega) ?_;rcases PT k t.args.length with Kz | Kz
      ·obtain ⟨a,ha⟩:∃ a,t.args[k]? = some a:=⟨t.args[k],by simp [Kz]⟩;rw [d6 ha] at hk;simp at hk;subst hk;exact hh.next ht (OI ha)
      ·have oI:k<t.args.length+2:=by
        have:=(OB.1 hk).1;rwa [uf] at this
       rw [dn Kz oI] at hk;simp at hk;subst hk;have:=hh.same;rwa [OY] at this
     rw [M1,oQ];simp only [Ow,Lx,mQ];rw [<- tN,askOf_parts];rfl
theorem gW {rd rd':RdS} (h:∀ hand l x,rd hand l=some x->rd' hand l=some x):∀ (hs:List (List Ty)) (l:Bs) (x:List Bd×Bs),zF rd hs l=some x->zF rd' hs l=some x
 | [],l,x,hx=>by simpa [zF] using hx
 | a::hs,l,x,hx=>by
   simp only [zF,qB,Ow,N0,Prod.exists] at hx ⊢;obtain ⟨b,l1,⟨l0,h0,h1⟩,bs,l2,h2,h3⟩:=hx;exact ⟨b,l1,⟨l0,h0,h _ _ _ h1⟩,bs,l2,gW h hs l1 _ h2,h3⟩
theorem rdN_mono (e:Nat):∀ (e':Nat) (hand:List Ty) (l:Bs) (x:Bd×Bs),e<=e'->rdN e hand l=some x->rdN e' hand l=some x:=by
 induction e with
 | zero=>intro e' hand l x _ h;simp [rdN] at h
 | succ e ih =>
   intro e' hand l x he h;cases e' with
   | zero=>omega
   | succ e' =>
     cases l with
     | nil=>simp [rdN] at h
     | cons c m =>
       simp only [rdN] at h ⊢;split at h
       ·rename_i hc;rw [if_pos hc];exact h
       ·rename_i hc;rw [if_neg hc];split at h
        ·simp at h
        ·rename_i tE;rw [if_neg tE];cases hn:jF m with
         | none=>rw [hn] at h;simp at h
         | some vk =>
           obtain ⟨v,k⟩:=vk;rw [hn] at h;simp only at h ⊢;cases ht:hand[v]? with
           | none=>rw [ht] at h;simp at h
           | some t =>
             rw [ht] at h;simp only [Ow,N0,Prod.exists] at h ⊢;obtain ⟨ps,l1,h1,h2⟩:=h;exact ⟨ps,l1,gW (fun a b c d=>ih e' a b c (by omega) d) _ _ _ h1,h2⟩
theorem gP {rd:RdS} {P:Bd->Prop} (h:∀ hand l b r,rd hand l=some (b,r)->P b):∀ (hs:List (List Ty)) (l:Bs) (ps:List Bd) (r:Bs),zF rd hs l=some (ps,r)->∀ p∈ps,P p
 | [],l,ps,r,hx=>by simp [zF] at hx;obtain ⟨rfl,_⟩:=hx;simp
 | a::hs,l,ps,r,hx=>by
   simp only [zF,qB,Ow,N0,Prod.exists] at hx;obtain ⟨b,l1,⟨l0,h0,h1⟩,bs,l2,h2,h3⟩:=hx;simp at h3;obtain ⟨rfl,rfl⟩:=h3;intro p hp;rcases OX.1 hp with rfl | hp
   ·exact h _ _ _ _ h1
   ·exact gP h hs l1 bs l2 h2 p hp
theorem nI {v n:Nat} {ps:List Bd} {b:Bd} (h:wH v n ps=some b):∃ ss y no,b=.ask v ss y no/\ps=ss++[y,no]:=by
 unfold wH at h;split at h
 ·rename_i y no hd;simp at h;subst h;exact ⟨_,_,_,rfl,by rw [<- hd,List.take_append_drop]⟩
 ·simp at h
theorem wfBs_of:∀ (ps:List Bd),(∀ p∈ps,wfB p)->vl ps
 | [],_=>trivial
 | p::ps,h=>⟨h p (by simp),wfBs_of ps fun q hq=>h q (by simp [hq])⟩
theorem cD:∀ (xs ys:List Bd),vl (xs++ys)->vl xs/\vl ys
 | [],ys,h=>⟨trivial,h⟩
 | x::xs,ys,h=>by
   simp only [ON] at h;rw [vl] at h;have:=cD xs ys h.2;exact ⟨⟨h.1,this.1⟩,this.2⟩
theorem rdN_wf (e:Nat):∀ (hand:List Ty) (l:Bs) (b:Bd) (r:Bs),rdN e hand l=some (b,r)->wfB b/\kr b<e:=by
 induction e with
 | zero=>intro hand l b r h;simp [rdN] at h
 | succ e ih =>
   intro hand l b r h;cases l with
   | nil=>simp [rdN] at h
   | cons c m =>
     simp only [rdN] at h;split at h
     ·rename_i hc;simp at h;obtain ⟨rfl,_⟩:=h;exact ⟨hc,by simp [kr]⟩
     ·split at h
      ·simp at h
      ·split at h
       ·simp at h
       ·split at h
        ·simp at h
        ·simp only [Ow,N0,Prod.exists] at h;obtain ⟨ps,l1,h1,l2,h2,b',h3,h4⟩:=h;simp at h4;obtain ⟨rfl,_⟩:=h4;obtain ⟨ss,y,no,rfl,rfl⟩:=nI h3;have k1:=gP (P:=fun b=>wfB b/\kr b<e) (fun hand l b r h=>ih hand l b r h) _ _ _ _ h1;have k2:=cD _ _ (wfBs_of _ fun p hp=>(k1 p hp).1);refine ⟨⟨k2.1,k2.2.1,k2.2.2.1⟩,?_⟩;rw [xu];have key:∀ (qs:List Bd),(∀ q∈qs,kr q<e)->qK qs<=e:=by
          intro qs
          induction qs with
          | nil=>intro _;simp [qK]
          | cons q qs ihq =>
            intro hq;have h1:=hq q (by simp);have h2:=ihq fun x hx=>hq x (by simp [hx]);simp only [qK];omega
         exact Nat.lt_succ_of_le (key _ fun q hq=>(k1 q hq).2)
mutual
theorem wQ:∀ (b:Bd) (hand:List Ty) (e:Nat),qj hand b->kr b<e->jC e hand->2*(kC b).length+7<=9*zU b
 | .leaf c,hand,e,_,_,_=>by simp [kC,zU]
 | .ask v ss y n,hand,0,_,h,_=>by omega
 | .ask v ss y n,hand,e+1,hf,hd,hh=>by
   have hf':=hf;rw [qj] at hf;obtain ⟨t,ht,h1,h2,h3⟩:=hf;have hv:v<10000:=by
    have h1:=(OB.1 ht).1;have:=hh.2;omega
   have h4:(dec v).length<=4:=uY 3 v (by omega);have hs:jC e hand:=by have:=hh.same;rwa [OY] at this
   simp only [kr] at hd;have k1:=dQ ss t.args hand e h1 (by omega) (fun a ha=>hh.next ht ha);have k2:=wQ y hand e h2 (by omega) hs;have k3:=wQ n hand e h3 (by omega) hs;rw [eU,vx];simp only [kz,zU,Ov,OD,Pd];omega
theorem dQ:∀ (bs:List Bd) (ts:List Ty) (hand:List Ty) (e:Nat),qU (kD hand ts) bs->qK bs<=e->(∀ a∈ts,jC e (hand++a.args))->2*(kz bs).length<=9*zE bs
 | [],ts,hand,e,_,_,_=>by simp [kz]
 | b::bs,ts,hand,e,hf,hd,hh=>by
   rw [qU] at hf;obtain ⟨h',lQ,e',h1,h2⟩:=hf;cases ts with
   | nil=>simp [kD] at e'
   | cons t ts =>
     simp only [kD,OU,OL] at e';obtain ⟨rfl,rfl⟩:=e';simp only [qK] at hd;have k1:=wQ b (hand++t.args) e h1 (by omega) (hh t (by simp));have k2:=dQ bs ts hand e h2 (by omega) (fun a ha=>hh a (by simp [ha]));simp only [kz,zE,Ov,OD,Pd];omega
end
theorem jC.less {d e:Nat} {levels:List Ty} (h:jC e levels) (hd:d<=e):jC d levels:=⟨h.1,by have:=h.2;omega⟩
theorem mD {t:Ty} (ht:zJ t<=15) {b:Bd} (hf:qj t.args b) (hw:wfB b) (hs:zU b<=200):kE (zL t) (kC b)=if kr b<=100 then some b else none:=by
 have hd:=bi _ b (n9 _);have hh:jC 201 t.args:=by
  have h1:=eh ht;have h2:=qx t;have h3:=qN t.args;exact ⟨h1.1,by omega⟩
 have hl:=wQ b t.args 201 hf (by omega) hh;unfold kE;rw [uz ht];simp only;rw [if_neg (by simp;omega)];by_cases li:kr b<=100
 ·have:=rdN_text 101 t.args b [] hf hw (by omega) (hh.less (by omega));rw [OY] at this;rw [this,if_pos li];simp [hs]
 ·rw [if_neg li];cases hq:rdN 101 t.args (kC b) with
  | none=>rfl
  | some x =>
    obtain ⟨b',r⟩:=x;have h1:=rdN_mono 101 201 _ _ _ (by omega) hq;have h2:=rdN_text 201 t.args b [] hf hw (by omega) hh;rw [OY] at h2;rw [h2] at h1;simp at h1;obtain ⟨rfl,rfl⟩:=h1;have:=(rdN_wf _ _ _ _ _ hq).2;omega
theorem vP {p l r:Bs} (h:cut p l=some r):l=p++r:=by
 unfold cut at h;split at h
 ·rename_i hp;simp at h;obtain ⟨q,hq⟩:=List.isPrefixOf_iff_prefix.1 hp;subst hq;simp at h;rw [h]
 ·simp at h
theorem dec_dd (n:Nat):dec n=Pf n:=by
 induction n using Qn with
 | _ n ih =>
   by_cases h:n<10
   ·rw [vQ h,Pf,dif_pos h];rfl
   ·rw [vc h,Pf,dif_neg h,ih (n / 10) (Q9 (by omega) (by omega))];rfl
theorem specNum_text {m:Bs} {v k:Nat} (h:jF m=some (v,k)):m=dec v++m.drop k:=by
 obtain ⟨h1,h2,h3,h4⟩:=dV h;have hd:dec v=qD m:=by
  rw [dec_dd,h2];exact dm _ _ rfl h1 (yr m) h4
 obtain ⟨q,hq⟩:=y_ m;rw [hd,h3]
 conv=>lhs;rw [<- hq]
 conv=>rhs;rw [<- hq]
 have:qD (qD m++q)=qD m:=by rw [hq]
 rw [this,R8]
theorem pi {rd:RdS} (ih:∀ hand l b r,rd hand l=some (b,r)->l=kC b++r):∀ (hs:List (List Ty)) (l:Bs) (ps:List Bd) (r:Bs),zF rd hs l=some (ps,r)->l=kz ps++r
 | [],l,ps,r,h=>by simp [zF] at h;obtain ⟨rfl,rfl⟩:=h;simp [kz]
 | a::hs,l,ps,r,hx=>by
   simp only [zF,qB,Ow,N0,Prod.exists] at hx;obtain ⟨b,l1,⟨l0,h0,h1⟩,bs,l2,h2,h3⟩:=hx;simp at h3;obtain ⟨rfl,rfl⟩:=h3;rw [vP h0,ih _ _ _ _ h1,pi ih hs l1 bs l2 h2];simp [kz]
theorem rdN_canon (e:Nat):∀ (hand:List Ty) (l:Bs) (b:Bd) (r:Bs),rdN e hand l=some (b,r)->l=kC b++r:=by
 induction e with
 | zero=>intro hand l b r h;simp [rdN] at h
 | succ e ih =>
   intro hand l b r h;cases l with
   | nil=>simp [rdN] at h
   | cons c m =>
     simp only [rdN] at h;split at h
     ·simp at h;obtain ⟨rfl,rfl⟩:=h;simp [kC]
     ·split at h
      ·simp at h
      ·rename_i tE;have tE:c=40:=by simpa using tE
       subst tE;split at h
       ·simp at h
       ·rename_i v k hn;split at h
        ·simp at h
        ·simp only [Ow,N0,Prod.exists] at h;obtain ⟨ps,l1,h1,l2,h2,b',h3,h4⟩:=h;simp at h4;obtain ⟨rfl,rfl⟩:=h4;obtain ⟨ss,y,no,rfl,rfl⟩:=nI h3;rw [eU]
         conv=>lhs;rw [specNum_text hn,pi ih _ _ _ _ h1,vP h2]
         simp
theorem gU {s text:Bs} {b:Bd} (h:kE s text=some b):(zR s).2=true/\rdN 101 (zR s).1.args text=some (b,[])/\zU b<=200:=by
 unfold kE at h;split at h
 ·simp at h
 ·rename_i h0;split at h
  ·simp at h
  ·rename_i b' rest hq;split at h
   ·rename_i hc;simp at h;subst h;obtain ⟨rfl,h2⟩:=hc;exact ⟨by simpa using (not_or.1 h0).1,hq,h2⟩
   ·simp at h
structure fB (t:Ty) (b:Bd):Prop where
 atoms:zJ t<=15
 fit:qj t.args b
 wf:wfB b
 size:zU b<=200
 depth:kr b<=100
theorem gY {s text:Bs} {b:Bd} (h:kE s text=some b):fB (zR s).1 b/\text=kC b:=by
 obtain ⟨h1,h2,h3⟩:=gU h;have hw:=rdN_wf _ _ _ _ _ h2;refine ⟨⟨vV h1,rdN_fit _ h2,hw.1,h3,by have:=hw.2;omega⟩,?_⟩;have:=rdN_canon _ _ _ _ _ h2;rwa [OY] at this
theorem yY {t:Ty} {b:Bd} (h:fB t b):kE (zL t) (kC b)=some b:=by
 rw [mD h.atoms h.fit h.wf h.size,if_pos h.depth]
theorem rdK_canon (d:Nat):∀ (l:Bs) (t:Ty) (r:Bs),rdK d l=some (t,r)->l=zL t++r:=by
 induction d with
 | zero =>
   intro l t r h;rcases kM [98] l with hc | ⟨r',hc⟩
   ·rw [xW hc] at h;simp at h
   ·rw [xO hc] at h;simp at h;obtain ⟨rfl,rfl⟩:=h;rw [yI];exact vP hc.out
 | succ d ih =>
   intro l t r h;rcases kM [98] l with hc | ⟨r',hc⟩
   ·rw [ju hc] at h;simp only [Ow,N0,Prod.exists] at h;obtain ⟨r1,h1,a,r2,h2,r3,h3,b,r4,h4,r5,h5,h6⟩:=h;simp at h6;obtain ⟨rfl,rfl⟩:=h6;cases b with
    | mk bs =>
    rw [z9,um,vP h1,ih _ _ _ h2,vP h3,ih _ _ _ h4,vP h5];simp [Ty.args]
   ·rw [xO hc] at h;simp at h;obtain ⟨rfl,rfl⟩:=h;rw [yI];exact vP hc.out
theorem xb {l:Bs} (h:(zR l).2=true):l=zL (zR l).1/\zJ (zR l).1<=15:=by
 refine ⟨?_,vV h⟩;unfold zR at h ⊢;split at h
 ·simp at h
 ·rename_i hl;rw [if_neg hl];cases hq:rdS 21 l with
  | none=>rw [hq] at h;simp at h
  | some x =>
    obtain ⟨t,rest⟩:=x;rw [hq] at h;simp at h;obtain ⟨h1,h2⟩:=h;have hq':rdK 20 l=some (t,rest):=hq;have hr:=rdK_canon _ _ _ _ hq';simp only;have h3:rest=[]:=by simpa using h1
    rw [h3,OY] at hr;exact hr
mutual
def wfM:Mn->Prop
 | .op _ _=>True
 | .bd _ b e=>wfB b/\wS e
def wS:List Mn->Prop
 | []=>True
 | m::ms=>wfM m/\wS ms
end
theorem jp:∀ (xs ys:List Mn),wS xs->wS ys->wS (xs++ys)
 | [],ys,_,h=>h
 | x::xs,ys,h,k=>by rw [wS] at h;exact ⟨h.1,jp xs ys h.2 k⟩
theorem wfMs_at:∀ (xs:List Mn),wS xs->∀ (k:Nat) (m:Mn),xs[k]? = some m->wfM m
 | [],_,k,b,h=>by simp at h
 | x::xs,hw,k,b,h=>by
   rw [wS] at hw;cases k with
   | zero=>simp at h;subst h;exact hw.1
   | succ k=>exact wfMs_at xs hw.2 k b (by simpa using h)
theorem jz:∀ (ts:List Ty) (n:Nat),wS (opens n ts)
 | [],n=>trivial
 | t::ts,n=>⟨trivial,jz ts (n+1)⟩
theorem wR {env:List Mn} (he:wS env):∀ (ts:List Ty) (ss:List Bd),vl ss->wS (owns env ts ss)
 | [],ss,_=>by rw [owns];· trivial
               ·intros;contradiction
 | t::ts,[],_=>by rw [owns];· trivial
                  ·intros;contradiction
 | t::ts,s::ss,h=>by
   rw [vl] at h;rw [owns];exact ⟨⟨h.1,he⟩,wR he ts ss h.2⟩
def wfG (f:Gf):Prop:=wfB f.yes/\wfB f.no/\wS f.env
theorem evSubs_wf {d n:Nat} {env:List Mn} (he:wS env) (ih:∀ (l:Nat) (b:Bd) (env:List Mn) (n:Nat) (st:List Gf) (out:Bd) (l':Nat),wfB b->wS env->(∀ f∈st,wfG f)->ev d l b env n st=some (out,l')->wfB out) :
 ∀ (ts:List Ty) (ss:List Bd) (l:Nat) (outs:List Bd) (l':Nat),vl ss->kV (ev d) env n l ts ss=some (outs,l')->vl outs
 | [],ss,l,outs,l',_,h=>by simp [kV] at h;obtain ⟨rfl,_⟩:=h;trivial
 | t::ts,[],l,outs,l',_,h=>by simp [kV] at h;obtain ⟨rfl,_⟩:=h;trivial
 | t::ts,s::ss,l,outs,l',hs,h=>by
   rw [vl] at hs;simp only [kV,Ow,N0,Prod.exists] at h;obtain ⟨x,l1,h1,xs,l2,h2,h3⟩:=h;simp at h3;obtain ⟨rfl,rfl⟩:=h3;exact ⟨ih _ _ _ _ _ _ _ hs.1 (jp _ _ he (jz _ _)) (by simp) h1,evSubs_wf he ih ts ss l1 xs l2 hs.2 h2⟩
theorem ev_wf (d:Nat):∀ (l:Nat) (b:Bd) (env:List Mn) (n:Nat) (st:List Gf) (out:Bd) (l':Nat),wfB b->wS env->(∀ f∈st,wfG f)->ev d l b env n st=some (out,l')->wfB out:=by
 induction d with
 | zero=>intro l b env n st out l' _ _ _ h;simp [ev] at h
 | succ d ih =>
   intro l b env n st out l' hb he hs h;rw [ev.eq_def] at h;cases l with
   | zero=>simp at h
   | succ l =>
     simp only at h;cases b with
     | leaf c =>
       simp only at h;split at h
       ·simp at h;obtain ⟨rfl,_⟩:=h;exact hb
       ·cases st with
        | nil=>simp at h;obtain ⟨rfl,_⟩:=h;exact hb
        | cons f st' =>
          obtain ⟨k1,k2,k3⟩:=hs f (by simp);refine ih _ _ _ _ _ _ _ ?_ k3 (fun g hg=>hs g (by simp [hg])) h;split
          ·exact k1
          ·exact k2
     | ask v ss y no =>
       rw [wfB] at hb;simp only at h;cases hv:env[v]? with
       | none=>rw [hv] at h;simp at h
       | some m =>
         rw [hv] at h;have hm:=wfMs_at _ he _ _ hv;cases m with
         | bd t b' e =>
           rw [wfM] at hm;refine ih _ _ _ _ _ _ _ hm.1 (jp _ _ hm.2 (wR he _ _ hb.1)) (fun f hf=>?_) h;rcases OX.1 hf with rfl | hf
           ·exact ⟨hb.2.1,hb.2.2,he⟩
           ·exact hs f hf
         | op o t =>
           simp only [Ow,N0,Prod.exists] at h;obtain ⟨xs,l1,h1,x,l2,h2,z,l3,h3,h4⟩:=h;simp at h4;obtain ⟨rfl,_⟩:=h4;exact ⟨evSubs_wf he ih _ _ _ _ _ hb.1 h1,ih _ _ _ _ _ _ _ hb.2.1 he hs h2,ih _ _ _ _ _ _ _ hb.2.2 he hs h3⟩
def j_ (b:Bd) (env:List Mn) (n:Nat):Option Bd:=match ev 20000 20000 b env n [] with
 | some (out,_)=>if zU out<=200/\kr out<=100 then some out else none
 | none=>none
def yR (b:Bd) (env:List Mn) (n:Nat):Option Bd:=(evN 20000 200 20000 b env n []).map (·.1)
theorem writes_eq (b:Bd) (env:List Mn) (n:Nat):yR b env n=match ev 20000 20000 b env n [] with
 | some (out,_)=>if zU out<=200 then some out else none
 | none=>none:=by
 unfold yR;rw [evN_eq];cases ev 20000 20000 b env n [] with
 | none=>rfl
 | some x =>
   obtain ⟨out,l⟩:=x;simp only [pu];split <;> rfl
theorem cC {a:Ty} {rest:List Ty} {t:Ty} (h:t.args=a::rest):zJ t=1+zJ a+zJ (.mk rest):=by
 cases t with
 | mk ts=>simp only [Ty.args] at h;subst h;exact jd a rest
inductive Tr where
 | am (a:Bs)
 | ls (ps:List Tr)
mutual
def zx:Tr->Bs
 | .am a=>a
 | .ls ps=>40::jl ps
def jl:List Tr->Bs
 | []=>[41]
 | p::ps=>zx p++qY ps
def qY:List Tr->Bs
 | []=>[41]
 | p::ps=>32::(zx p++qY ps)
end
mutual
def qr:Tr->Prop
 | .am a=>a≠[]/\∀ c∈a,sep c=false
 | .ls ps=>ps≠[]/\qQ ps
def qQ:List Tr->Prop
 | []=>True
 | p::ps=>qr p/\qQ ps
end
mutual
def jT:Tr->Nat
 | .am _=>0
 | .ls ps=>1+qu ps
def qu:List Tr->Nat
 | []=>0
 | p::ps=>max (jT p) (qu ps)
end
mutual
def qS:Tr->Nat
 | .am _=>1
 | .ls ps=>kT ps
def kT:List Tr->Nat
 | []=>0
 | p::ps=>qS p+kT ps
end
def xX (rd:Bs->Option (Tr×Bs)):Nat->Bs->Option (List Tr×Bs)
 | 0,_=>none
 | n+1,l=>(rd l).bind fun x=>match x.2 with
   | []=>none
   | c::r=>if c=41 then some ([x.1],r) else if c=32 then (xX rd n r).map fun y=>(x.1::y.1,y.2) else none
def vH:Nat->Bs->Option (Tr×Bs)
 | 0,_=>none
 | d+1,l=>match l with
   | []=>none
   | c::r=>if c=40 then (xX (vH d) (r.length+1) r).map fun y=>(.ls y.1,y.2) else if zN l=[] then none else some (.am (zN l),zD l)
theorem bG (d:Nat) (r:Bs):vH (d+1) (40::r)=(xX (vH d) (r.length+1) r).map fun y=>(.ls y.1,y.2):=by rw [vH];simp
theorem bH (d:Nat) (c:UInt8) (r:Bs) (h:c≠40):vH (d+1) (c::r)=if zN (c::r)=[] then none else some (.am (zN (c::r)),zD (c::r)):=by rw [vH];simp [h]
theorem wordOf_pos {l:Bs} (h:zN l≠[]):(zD l).length<l.length:=by
 have:=congrArg List.length (v8 l);rw [Ov] at this
 have:0<(zN l).length:=by cases hw:zN l with
  | nil=>exact absurd hw h
  | cons c r=>simp
 omega
def Shrinks (rd:Bs->Option (Tr×Bs)):Prop:=∀ l t r,rd l=some (t,r)->r.length<l.length
theorem cY {rd:Bs->Option (Tr×Bs)} (h:Shrinks rd):∀ (n:Nat) (l:Bs) (ps:List Tr) (r:Bs),xX rd n l=some (ps,r)->r.length<l.length
 | 0,l,ps,r,k=>by simp [xX] at k
 | n+1,l,ps,r,k=>by
   rw [xX,N0] at k;obtain ⟨⟨t,r1⟩,k1,k2⟩:=k;have h1:=h _ _ _ k1;cases r1 with
   | nil=>simp at k2
   | cons c r1 =>
     simp only [OD] at h1;simp only at k2;split at k2
     ·simp at k2;obtain ⟨_,rfl⟩:=k2;omega
     ·split at k2
      ·rw [OA] at k2;obtain ⟨⟨qs,r2⟩,k3,k4⟩:=k2;simp at k4;obtain ⟨_,rfl⟩:=k4;have:=cY h n _ _ _ k3;omega
      ·simp at k2
theorem yW:∀ d,Shrinks (vH d)
 | 0=>fun l t r h=>by simp [vH] at h
 | d+1=>fun l t r h=>by
   cases l with
   | nil=>simp [vH] at h
   | cons c l =>
     by_cases hc:c=40
     ·subst hc;rw [bG,OA] at h;obtain ⟨⟨ps,r1⟩,h1,h2⟩:=h;simp at h2;obtain ⟨_,rfl⟩:=h2;have:=cY (yW d) _ _ _ _ h1;simp;omega
     ·rw [bH d c l hc] at h;split at h
      ·simp at h
      ·rename_i hw;simp at h;obtain ⟨_,rfl⟩:=h;exact wordOf_pos hw
theorem mz {rd:Bs->Option (Tr×Bs)} (h:Shrinks rd):∀ (n m:Nat) (l:Bs),l.length<n->l.length<m->xX rd n l=xX rd m l
 | 0,_,_,k,_=>by omega
 | _+1,0,_,_,k=>by omega
 | n+1,m+1,l,k,k'=>by
   rw [xX,xX];cases hq:rd l with
   | none=>rfl
   | some x =>
     obtain ⟨t,r1⟩:=x;have h1:=h _ _ _ hq;simp only [Lx];cases r1 with
     | nil=>rfl
     | cons c r1 =>
       simp only [OD] at h1;simp only;rw [mz h n m r1 (by omega) (by omega)]
theorem tail_start (ps:List Tr) (r:Bs):jS (qY ps++r):=by
 cases ps with
 | nil=>rw [qY];exact .inr ⟨41,r,rfl,by decide⟩
 | cons p ps=>rw [qY];exact .inr ⟨32,_,rfl,by decide⟩
mutual
theorem bP:∀ (t:Tr) (d:Nat) (r:Bs),qr t->jT t<d->jS r->vH d (zx t++r)=some (t,r)
 | .am a,d,r,ho,hd,hr=>by
   rw [qr] at ho;obtain ⟨d,rfl⟩:∃ k,d=k+1:=⟨d-1,by omega⟩;obtain ⟨h1,h2⟩:=hG ho.2 hr;rw [zx];cases a with
   | nil=>exact absurd rfl ho.1
   | cons c a =>
     have hc:c≠40:=by rintro rfl;have:=ho.2 40 (by simp);simp [sep] at this
     rw [ON] at *;rw [bH d c _ hc,h1,h2,if_neg (by simp)]
 | .ls ps,d,r,ho,hd,hr=>by
   rw [qr] at ho;rw [jT] at hd;obtain ⟨d,rfl⟩:∃ k,d=k+1:=⟨d-1,by omega⟩;rw [zx,ON,bG];have:=mO ps d r _ ho.2 ho.1 (by omega) (S5 _);rw [this];rfl
theorem mO:∀ (ps:List Tr) (d:Nat) (r:Bs) (n:Nat),qQ ps->ps≠[]->qu ps<d->(jl ps++r).length<n->xX (vH d) n (jl ps++r)=some (ps,r)
 | [],d,r,n,_,hne,_,_=>absurd rfl hne
 | p::ps,d,r,n,ho,_,hd,hn=>by
   rw [qQ] at ho;rw [qu] at hd;obtain ⟨n,rfl⟩:∃ k,n=k+1:=⟨n-1,by omega⟩;have h1:=bP p d (qY ps++r) ho.1 (by omega) (tail_start ps r);rw [jl,Pi] at *;rw [xX,h1,Lx];have hl:=yW d _ _ _ h1;cases ps with
   | nil=>rw [qY];simp
   | cons q qs =>
     rw [qY] at *;simp only [ON];rw [if_neg (by decide),if_pos trivial];have e:jl (q::qs)=zx q++qY qs:=by rw [jl]
     have:=mO (q::qs) d r n ho.2 (by simp) (by omega) (by
      rw [e];simp only [ON,OD,Ov] at hn hl ⊢;omega)
     rw [e] at this;rw [this];rfl
end
theorem fR {d:Nat} (ih:∀ (l:Bs) (t:Tr) (r:Bs),vH d l=some (t,r)->l=zx t++r/\qr t/\jT t<d/\(∀ a,t=.am a->jS r)) :
 ∀ (n:Nat) (l:Bs) (ps:List Tr) (r:Bs),xX (vH d) n l=some (ps,r)->l=jl ps++r/\qQ ps/\ps≠[]/\qu ps<d
 | 0,l,ps,r,k=>by simp [xX] at k
 | n+1,l,ps,r,k=>by
   rw [xX,N0] at k;obtain ⟨⟨t,r1⟩,k1,k2⟩:=k;obtain ⟨e1,o1,d1,_⟩:=ih _ _ _ k1;cases r1 with
   | nil=>simp at k2
   | cons c r1 =>
     simp only at k2;split at k2
     ·rename_i hc;simp at k2;obtain ⟨rfl,rfl⟩:=k2;subst hc;refine ⟨?_,?_,by simp,?_⟩
      ·rw [jl,qY,e1];simp
      ·rw [qQ,qQ];exact ⟨o1,trivial⟩
      ·rw [qu,qu];omega
     ·split at k2
      ·rename_i hc;rw [OA] at k2;obtain ⟨⟨qs,r2⟩,k3,k4⟩:=k2;simp at k4;obtain ⟨rfl,rfl⟩:=k4;obtain ⟨e2,o2,n2,d2⟩:=fR ih n _ _ _ k3;subst hc;refine ⟨?_,?_,by simp,?_⟩
       ·cases qs with
        | nil=>exact absurd rfl n2
        | cons q qs=>rw [jl] at e2;rw [jl,qY,e1,e2];simp
       ·rw [qQ];exact ⟨o1,o2⟩
       ·rw [qu];omega
      ·simp at k2
theorem xo:∀ (d:Nat) (l:Bs) (t:Tr) (r:Bs),vH d l=some (t,r)->l=zx t++r/\qr t/\jT t<d/\(∀ a,t=.am a->jS r)
 | 0,l,t,r,h=>by simp [vH] at h
 | d+1,l,t,r,h=>by
   cases l with
   | nil=>simp [vH] at h
   | cons c l =>
     by_cases hc:c=40
     ·subst hc;rw [bG,OA] at h;obtain ⟨⟨ps,r1⟩,h1,h2⟩:=h;simp at h2;obtain ⟨rfl,rfl⟩:=h2;obtain ⟨e1,o1,n1,d1⟩:=fR (xo d) _ _ _ _ h1;refine ⟨by rw [zx,e1];rfl,by rw [qr];exact ⟨n1,o1⟩,by rw [jT];omega,fun a e=>by simp at e⟩
     ·rw [bH d c l hc] at h;split at h
      ·simp at h
      ·rename_i hw;simp at h;obtain ⟨rfl,rfl⟩:=h;refine ⟨by rw [zx];exact v8 _,?_,by rw [jT];omega,fun a _=>gZ _⟩;rw [qr];refine ⟨hw,fun x hx=>?_⟩;have key:∀ (m:Bs),∀ y∈m.takeWhile (fun c=>!sep c),sep y=false:=by
        intro m
        induction m with
        | nil=>intro y hy;simp at hy
        | cons z m ih =>
          intro y hy;rw [QG] at hy;split at hy
          ·rename_i hz;rcases OX.1 hy with rfl | hy
           ·simpa using hz
           ·exact ih y hy
          ·simp at hy
       exact key _ x hx
def qL (s:Bs):Bool:=match s with
 | []=>false
 | c::r=>decide (r.length<=2) && (120<=c && c<=122) && r.all dig
def jo:Bs:=[108,97,109]
def vo:Bs:=[97,112,112]
def ifW:Bs:=[105,102]
def jP (a:Bs):Bool:=a == [116] || a == [102] || a == [117]
def qo:List Tr->Bs
 | .am a::_=>a
 | _=>[]
def qE:Tr->Bs
 | .am a=>a
 | .ls _=>[]
def qy:Tr->Bool
 | .am a=>jP a || qL a
 | .ls [h,a,b]=>qo [h] == vo && qy a && qy b
 | .ls [h,a,b,c]=>(qo [h] == jo && (qL (qE a) && (zR (zx b)).2 && qy c)) || (qo [h] == ifW && (qy a && qy b && qy c))
 | .ls _=>false
def qg (l:Bs):Option Tr:=if 1000<l.length then none else match vH 101 l with
 | some (t,[])=>if qy t && decide (qS t<=60) then some t else none
 | _=>none
inductive Tm where
 | nm (x:Bs)
 | wd (w:Bs)
 | lam (x:Bs) (k:Ty) (t:Tm)
 | app (m n:Tm)
 | ite (l m n:Tm)
def zS:Tm->Nat
 | .nm _=>1
 | .wd _=>1
 | .lam _ k t=>2+zJ k+zS t
 | .app m n=>1+zS m+zS n
 | .ite l m n=>1+zS l+zS m+zS n
def trT:Ty->Tr
 | .mk ts=>trTs ts
where trTs:List Ty->Tr
 | []=>.am [98]
 | t::ts=>.ls [.am [62],trT t,trTs ts]
def kK:Tm->Tr
 | .nm x=>.am x
 | .wd w=>.am w
 | .lam x k t=>.ls [.am jo,.am x,trT k,kK t]
 | .app m n=>.ls [.am vo,kK m,kK n]
 | .ite l m n=>.ls [.am ifW,kK l,kK m,kK n]
def xG:Tm->Prop
 | .nm x=>qL x=true
 | .wd w=>jP w=true
 | .lam x _ t=>qL x=true/\xG t
 | .app m n=>xG m/\xG n
 | .ite l m n=>xG l/\xG m/\xG n
def z8:Tm->Bool
 | .nm _=>true
 | .wd _=>true
 | .lam _ k t=>decide (zJ k<=15) && z8 t
 | .app m n=>z8 m && z8 n
 | .ite l m n=>z8 l && z8 m && z8 n
def jx:Tm->Nat
 | .nm _=>0
 | .wd _=>0
 | .lam _ _ t=>1+jx t
 | .app m n=>1+max (jx m) (jx n)
 | .ite l m n=>1+max (jx l) (max (jx m) (jx n))
def jY:Nat->Bs->Option (Tm×Bs)
 | d,l=>match cut [40] l with
   | none=>if qL (zN l) then some (.nm (zN l),zD l) else if jP (zN l) then some (.wd (zN l),zD l) else none
   | some l1=>match d with
     | 0=>none
     | d+1 =>
       if zN l1=jo then (cut [32] (zD l1)).bind fun l3=>if qL (zN l3) then (cut [32] (zD l3)).bind fun l4=>(rdK 60 l4).bind fun k=>(cut [32] k.2).bind fun l6=>(jY d l6).bind fun t=>(cut [41] t.2).map fun l8=>(.lam (zN l3) k.1 t.1,l8) else none
       else if zN l1=vo then (cut [32] (zD l1)).bind fun l3=>(jY d l3).bind fun m=>(cut [32] m.2).bind fun l4=>(jY d l4).bind fun n=>(cut [41] n.2).map fun l5=>(.app m.1 n.1,l5)
       else if zN l1=ifW then (cut [32] (zD l1)).bind fun l3=>(jY d l3).bind fun x=>(cut [32] x.2).bind fun l4=>(jY d l4).bind fun m=>(cut [32] m.2).bind fun l5=>(jY d l5).bind fun n=>(cut [41] n.2).map fun l6=>(.ite x.1 m.1 n.1,l6)
       else none
def qC (l:Bs):Option Tm:=match jY 60 l with
 | some (t,[])=>if zS t<=60 then some t else none
 | _=>none
theorem xB {x:Bs} (h:qL x=true):x≠[]/\∀ c∈x,sep c=false:=by
 cases x with
 | nil=>simp [qL] at h
 | cons c r =>
   simp only [qL,OP,decide_eq_true_eq,List.all_eq_true] at h;obtain ⟨⟨_,h1,h2⟩,h3⟩:=h;refine ⟨by simp,fun y hy=>?_⟩;rcases OX.1 hy with rfl | hy
   ·rw [Bool.eq_false_iff];intro hs;simp only [sep,PX,beq_iff_eq] at hs;rcases hs with (rfl | rfl) | rfl <;> revert h1 <;> decide
   ·exact mK (h3 y hy)
theorem wl {x:Bs} (h:jP x=true):x≠[]/\∀ c∈x,sep c=false:=by
 simp only [jP,PX,beq_iff_eq] at h;rcases h with (rfl | rfl) | rfl <;> exact ⟨by simp,by intro c hc;simp at hc;subst hc;decide⟩
theorem eT {x:Bs} (h:jP x=true):qL x=false:=by
 simp only [jP,PX,beq_iff_eq] at h;rcases h with (rfl | rfl) | rfl <;> decide
mutual
theorem vJ:∀ k:Ty,zx (trT k)=zL k
 | .mk ts=>by rw [trT,textTr_Ts ts]
theorem textTr_Ts:∀ ts:List Ty,zx (trT.trTs ts)=zL (.mk ts)
 | []=>by rw [trT.trTs,zx,yI]
 | t::ts=>by rw [trT.trTs,zx,jl,qY,qY,qY,zx,vJ t,textTr_Ts ts,um];simp
end
mutual
theorem gM:∀ k:Ty,qr (trT k)
 | .mk ts=>by rw [trT];exact okTr_Ts ts
theorem okTr_Ts:∀ ts:List Ty,qr (trT.trTs ts)
 | []=>by rw [trT.trTs,qr];exact ⟨by simp,by intro c hc;simp at hc;subst hc;decide⟩
 | t::ts=>by
   rw [trT.trTs,qr,qQ,qQ,qQ,qQ];exact ⟨by simp,by rw [qr];exact ⟨by simp,by intro c hc;simp at hc;subst hc;decide⟩,gM t,okTr_Ts ts,trivial⟩
end
mutual
theorem wO:∀ k:Ty,qS (trT k)=zJ k
 | .mk ts=>by rw [trT,sizeTr_Ts ts]
theorem sizeTr_Ts:∀ ts:List Ty,qS (trT.trTs ts)=zJ (.mk ts)
 | []=>by rw [trT.trTs,qS,zJ,zt]
 | t::ts=>by rw [trT.trTs,qS,kT,kT,kT,kT,qS,wO t,sizeTr_Ts ts,jd];omega
end
mutual
theorem deepTr_T:∀ k:Ty,jT (trT k)<zJ k
 | .mk ts=>by rw [trT];exact deepTr_Ts ts
theorem deepTr_Ts:∀ ts:List Ty,jT (trT.trTs ts)<zJ (.mk ts)
 | []=>by rw [trT.trTs,jT,zJ];omega
 | t::ts=>by
   have h1:=deepTr_T t;have h2:=deepTr_Ts ts;rw [trT.trTs,jT,qu,qu,qu,qu,jT,jd];omega
end
theorem vi:∀ t:Tm,xG t->qr (kK t)
 | .nm x,h=>by rw [kK,qr];exact xB h
 | .wd w,h=>by rw [kK,qr];exact wl h
 | .lam x k t,h=>by
   rw [kK,qr,qQ,qQ,qQ,qQ,qQ];exact ⟨by simp,by rw [qr];exact ⟨by decide,by decide⟩,by rw [qr];exact xB h.1,gM k,vi t h.2,trivial⟩
 | .app m n,h=>by
   rw [kK,qr,qQ,qQ,qQ,qQ];exact ⟨by simp,by rw [qr];exact ⟨by decide,by decide⟩,vi m h.1,vi n h.2,trivial⟩
 | .ite l m n,h=>by
   rw [kK,qr,qQ,qQ,qQ,qQ,qQ];exact ⟨by simp,by rw [qr];exact ⟨by decide,by decide⟩,vi l h.1,vi m h.2.1,vi n h.2.2,trivial⟩
theorem un:∀ t:Tm,qS (kK t)=zS t
 | .nm x=>by rw [kK,qS,zS]
 | .wd w=>by rw [kK,qS,zS]
 | .lam x k t=>by rw [kK,qS,kT,kT,kT,kT,kT,qS,qS,wO,un t,zS];omega
 | .app m n=>by rw [kK,qS,kT,kT,kT,kT,qS,un m,un n,zS];omega
 | .ite l m n=>by rw [kK,qS,kT,kT,kT,kT,kT,qS,un l,un m,un n,zS];omega
theorem ye:∀ t:Tm,jT (kK t)<zS t
 | .nm x=>by rw [kK,jT,zS];omega
 | .wd w=>by rw [kK,jT,zS];omega
 | .lam x k t=>by
   have h1:=deepTr_T k;have h2:=ye t;rw [kK,jT,qu,qu,qu,qu,qu,jT,jT,zS];omega
 | .app m n=>by
   have h1:=ye m;have h2:=ye n;rw [kK,jT,qu,qu,qu,qu,jT,zS];omega
 | .ite l m n=>by
   have h0:=ye l;have h1:=ye m;have h2:=ye n;rw [kK,jT,qu,qu,qu,qu,qu,jT,zS];omega
theorem uU:∀ t:Tm,jx t<zS t
 | .nm x=>by rw [jx,zS];omega
 | .wd w=>by rw [jx,zS];omega
 | .lam x k t=>by have:=uU t;rw [jx,zS];omega
 | .app m n=>by have:=uU m;have:=uU n;rw [jx,zS];omega
 | .ite l m n=>by have:=uU l;have:=uU m;have:=uU n;rw [jx,zS];omega
def zO (t:Tm):Bs:=zx (kK t)
theorem yT (x:Bs) (k:Ty) (t:Tm):zO (.lam x k t)=40::(jo++32::(x++32::(zL k++32::(zO t++[41])))):=by
 unfold zO;rw [kK,zx,jl,qY,qY,qY,qY,zx,zx,vJ]
theorem yL (m n:Tm):zO (.app m n)=40::(vo++32::(zO m++32::(zO n++[41]))):=by
 unfold zO;rw [kK,zx,jl,qY,qY,qY,zx]
theorem yA (l m n:Tm):zO (.ite l m n)=40::(ifW++32::(zO l++32::(zO m++32::(zO n++[41])))):=by
 unfold zO;rw [kK,zx,jl,qY,qY,qY,qY,zx]
theorem cut_no {c:UInt8} {l:Bs} (h:∀ r,l≠c::r):cut [c] l=none:=by
 unfold cut;cases l with
 | nil=>rfl
 | cons d r =>
   have:d≠c:=by rintro rfl;exact h r rfl
   simp [List.isPrefixOf,this.symm]
theorem yz (c:UInt8) (r:Bs) (h:sep c=true):jS (c::r):=.inr ⟨c,r,rfl,h⟩
theorem rdTm_word {d:Nat} {w r:Bs} (hw:w≠[]/\∀ c∈w,sep c=false) (hr:jS r):jY d (w++r)=if qL w then some (.nm w,r) else if jP w then some (.wd w,r) else none:=by
 obtain ⟨h1,h2⟩:=hG hw.2 hr;have hc:cut [40] (w++r)=none:=cut_no fun r' e=>by
  cases w with
  | nil=>exact hw.1 rfl
  | cons c w =>
    simp at e;have:=hw.2 c (by simp);rw [e.1] at this;simp [sep] at this
 rw [jY.eq_def];simp only [hc,h1,h2]
theorem vK {d:Nat} {l:Bs}:jY (d+1) (40::l)=(
        if zN l=jo then (cut [32] (zD l)).bind fun l3=>if qL (zN l3) then (cut [32] (zD l3)).bind fun l4=>(rdK 60 l4).bind fun k=>(cut [32] k.2).bind fun l6=>(jY d l6).bind fun t=>(cut [41] t.2).map fun l8=>(.lam (zN l3) k.1 t.1,l8) else none
        else if zN l=vo then (cut [32] (zD l)).bind fun l3=>(jY d l3).bind fun m=>(cut [32] m.2).bind fun l4=>(jY d l4).bind fun n=>(cut [41] n.2).map fun l5=>(.app m.1 n.1,l5)
        else if zN l=ifW then (cut [32] (zD l)).bind fun l3=>(jY d l3).bind fun x=>(cut [32] x.2).bind fun l4=>(jY d l4).bind fun m=>(cut [32] m.2).bind fun l5=>(jY d l5).bind fun n=>(cut [41] n.2).map fun l6=>(.ite x.1 m.1 n.1,l6)
        else none):=by
 rw [jY.eq_def];simp only [yD]
theorem rdTm_zero {l:Bs}:jY 0 (40::l)=none:=by
 rw [jY.eq_def];simp only [yD]
theorem word_w {w:Bs} (hw:∀ c∈w,sep c=false) {c:UInt8} {r:Bs} (h:sep c=true):zN (w++c::r)=w/\zD (w++c::r)=c::r:=hG hw (yz c r h)
theorem yu:∀ (t:Tm) (d:Nat) (r:Bs),xG t->jx t<=d->zS t<=100->jS r->jY d (zO t++r)=some (t,r)
 | .nm x,d,r,ho,_,_,hr=>by
   have e:zO (.nm x)=x:=by unfold zO;rw [kK,zx]
   rw [e,rdTm_word (xB ho) hr,if_pos (show qL x=true from ho)]
 | .wd w,d,r,ho,_,_,hr=>by
   have e:zO (.wd w)=w:=by unfold zO;rw [kK,zx]
   rw [e,rdTm_word (wl ho) hr,eT ho,if_neg (by simp),if_pos (show jP w=true from ho)]
 | .lam x k t,d,r,ho,hd,hs,hr=>by
   rw [jx] at hd;rw [zS] at hs;obtain ⟨d,rfl⟩:∃ j,d=j+1:=⟨d-1,by omega⟩;have n1:=xB ho.1;have e:zO (.lam x k t)++r=40::(jo++32::(x++32::(zL k++32::(zO t++41::r)))):=by rw [yT];simp
   obtain ⟨a1,a2⟩:=word_w (w:=jo) (by decide) (c:=32) (r:=x++32::(zL k++32::(zO t++41::r))) (by decide);obtain ⟨b1,b2⟩:=word_w n1.2 (c:=32) (r:=zL k++32::(zO t++41::r)) (by decide);rw [e,vK,a1,a2,if_pos rfl,yD];simp only [Lx];rw [b1,b2,if_pos ho.1,yD];simp only [Lx];rw [gD 60 k _ (by omega)];simp only [Lx,yD];rw [yu t d (41::r) ho.2 (by omega) (by omega) (yz _ _ (by decide))];simp only [Lx,yD,Py]
 | .app m n,d,r,ho,hd,hs,hr=>by
   rw [jx] at hd;rw [zS] at hs;obtain ⟨d,rfl⟩:∃ j,d=j+1:=⟨d-1,by omega⟩;have e:zO (.app m n)++r=40::(vo++32::(zO m++32::(zO n++41::r))):=by rw [yL];simp
   obtain ⟨a1,a2⟩:=word_w (w:=vo) (by decide) (c:=32) (r:=zO m++32::(zO n++41::r)) (by decide);rw [e,vK,a1,a2,if_neg (by decide),if_pos rfl,yD];simp only [Lx];rw [yu m d _ ho.1 (by omega) (by omega) (yz _ _ (by decide))];simp only [Lx,yD];rw [yu n d _ ho.2 (by omega) (by omega) (yz _ _ (by decide))];simp only [Lx,yD,Py]
 | .ite l m n,d,r,ho,hd,hs,hr=>by
   rw [jx] at hd;rw [zS] at hs;obtain ⟨d,rfl⟩:∃ j,d=j+1:=⟨d-1,by omega⟩;have e:zO (.ite l m n)++r=40::(ifW++32::(zO l++32::(zO m++32::(zO n++41::r)))):=by rw [yA];simp
   obtain ⟨a1,a2⟩:=word_w (w:=ifW) (by decide) (c:=32) (r:=zO l++32::(zO m++32::(zO n++41::r))) (by decide);rw [e,vK,a1,a2,if_neg (by decide),if_neg (by decide),if_pos rfl,yD];simp only [Lx];rw [yu l d _ ho.1 (by omega) (by omega) (yz _ _ (by decide))];simp only [Lx,yD];rw [yu m d _ ho.2.1 (by omega) (by omega) (yz _ _ (by decide))];simp only [Lx,yD];rw [yu n d _ ho.2.2 (by omega) (by omega) (yz _ _ (by decide))];simp only [Lx,yD,Py]
theorem cN:∀ (d:Nat) (l:Bs) (t:Tm) (r:Bs),jY d l=some (t,r)->l=zO t++r/\xG t/\jx t<=d:=by
 intro d
 induction d with
 | zero =>
   intro l t r h;rw [jY.eq_def] at h;cases hc:cut [40] l with
   | none =>
     simp only [hc] at h;split at h
     ·rename_i hn;simp at h;obtain ⟨rfl,rfl⟩:=h;exact ⟨by unfold zO;rw [kK,zx];exact v8 l,hn,by rw [jx];omega⟩
     ·split at h
      ·rename_i hn;simp at h;obtain ⟨rfl,rfl⟩:=h;exact ⟨by unfold zO;rw [kK,zx];exact v8 l,hn,by rw [jx];omega⟩
      ·simp at h
   | some l1=>simp [hc] at h
 | succ d ih =>
   intro l t r h;cases hc:cut [40] l with
   | none =>
     rw [jY.eq_def] at h;simp only [hc] at h;split at h
     ·rename_i hn;simp at h;obtain ⟨rfl,rfl⟩:=h;exact ⟨by unfold zO;rw [kK,zx];exact v8 l,hn,by rw [jx];omega⟩
     ·split at h
      ·rename_i hn;simp at h;obtain ⟨rfl,rfl⟩:=h;exact ⟨by unfold zO;rw [kK,zx];exact v8 l,hn,by rw [jx];omega⟩
      ·simp at h
   | some l1 =>
     have e0:=vP hc;rw [e0] at h ⊢;rw [List.singleton_append] at h ⊢;rw [vK] at h;have ew:=v8 l1;split at h
     ·rename_i hw;rw [hw] at ew;simp only [N0] at h;obtain ⟨l3,c1,h⟩:=h;split at h
      ·rename_i hn;simp only [N0,OA] at h;obtain ⟨l4,c2,⟨k,l5⟩,hk,l6,c3,⟨t',l7⟩,ht,l8,c4,e⟩:=h;simp only [RL] at e;obtain ⟨rfl,rfl⟩:=e;obtain ⟨e1,o1,d1⟩:=ih _ _ _ ht;have e2:=rdK_canon _ _ _ _ hk;refine ⟨?_,⟨hn,o1⟩,by rw [jx];omega⟩;rw [yT];simp only at c3 c4
       conv=>lhs;rw [ew,vP c1,v8 l3,vP c2,e2,vP c3,e1,vP c4]
       simp
      ·simp at h
     ·split at h
      ·rename_i hw;rw [hw] at ew;simp only [N0,OA] at h;obtain ⟨l3,c1,⟨m,l4⟩,hm,l5,c2,⟨n,l6⟩,hn,l7,c3,e⟩:=h;simp only [RL] at e;obtain ⟨rfl,rfl⟩:=e;obtain ⟨e1,o1,d1⟩:=ih _ _ _ hm;obtain ⟨e2,o2,d2⟩:=ih _ _ _ hn;refine ⟨?_,⟨o1,o2⟩,by rw [jx];omega⟩;rw [yL];simp only at c2 c3
       conv=>lhs;rw [ew,vP c1,e1,vP c2,e2,vP c3]
       simp
      ·split at h
       ·rename_i hw;rw [hw] at ew;simp only [N0,OA] at h;obtain ⟨l3,c1,⟨x,l4⟩,hx,l5,c2,⟨m,l6⟩,hm,l7,c3,⟨n,l8⟩,hn,l9,c4,e⟩:=h;simp only [RL] at e;obtain ⟨rfl,rfl⟩:=e;obtain ⟨e0,o0,d0⟩:=ih _ _ _ hx;obtain ⟨e1,o1,d1⟩:=ih _ _ _ hm;obtain ⟨e2,o2,d2⟩:=ih _ _ _ hn;refine ⟨?_,⟨o0,o1,o2⟩,by rw [jx];omega⟩;rw [yA];simp only at c2 c3 c4
        conv=>lhs;rw [ew,vP c1,e0,vP c2,e1,vP c3,e2,vP c4]
        simp
       ·simp at h
theorem cE {a b:Tr} (ha:qr a) (hb:qr b) (h:zx a=zx b):a=b:=by
 have h1:=bP a (max (jT a) (jT b)+1) [] ha (by omega) (.inl rfl);have h2:=bP b (max (jT a) (jT b)+1) [] hb (by omega) (.inl rfl);rw [h,h2] at h1;exact (UI (Option.some.inj h1)).1.symm
theorem nV (h a b:Tr):qy (.ls [h,a,b])=(qo [h] == vo && qy a && qy b):=by rw [qy]
theorem ex (h a b c:Tr):qy (.ls [h,a,b,c])=((qo [h] == jo && (qL (qE a) && (zR (zx b)).2 && qy c)) || (qo [h] == ifW && (qy a && qy b && qy c))):=by rw [qy]
theorem head_at {h:Tr} {w:Bs} (hw:w≠[]) (e:qo [h]=w):h=.am w:=by
 cases h with
 | am a=>rw [qo] at e;rw [e]
 | ls ps=>exact absurd e.symm hw
theorem pE:∀ (n:Nat) (t:Tr),SizeOf.sizeOf t<n->qr t->qy t=true->∃ m:Tm,t=kK m/\xG m/\z8 m=true
 | 0,_,h,_,_=>by omega
 | n+1,.am a,_,ho,hi=>by
   rw [qy,PX] at hi;rcases hi with h | h
   ·exact ⟨.wd a,by rw [kK],h,by rw [z8]⟩
   ·exact ⟨.nm a,by rw [kK],h,by rw [z8]⟩
 | n+1,.ls [],_,_,hi=>by simp [qy] at hi
 | n+1,.ls [_],_,_,hi=>by simp [qy] at hi
 | n+1,.ls [_,_],_,_,hi=>by simp [qy] at hi
 | n+1,.ls [h,a,b],hs,ho,hi=>by
   rw [nV] at hi;simp only [OP,beq_iff_eq] at hi;obtain ⟨⟨e,h1⟩,h2⟩:=hi;rw [qr,qQ,qQ,qQ,qQ] at ho;obtain ⟨_,_,o1,o2,_⟩:=ho;obtain rfl:=head_at (by decide) e;simp only [Tr.ls.sizeOf_spec,R9] at hs;obtain ⟨m,rfl,q1,q2⟩:=pE n a (by omega) o1 h1;obtain ⟨k,rfl,r1,r2⟩:=pE n b (by omega) o2 h2;exact ⟨.app m k,by rw [kK],⟨q1,r1⟩,by rw [z8,q2,r2];rfl⟩
 | n+1,.ls [h,a,b,c],hs,ho,hi=>by
   rw [ex] at hi;simp only [PX,OP,beq_iff_eq] at hi;rw [qr,qQ,qQ,qQ,qQ,qQ] at ho;obtain ⟨_,_,o1,o2,o3,_⟩:=ho;simp only [Tr.ls.sizeOf_spec,R9] at hs;rcases hi with ⟨e,⟨h1,h2⟩,h3⟩ | ⟨e,⟨h1,h2⟩,h3⟩
   ·obtain rfl:=head_at (by decide) e;obtain ⟨m,rfl,q1,q2⟩:=pE n c (by omega) o3 h3;obtain ⟨e1,l1⟩:=xb h2;have eb:b=trT (zR (zx b)).1:=cE o2 (gM _) (by rw [vJ];exact e1);have ea:a=.am (qE a):=by
     cases a with
     | am x=>rw [qE]
     | ls ps=>rw [qE] at h1;simp [qL] at h1
    refine ⟨.lam (qE a) (zR (zx b)).1 m,?_,⟨h1,q1⟩,by rw [z8,q2,decide_eq_true l1];rfl⟩;rw [kK,<- eb,<- ea]
   ·obtain rfl:=head_at (by decide) e;obtain ⟨x,rfl,p1,p2⟩:=pE n a (by omega) o1 h1;obtain ⟨y,rfl,q1,q2⟩:=pE n b (by omega) o2 h2;obtain ⟨z,rfl,r1,r2⟩:=pE n c (by omega) o3 h3;exact ⟨.ite x y z,by rw [kK],⟨p1,q1,r1⟩,by rw [z8,p2,q2,r2];rfl⟩
 | n+1,.ls (_::_::_::_::_::_),_,_,hi=>by simp [qy] at hi
theorem pF:∀ t:Tm,xG t->qy (kK t)=z8 t
 | .nm x,h=>by rw [kK,qy,z8,show qL x=true from h,Bool.or_true]
 | .wd w,h=>by rw [kK,qy,z8,show jP w=true from h,Bool.true_or]
 | .lam x k t,h=>by
   rw [kK,ex,z8,pF t h.2,vJ,qo,qE,h.1];have e:(zR (zL k)).2=decide (zJ k<=15):=by
    by_cases hk:zJ k<=15
    ·rw [uz hk,decide_eq_true hk]
    ·rw [decide_eq_false hk];cases hq:(zR (zL k)).2 with
     | false=>rfl
     | true =>
       exfalso;obtain ⟨h1,h2⟩:=xb hq;have:trT k=trT (zR (zL k)).1:=cE (gM _) (gM _) (by rw [vJ,vJ];exact h1);have h3:=wO k;rw [this,wO] at h3;omega
   rw [e];have a1:(jo == jo)=true:=by decide
   have a2:(jo == ifW)=false:=by decide
   rw [a1,a2];simp
 | .app m n,h=>by
   rw [kK,nV,z8,pF m h.1,pF n h.2,qo];have a1:(vo == vo)=true:=by decide
   rw [a1];simp
 | .ite l m n,h=>by
   rw [kK,ex,z8,pF l h.1,pF m h.2.1,pF n h.2.2,qo];have a1:(ifW == ifW)=true:=by decide
   have a2:(ifW == jo)=false:=by decide
   rw [a1,a2];simp [Bool.and_assoc]
mutual
theorem eQ:∀ k:Ty,(zx (trT k)).length<=6*qS (trT k)
 | .mk ts=>by rw [trT];exact mP ts
theorem mP:∀ ts:List Ty,(zx (trT.trTs ts)).length<=6*qS (trT.trTs ts)
 | []=>by rw [trT.trTs,zx,qS];simp
 | t::ts=>by
   have h1:=eQ t;have h2:=mP ts;rw [trT.trTs,zx,jl,qY,qY,qY,zx,qS,kT,kT,kT,kT,qS];simp only [OD,Ov,Pd];omega
end
theorem name_len {x:Bs} (h:qL x=true):x.length<=3:=by
 cases x with
 | nil=>simp
 | cons c r=>simp only [qL,OP,decide_eq_true_eq] at h;simp;omega
theorem leaf_len {x:Bs} (h:jP x=true):x.length<=3:=by
 simp only [jP,PX,beq_iff_eq] at h;rcases h with (rfl | rfl) | rfl <;> simp
theorem v_:∀ t:Tm,xG t->(zO t).length<=9*zS t
 | .nm x,h=>by have:=name_len h;unfold zO;rw [kK,zx,zS];omega
 | .wd w,h=>by have:=leaf_len h;unfold zO;rw [kK,zx,zS];omega
 | .lam x k t,h=>by
   have h1:=name_len h.1;have h2:=eQ k;rw [vJ,wO] at h2;have h3:=v_ t h.2;rw [yT,zS];simp only [jo,OD,Ov,Pd];omega
 | .app m n,h=>by
   have h1:=v_ m h.1;have h2:=v_ n h.2;rw [yL,zS];simp only [vo,OD,Ov,Pd];omega
 | .ite l m n,h=>by
   have h0:=v_ l h.1;have h1:=v_ m h.2.1;have h2:=v_ n h.2.2;rw [yA,zS];simp only [ifW,OD,Ov,Pd];omega
theorem jh {l:Bs} {t:Tm} (h:qC l=some t):l=zO t/\xG t/\zS t<=60:=by
 unfold qC at h;cases hq:jY 60 l with
 | none=>rw [hq] at h;simp at h
 | some x =>
   obtain ⟨t',r⟩:=x;rw [hq] at h;cases r with
   | cons c r=>simp at h
   | nil =>
     simp only at h;split at h
     ·rename_i hs;simp at h;subst h;obtain ⟨e,o,_⟩:=cN _ _ _ _ hq;exact ⟨by simpa using e,o,hs⟩
     ·simp at h
theorem cG {t:Tm} (ho:xG t) (hs:zS t<=60):qC (zO t)=some t:=by
 unfold qC;have:=yu t 60 [] ho (by have:=uU t;omega) (by omega) (.inl rfl);rw [OY] at this;rw [this];simp only;rw [if_pos hs]
theorem specTerm_text {t:Tm} (ho:xG t) (hs:zS t<=60):qg (zO t)=if z8 t then some (kK t) else none:=by
 unfold qg;have hl:=v_ t ho;rw [if_neg (by omega)];have:=bP (kK t) 101 [] (vi t ho) (by have:=ye t;omega) (.inl rfl);rw [OY] at this;unfold zO;rw [this];simp only;rw [pF t ho,un,decide_eq_true hs,Bool.and_true]
theorem cU {l:Bs} {tr:Tr} (h:qg l=some tr):∃ t,tr=kK t/\l=zO t/\xG t/\zS t<=60/\z8 t=true:=by
 unfold qg at h;split at h
 ·simp at h
 ·split at h
  ·rename_i t' hq;split at h
   ·rename_i hc;simp at h;subst h;simp only [OP,decide_eq_true_eq] at hc;obtain ⟨e,o,_,_⟩:=xo _ _ _ _ hq;obtain ⟨t,rfl,q1,q2⟩:=pE _ t' (S5 _) o hc.1;exact ⟨t,rfl,by simpa [zO] using e,q1,by rw [<- un];exact hc.2,q2⟩
   ·simp at h
  ·simp at h
theorem term_eq (l:Bs):qg l=(qC l).bind fun t=>if z8 t then some (kK t) else none:=by
 cases h:qC l with
 | some t =>
   obtain ⟨rfl,ho,hs⟩:=jh h;rw [specTerm_text ho hs];rfl
 | none =>
   cases hq:qg l with
   | none=>rfl
   | some tr =>
     obtain ⟨t,_,rfl,ho,hs,_⟩:=cU hq;rw [cG ho hs] at h;simp at h
def jD (v:Nat):Bs:=120::dec v
def uK (n:Nat):List Ty->Tm->Tm
 | [],b=>b
 | t::ts,b=>.lam (jD n) t (uK (n+1) ts b)
mutual
def tmB (hand:List Ty):Bd->Tm
 | .leaf c=>.wd [c]
 | .ask v ss y n=>.ite (qi hand (.nm (jD v)) ((hand[v]?.map Ty.args).getD []) ss) (tmB hand y) (tmB hand n)
def qi (hand:List Ty) (f:Tm):List Ty->List Bd->Tm
 | t::ts,s::ss=>qi hand (.app f (uK hand.length t.args (tmB (hand++t.args) s))) ts ss
 | [],_=>f
 | _::_,[]=>f
end
def tmL (hand:List Ty) (t:Ty) (b:Bd):Tm:=uK hand.length t.args (tmB (hand++t.args) b)
theorem xr (hand:List Ty) (f:Tm) (ss:List Bd):qi hand f [] ss=f:=by rw [qi]
theorem vR (hand:List Ty) (f:Tm) (t:Ty) (ts:List Ty) (s:Bd) (ss:List Bd):qi hand f (t::ts) (s::ss)=qi hand (.app f (tmL hand t s)) ts ss:=by rw [qi];rfl
theorem gQ (hand:List Ty):∀ (ts:List Ty) (ss:List Bd) (f:Tm) (t:Ty) (s:Bd),ts.length=ss.length->qi hand f (ts++[t]) (ss++[s])=.app (qi hand f ts ss) (tmL hand t s)
 | [],[],f,t,s,_=>by rw [OW,OW,vR,xr,xr]
 | [],s'::ss,f,t,s,h=>by simp at h
 | t'::ts,[],f,t,s,h=>by simp at h
 | t'::ts,s'::ss,f,t,s,h=>by rw [ON,ON,vR,vR,gQ hand ts ss _ t s (by simpa using h)]
theorem dec_sep (n:Nat):∀ c∈dec n,sep c=false:=fun c hc=>mK (dec_all n c hc)
theorem lname_sep (v:Nat):jD v≠[]/\∀ c∈jD v,sep c=false:=by
 refine ⟨by simp [jD],fun c hc=>?_⟩;rcases OX.1 hc with rfl | hc
 ·decide
 ·exact dec_sep v c hc
def yU:Tm->Prop
 | .nm x=>x≠[]/\∀ c∈x,sep c=false
 | .wd w=>w≠[]/\∀ c∈w,sep c=false
 | .lam x _ t=>(x≠[]/\∀ c∈x,sep c=false)/\yU t
 | .app m n=>yU m/\yU n
 | .ite l m n=>yU l/\yU m/\yU n
theorem yw:∀ t:Tm,yU t->qr (kK t)
 | .nm x,h=>by rw [kK,qr];exact h
 | .wd w,h=>by rw [kK,qr];exact h
 | .lam x k t,h=>by
   rw [kK,qr,qQ,qQ,qQ,qQ,qQ];exact ⟨by simp,by rw [qr];exact ⟨by decide,by decide⟩,by rw [qr];exact h.1,gM k,yw t h.2,trivial⟩
 | .app m n,h=>by
   rw [kK,qr,qQ,qQ,qQ,qQ];exact ⟨by simp,by rw [qr];exact ⟨by decide,by decide⟩,yw m h.1,yw n h.2,trivial⟩
 | .ite l m n,h=>by
   rw [kK,qr,qQ,qQ,qQ,qQ,qQ];exact ⟨by simp,by rw [qr];exact ⟨by decide,by decide⟩,yw l h.1,yw m h.2.1,yw n h.2.2,trivial⟩
theorem ez:∀ (ts:List Ty) (n:Nat) (b:Tm),yU b->yU (uK n ts b)
 | [],n,b,h=>h
 | t::ts,n,b,h=>⟨lname_sep n,ez ts (n+1) b h⟩
theorem cI:∀ (ts:List Ty) (n:Nat) (b:Tm),(∀ t∈ts,zJ t<=15)->z8 b=true->z8 (uK n ts b)=true
 | [],n,b,_,h=>h
 | t::ts,n,b,ht,h=>by
   rw [uK,z8,decide_eq_true (ht t (by simp)),cI ts (n+1) b (fun x hx=>ht x (by simp [hx])) h];rfl
theorem leaf_word {c:UInt8} (h:c=116\/c=102\/c=117):yU (.wd [c]):=by
 refine ⟨by simp,fun x hx=>?_⟩;simp at hx;subst hx;rcases h with rfl | rfl | rfl <;> decide
mutual
theorem ci:∀ (b:Bd) (hand:List Ty),wfB b->yU (tmB hand b)
 | .leaf c,hand,h=>by rw [wfB] at h;rw [tmB];exact leaf_word h
 | .ask v ss y n,hand,h=>by
   rw [wfB] at h;rw [tmB];exact ⟨fM ss hand _ _ h.1 (lname_sep v),ci y hand h.2.1,ci n hand h.2.2⟩
theorem fM:∀ (ss:List Bd) (hand ts:List Ty) (f:Tm),vl ss->yU f->yU (qi hand f ts ss)
 | ss,hand,[],f,_,hf=>by rw [qi];exact hf
 | [],hand,t::ts,f,_,hf=>by rw [qi];exact hf
 | s::ss,hand,t::ts,f,h,hf=>by
   rw [vl] at h;rw [vR];exact fM ss hand ts _ h.2 ⟨hf,ez _ _ _ (ci s _ h.1)⟩
end
theorem qw {t:Ty} (h:zJ t<=15):∀ a∈t.args,zJ a<=15:=(dA h).1
mutual
theorem bZ:∀ (b:Bd) (hand:List Ty),(∀ t∈hand,zJ t<=15)->z8 (tmB hand b)=true
 | .leaf c,hand,h=>by rw [tmB,z8]
 | .ask v ss y n,hand,h=>by
   rw [tmB,z8,bZ y hand h,bZ n hand h];rw [c_ ss hand _ _ h (fun t ht=>?_) (by rw [z8])]
   ·rfl
   ·cases hv:hand[v]? with
    | none=>rw [hv] at ht;simp at ht
    | some k =>
      rw [hv] at ht;exact qw (h k (OI hv)) t (by simpa using ht)
theorem c_:∀ (ss:List Bd) (hand ts:List Ty) (f:Tm),(∀ t∈hand,zJ t<=15)->(∀ t∈ts,zJ t<=15)->z8 f=true->z8 (qi hand f ts ss)=true
 | ss,hand,[],f,_,_,hf=>by rw [qi];exact hf
 | [],hand,t::ts,f,_,_,hf=>by rw [qi];exact hf
 | s::ss,hand,t::ts,f,h,hts,hf=>by
   rw [vR];have ha:=qw (hts t (by simp));refine c_ ss hand ts _ h (fun x hx=>hts x (by simp [hx])) ?_;rw [z8,hf,tmL,cI _ _ _ ha (bZ s _ fun x hx=>?_)]
   ·rfl
   ·rcases O_.1 hx with hx | hx
    ·exact h x hx
    ·exact ha x hx
end
def vm (t:Ty) (b:Bd):Tm:=tmL [] t b
def vZ (s text:Bs):Option Bs:=(kE s text).bind fun b=>if (qC (zO (vm (zR s).1 b))).isSome then some (zO (vm (zR s).1 b)) else none
theorem termOf_good {t:Ty} {b:Bd} (h:fB t b):yU (vm t b)/\z8 (vm t b)=true:=by
 refine ⟨ez _ _ _ (ci b _ h.wf),cI _ _ _ (qw h.atoms) (bZ b _ fun x hx=>?_)⟩;rw [OW] at hx;exact qw h.atoms x hx
def j9:Nat->List Ty->Bs
 | _,[]=>[]
 | n,t::ts=>[40,108,97,109,32]++jD n++[32]++zL t++[32]++j9 (n+1) ts
def uh (n:Nat):Bs:=List.replicate n 41
theorem di (n:Nat):uh (n+1)=uh n++[41]:=by unfold uh;rw [List.replicate_succ']
theorem uW (n:Nat):(uh n).length=n:=by simp [uh]
theorem fv:∀ (ts:List Ty) (n:Nat) (t:Ty),j9 n (ts++[t])=j9 n ts++([40,108,97,109,32]++jD (n+ts.length)++[32]++zL t++[32])
 | [],n,t=>by rw [OW,j9,j9,j9];simp
 | u::ts,n,t=>by
   rw [ON,j9,j9,fv ts (n+1) t,OD,show n+1+ts.length=n+(ts.length+1) from by omega];simp
theorem wo:∀ (ts:List Ty) (n:Nat) (b:Tm),zO (uK n ts b)=j9 n ts++zO b++uh ts.length
 | [],n,b=>by rw [uK,j9];simp [uh]
 | t::ts,n,b=>by
   rw [uK,yT,wo ts (n+1) b,j9,OD,di];simp [jo]
theorem apps_text (hand:List Ty) (f:Tm) (t:Ty) (s:Bd):zO (.app f (tmL hand t s))=[40,97,112,112,32]++zO f++[32]++zO (tmL hand t s)++[41]:=by
 rw [yL];simp [vo]
theorem ite_text (l m n:Tm):zO (.ite l m n)=[40,105,102,32]++zO l++[32]++zO m++[32]++zO n++[41]:=by
 rw [yA];simp [ifW]
theorem fl (x:Bs):zO (.nm x)=x:=by unfold zO;rw [kK,zx]
theorem wd_text (x:Bs):zO (.wd x)=x:=by unfold zO;rw [kK,zx]
theorem we {v:Nat} (h:v<100000):(jD v).length<=6:=by
 have:=uY 4 v (rQ h (by decide));simp [jD];omega
theorem yd:∀ (ts:List Ty) (n:Nat),(∀ t∈ts,zJ t<=15)->n+ts.length<=100000->(j9 n ts).length<=60*ts.length
 | [],n,_,_=>by simp [j9]
 | t::ts,n,ht,hn=>by
   rw [OD] at hn;have h1:=yd ts (n+1) (fun x hx=>ht x (by simp [hx])) (by omega);have h2:=jE 15 t (ht t (by simp));have h3:=we (v:=n) (by omega);have h4:=ht t (by simp);rw [j9];simp only [Ov,OD,Pd];omega
theorem jH {t:Ty} (h:zJ t<=15):t.args.length<=14:=by
 have:=qN t.args;have:=qx t;omega
mutual
theorem wZ:∀ (b:Bd) (hand:List Ty),qj hand b->(∀ t∈hand,zJ t<=15)->hand.length+15*zU b<=10000->(zO (tmB hand b)).length+900<=1900*zU b
 | .leaf c,hand,_,_,_=>by rw [tmB,wd_text,zU];simp
 | .ask v ss y n,hand,hf,hh,hl=>by
   rw [zU] at hl;rw [qj] at hf;obtain ⟨t,ht,f1,f2,f3⟩:=hf;have h1:=wZ y hand f2 hh (by omega);have h2:=wZ n hand f3 hh (by omega);have hv:=(OB.1 ht).1;have hn:=we (v:=v) (by omega);have e:(hand[v]?.map Ty.args).getD []=t.args:=by rw [ht];rfl
   have h3:=pP ss hand t.args (.nm (jD v)) f1 hh (qw (hh t (OI ht))) (by omega);rw [fl] at h3;rw [tmB,ite_text,zU,e];simp only [Ov,OD,Pd];omega
theorem pP:∀ (ss:List Bd) (hand ts:List Ty) (f:Tm),qU (kD hand ts) ss->(∀ t∈hand,zJ t<=15)->(∀ t∈ts,zJ t<=15)->hand.length+15*(1+zE ss)<=10000->(zO (qi hand f ts ss)).length<=(zO f).length+1900*zE ss
 | ss,hand,[],f,_,_,_,_=>by rw [qi];omega
 | [],hand,t::ts,f,_,_,_,_=>by rw [qi];omega
 | s::ss,hand,t::ts,f,hf,hh,ht,hl=>by
   rw [zE] at hl;rw [qU] at hf;obtain ⟨h',lQ,e,f1,f2⟩:=hf;simp only [kD,OU,OL] at e;obtain ⟨rfl,rfl⟩:=e;have ps:=ze s;have hc:=jH (ht t (by simp));have ha:=qw (ht t (by simp));have h1:=pP ss hand ts (.app f (tmL hand t s)) f2 hh (fun x hx=>ht x (by simp [hx])) (by omega);have h2:=wZ s (hand++t.args) f1 (fun x hx=>by
    rcases O_.1 hx with hx | hx
    ·exact hh x hx
    ·exact ha x hx) (by rw [Ov];omega)
   have h3:=yd t.args hand.length ha (by omega);rw [apps_text] at h1;have h4:(zO (tmL hand t s)).length=(j9 hand.length t.args).length+(zO (tmB (hand++t.args) s)).length+t.args.length:=by
    unfold tmL;rw [wo,Ov,Ov,uW]
   rw [vR,zE];simp only [Ov,OD,Pd] at h1;omega
end
end Go.Proofs.YtdhaafoiokkbnabGreatDoor

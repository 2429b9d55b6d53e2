/- Walks. -/
import Derived.Lib.SliceRun
import Derived.RangeFuncNested
import Derived.RangeFuncBound
import Derived.RangeFuncCalls
import Derived.RangeFuncLeaves
import Derived.RangeFuncFrom
import Derived.RangeFuncBox
import Derived.Shelf.Abstract
import Derived.Shelf.RegionOpen
import Derived.OwnWalkIn
import Derived.TacticsInMore
import Derived.LoopNIn
import Derived.LoopIn
import Derived.Test.YtnfenijemllkbaaGreatDoorQ4
set_option linter.unusedVariables false
set_option linter.unusedSimpArgs false
set_option maxHeartbeats 2000000
set_option maxRecDepth 100000
open Option renaming none->U
open Option renaming some->OK
open Bool renaming true->OX
open Bool renaming false->RC
open Array renaming replicate_succ->Us,replicate_zero->Ut
open Bool renaming and_eq_true->R3,eq_false_iff->UV,or_eq_true->S4
open Go.Lib renaming decDigits->Sk,run_eql_slice_nil->VJ
open Go.Proofs.Tryz renaming func29->W8,func59->W7,func66->W_,ntmps29->WD,ntmps59->WC,prog->RG,underlying69->Tc
open Go.Value renaming ownBlock->RM,slice->RI
open Go.World renaming cell?->RE
open List renaming all_eq_true->Uh,append_assoc->Sn,append_nil->R9,append_toArray->UI,cons_append->R5,drop_left->Vh,foldl_cons->Vg,getElem?_eq_some_iff->RR,getElem_cons_succ->VA,getElem_cons_zero->Vz,length_append->RL,length_cons->RU,length_nil->Sq,length_pos_iff->Tg,map_cons->Sa,mem_cons->Sc,mem_of_getElem?->RX,nil_append->Ss,push_toArray->UU,size_toArray->Uc,takeWhile_cons->TS,take_add_one->Sd,take_length->R8
open List.cons renaming injEq->RY,sizeOf_spec->Vi
open Nat renaming div_lt_self->Up,lt_or_ge->TR,lt_succ_self->Wc,mod_lt->XE,reduceAdd->S8,reduceSub->Vu,strongRecOn->TF,zero_le->R6
open Option renaming bind_eq_bind->RJ,bind_eq_some_iff->RH,bind_none->S0,bind_some->RF,map_eq_some_iff->RP,map_some->SR
open Prod.mk renaming inj->XQ,injEq->SQ
open UInt8 renaming le_iff_toNat_le->S7
namespace Go.Proofs.YtnfenijemllkbaaGreatDoor
open Go.RowKit
theorem rN (n:Nat)(s:Value)(xs:List Value)(w:World)(h:zz 1 s n xs w)(hn:Lim n) :
 Calls RG 59 #[s] w fun en w'=>
  ∃a c,en=.returned (.slice a n c)/\Own w' 34 1 (.slice a n c) n xs/\No w w'/\(∀g,(RI a n c).ownBlock=OK g->(w:Nat)<=g):=by
 have hl:=hn.le;obtain⟨a,c,e⟩:=h.slice;subst e;cases a with
 | none =>
   have h0:n=0/\c=0:=by
    obtain⟨_,_,⟨a',c',e,_⟩ | ⟨e,h0⟩⟩:=h
    ·simp at e
    ·simp at e;exact e
   obtain⟨rfl,rfl⟩:=h0;have hx:xs=[]:=List.eq_nil_of_length_eq_zero (by simpa using h.1);subst hx;have q:=fun w=>VJ (P:=RG) w 69 34 U 0 0 0 0 Tc;go_enter W7,WC;go_wp2_with fail
   go_ret;exact⟨U,0,rfl,World.ownsRow_nil _ _ _ _,sQ _ _,fun g h=>by simp[RM]at h⟩
 | some a =>
   have q:=fun w=>VJ (P:=RG) w 69 34 (OK a) n c 0 0 Tc;go_enter W7,WC;go_wp2_with (at_builtin;refine zF rfl _ _ 69 rfl 34 (.pointer U) 1 8 Tc Tryz.infoB rfl (by decide) _ 0 [] rfl ?c1 _ n xs rfl ?c2 ?c3 ?c4 ?_)
   case c1=>exact Own.lit #[] 0 (by decide) rfl
   case c2=>exact h.keep fun _ _ h=>zV h
   case c3=>unfold maxLen;omega
   case c4=>omega
   intro a' c' w' ho hb hg;go_wp2_with fail
   go_ret;refine⟨a',c',rfl,ho,((sQ w w).alloc (sZ _) _).trans (hb.toBelow (by simp) (fun i hi e=>by simp[RM]at e;omega)),fun g h=>?_⟩;rcases hg g h with h|h
   ·simp[RM]at h;omega
   ·omega
def b7 (F:Nat->Prop)(w:World)(b:Bd)(en:Ending)(w':World):Prop:=
 ∃v,en=.returned v/\No w w'/\Rep (fun k=>F k\/w<=k) w' (.sl 34 1 (kr b).length (qH (kr b))) v
theorem parts_leaf (F:Nat->Prop)(w:World)(c:UInt8)(v:Value)(h:Rep F w (kM (.leaf c)) v) :
 Calls RG 29 #[v] w (b7 F w (.leaf c)):=by
 obtain⟨a,e⟩:=zg h;subst e;go_enter W8,WD;go_wp2_with fail
 refine(ur F w c _ h).mono ?_;rintro en w' ⟨rfl,e⟩;subst e;go_wp2_with fail
 go_ret;exact⟨_,rfl,sQ _ _,zv.2 ⟨rfl,U,0,rfl,sZ _,fun _=>rfl,.inl rfl⟩⟩
theorem but_below {w wc w6:World}{o:Obj}{v:Value}(hbb:No w wc)(sM:But (fun b=>v.ownBlock=OK b) (wc.alloc o) w6)(DE:∀g,v.ownBlock=OK g->(w:Nat)<=g):No w w6:=by
 refine(hbb.alloc hbb.size _).trans (sM.toBelow ?_ ?_)
 ·have:=hbb.size;show w<=(wc.heap.push o).size;rw[Array.size_push];omega
 ·intro i hi e;have h:w<=i:=DE i e;omega
theorem but_below2 {w wc w6:World}{v:Value}(hbb:No w wc)(sM:But (fun b=>v.ownBlock=OK b) wc w6)(DE:∀g,v.ownBlock=OK g->(w:Nat)<=g):No w w6:=by
 refine hbb.trans (sM.toBelow hbb.size ?_);intro i hi e;have h:w<=i:=DE i e;omega
theorem own_1 {w wc:World}{o:Obj}{v v':Value}(hbb:No w wc)(DE:∀g,v.ownBlock=OK g->(w:Nat)<=g)(hg:∀g,v'.ownBlock=OK g->v.ownBlock=OK g\/g=(wc.alloc o).heap.size):∀g,v'.ownBlock=OK g->(w:Nat)<=g:=by
 intro g h;rcases hg g h with h|h
 ·exact DE g h
 ·have:=hbb.size;rw[h,zK];omega
theorem own_2 {w wc:World}{v v':Value}(hbb:No w wc)(DE:∀g,v.ownBlock=OK g->(w:Nat)<=g)(hg:∀g,v'.ownBlock=OK g->v.ownBlock=OK g\/g=(wc:Nat)):∀g,v'.ownBlock=OK g->(w:Nat)<=g:=by
 intro g h;rcases hg g h with h|h
 ·exact DE g h
 ·have:=hbb.size;rw[h];omega
theorem own_ad {w:World}{o:Obj}{v:Value}(h:∀g,v.ownBlock=OK g->(w.alloc o).drew.heap.size<=g):∀g,v.ownBlock=OK g->(w:Nat)<=g:=by
 intro g hg;have:=h g hg;have h2:(w.alloc o).drew.heap.size=w+1:=zK w o;omega
theorem parts_ask (F:Nat->Prop)(w:World)(v:Nat)(ss:List Bd)(y n:Bd)(p:Value)(h:Rep F w (kM (.ask v ss y n)) p)(hn:Lim (ss.length+2)) :
 Calls RG 29 #[p] w (b7 F w (.ask v ss y n)):=by
 obtain⟨b,sl,yv,nv,e,GD,hc,tt,hy,I_⟩:=uL h;subst e;obtain⟨xs,iG,aD⟩:=zz.ofRep tt (cX _);obtain⟨sa,sc,esl⟩:=aD.slice;subst esl;obtain⟨ya,ey⟩:=zg hy;obtain⟨na,ena⟩:=zg I_;subst ey;subst ena;have c2:w (b,2)=OK (.slice sa ss.length sc):=by simp[RE,hc]
 have c3:w (b,3)=OK (.pointer (OK ⟨ya,0,U⟩)):=by simp[RE,hc]
 have c4:w (b,4)=OK (.pointer (OK ⟨na,0,U⟩)):=by simp[RE,hc]
 have lb:=zZ hc;have hl:=hn.le;clear hc;go_enter W8,WD;go_wp2_with fail
 refine(yx F w v ss y n _ h).mono ?_;rintro en w' ⟨rfl,e⟩;obtain rfl:w=w':=e.symm;go_wp2_with fail
 have Br:Lim ss.length:=hn.mono (by omega);have hm:ss.length+2<=maxLen:=by unfold maxLen;omega
 have aI:(ss.length+2)*8<=140737488355328:=by omega
 have h01:0<1:=by omega
 have FR:∀u∈(#[ya,na]:Array Value).toList,u.oneCell'=OX:=by simp[Value.oneCell']
 have HO:=r9 FR;clear FR
 go_region_held3 (fun w'=>w' (b,2)=OK (.slice sa ss.length sc)/\w' (b,3)=OK (.pointer (OK ⟨ya,0,U⟩))/\w' (b,4)=OK (.pointer (OK ⟨na,0,U⟩)))
  (first
   |exact⟨(Af.cell lb).trans c2,(Af.cell lb).trans c3,(Af.cell lb).trans c4⟩
   |exact⟨(hbb.cell lb).trans c2,(hbb.cell lb).trans c3,(hbb.cell lb).trans c4⟩
   | go_keep)
  (first
   |(go_at_call 59;refine(rN ss.length _ xs _ aD.drew Br).mono ?_;rintro en wc ⟨ac,kc,rfl,Mr,K9,MM⟩;have hbb:No w wc:=(sQ w w).drew.trans K9;have DE:∀g,(RI ac ss.length kc).ownBlock=some g->(w:Nat)<=g:=MM)
   |(go_at_call 59;refine(rN ss.length _ xs _ (aD.alloc _).drew Br).mono ?_;rintro en wc ⟨ac,kc,rfl,Mr,K9,MM⟩;have B5:=(zz.lits #[ya,na] 2 rfl HO.out _ rfl).drew.below K9;have hbb:No w wc:=eJ K9;have DE:=own_ad MM)
   |(refine zL (by rfl) _ _ _ (by rfl) 34 (.pointer none) 1 8 Tc Tryz.infoB rfl h01 (.slice ac ss.length kc) ss.length xs (by rfl) Mr _ 2 [.pointer (some ⟨ya,0,none⟩),.pointer (some ⟨na,0,none⟩)] (by rfl) B5 hm aI ?_;intro a' c' w6 iz sM tS;have Af:No w w6:=but_below2 hbb sM DE;have hFg:=own_2 hbb DE tS)
   | (refine zL (by rfl) _ _ _ (by rfl) 34 (.pointer none) 1 8 Tc Tryz.infoB rfl h01 (.slice ac ss.length kc) ss.length xs (by rfl) (Mr.alloc _) _ 2 [.pointer (some ⟨ya,0,none⟩),.pointer (some ⟨na,0,none⟩)] (by rfl) (zz.lits #[.pointer (some ⟨ya,0,none⟩),.pointer (some ⟨na,0,none⟩)] 2 rfl HO.out _ rfl) hm aI ?_;intro a' c' w6 iz sM tS;have Af:Below w w w6:=but_below hbb sM DE;have hFg:=own_1 hbb DE tS))
 all_goals
  go_wp2_with fail
  go_ret;refine⟨_,rfl,Af,?_⟩;have:(kr (.ask v ss y n)).length=ss.length+2:=by simp[kr]
  rw[this];refine iz.rep (fun g h=>.inr (hFg g h)) ?_;show zY _ _ (qH (ss++[y,n])) _;rw[pi];refine zY.append (zY.below Af (fun _ h=>.inl h) iG) ?_;exact zQ.2 ⟨_,_,rfl,Rep.below Af (fun _ h=>.inl h) hy,zY.one (Rep.below Af (fun _ h=>.inl h) I_)⟩
theorem ed (F:Nat->Prop)(w:World)(b:Bd)(v:Value)(h:Rep F w (kM b) v)(hn:Lim (zG b)) :
 Calls RG 29 #[v] w (b7 F w b):=by
 cases b with
 |leaf c=>exact parts_leaf F w c v h
 | ask u ss y n=>exact parts_ask F w u ss y n v h (hn.mono (by
  have:=qI ss;have:=kQ y;have:=kQ n;simp [zG];omega))
def fH (b:Bd):Prop:=∀(F:Nat->Prop) (w:World) (v:Value),Rep F w (kM b) v->
 Calls RG 86 #[v] w fun en w'=>en=.returned (.int .i64 (kq b:Nat))/\No w w'
theorem depth_step (b:Bd)(hl:Lim (zG b))(ih:∀t,zG t<zG b->fH t):fH b:=by
 intro F w v hv;have IH:=r9 ih;clear ih;have Ar:=hl.le;obtain⟨a0,e⟩:=zg hv;subst e;have tV:=ud b;have Ql:=bh _ b (sZ _);go_enter Tryz.func86,Tryz.ntmps86;go_wp2_with fail
 refine(ed F w b _ hv hl).mono ?_;rintro en w1 ⟨pv,rfl,sX,hp⟩;obtain⟨pa,pc,e,_,_,sG⟩:=zH hp;subst e;have AT:=r9 sG;clear sG hp;have hlen:=qI (kr b);have HS:=r9 tV;clear tV;have PM:(kr b).length<=16777216:=by have:=HS.out;omega
 go_wp2_with fail
 go_loopw [3,9] (fun n i wr=>∃k:Nat,k<=(kr b).length/\i=.int .i64 k/\n=.int .i64 (( k_ ((kr b).take k):Nat):Int)/\No w1 wr) (fun _ i _=>(kr b).length-(intOf i).toNat)
 case atStart=>exact⟨0,R6 _,rfl,by simp[k_],sQ _ _⟩
 case round=>
  rename_i wr;obtain⟨k,hk,rfl,rfl,hb⟩:=hrel;by_cases sC:k<(kr b).length
  ·obtain⟨ba,oa,u,d,ea,_,MW,hd,hu,hr⟩:=AT.out k sC;subst ea;rw[yC,RP]at hd;obtain⟨t,ht,rfl⟩:=hd;obtain⟨ta,eu⟩:=zg hr;subst eu;have hc:wr (ba,oa+k)=OK (.pointer (OK ⟨ta,0,U⟩)):=by rw[hb.cell MW];exact hu
   have lC:=depthBs_take ht;have Cd:=xV ht;have tw:=vD (kr b) (k+1);have o_:Rep _ wr (kM t) (.pointer (OK ⟨ta,0,U⟩)):=Rep.below hb (fun _ h=>h) hr;have tV:=HS.out;have FG:zG t<zG b:=by omega
   have NP:=bh _ t (sZ _);have IH':=r9 (IH.out t FG);have Ey:k_ ((kr b).take k)<=16777216:=by have h:=rD (ts:=(kr b).take k) (fun t _=>bh _ t (sZ _));have:=vD (kr b) k;omega
   have htd:kq t<=16777216:=by omega
   have HT:=r9 lC;clear lC Cd tV ht hu hr;go_wp2_with fail
   refine(IH'.out _ _ _ o_).mono ?_;rintro en w2 ⟨rfl,sY⟩;have sE:=zzT hb sY;go_wp2_with fail
   all_goals
    go_roundw
    case rel=>exact⟨k+1,by omega,by go_num,by rw[HT.out];congr 1;omega,sE⟩
    case measure=>simp[intOf];omega
  ·obtain rfl:k=(kr b).length:=by omega
   go_wp2_with fail
   go_ret;refine⟨yQ ?_,zzT sX hb⟩;rw[R8,xz b]
theorem depth_any (n:Nat):∀b,zG b<=n->Lim n->fH b:=by
 induction n with
 |zero=>intro b h _;have:=kQ b;omega
 |succ n ih=>exact fun b h hn=>depth_step b (hn.mono h) (fun t h'=>ih t (by omega) (hn.mono (by omega)))
def nV (b:Bd):Prop:=∀(F:Nat->Prop) (w:World) (v:Value),Rep F w (kM b) v->
 Calls RG 85 #[v] w fun en w'=>en=.returned (.int .i64 (zG b:Nat))/\No w w'
theorem size_step (b:Bd)(hl:Lim (zG b))(ih:∀t,zG t<zG b->nV t):nV b:=by
 intro F w v hv;have IH:=r9 ih;clear ih;have Ar:=hl.le;obtain⟨a0,e⟩:=zg hv;subst e;have tV:=ud b;go_enter Tryz.func85,Tryz.ntmps85;go_wp2_with fail
 refine(ed F w b _ hv hl).mono ?_;rintro en w1 ⟨pv,rfl,sX,hp⟩;obtain⟨pa,pc,e,_,_,sG⟩:=zH hp;subst e;have AT:=r9 sG;clear sG hp;have hlen:=qI (kr b);have HS:=r9 tV;clear tV;have PM:(kr b).length<=16777216:=by have:=HS.out;omega
 go_wp2_with fail
 go_loopw [3,9] (fun n i wr=>∃k:Nat,k<=(kr b).length/\i=.int .i64 k/\n=.int .i64 ((1+zI ((kr b).take k):Nat):Int)/\No w1 wr) (fun _ i _=>(kr b).length-(intOf i).toNat)
 case atStart=>exact⟨0,R6 _,rfl,by simp[zI],sQ _ _⟩
 case round=>
  rename_i wr;obtain⟨k,hk,rfl,rfl,hb⟩:=hrel;by_cases sC:k<(kr b).length
  ·obtain⟨ba,oa,u,d,ea,_,MW,hd,hu,hr⟩:=AT.out k sC;subst ea;rw[yC,RP]at hd;obtain⟨t,ht,rfl⟩:=hd;obtain⟨ta,eu⟩:=zg hr;subst eu;have hc:wr (ba,oa+k)=OK (.pointer (OK ⟨ta,0,U⟩)):=by rw[hb.cell MW];exact hu
   have Cd:=xV ht;have tw:=vD (kr b) (k+1);have o_:Rep _ wr (kM t) (.pointer (OK ⟨ta,0,U⟩)):=Rep.below hb (fun _ h=>h) hr;have tV:=HS.out;have FG:zG t<zG b:=by omega
   have IH':=r9 (IH.out t FG);have Ey:1+zI ((kr b).take k)<=16777216:=by omega
   have htd:zG t<=16777216:=by omega
   have OT:1+zI ((kr b).take k)+zG t<=16777216:=by omega
   have HT:=r9 Cd;clear Cd tV ht hu hr;go_wp2_with fail
   refine(IH'.out _ _ _ o_).mono ?_;rintro en w2 ⟨rfl,sY⟩;have sE:=zzT hb sY;go_wp2_with fail
   all_goals
    go_roundw
    case rel=>exact⟨k+1,by omega,by go_num,by rw[HT.out];congr 1;omega,sE⟩
    case measure=>simp[intOf];omega
  ·obtain rfl:k=(kr b).length:=by omega
   have Ey:1+zI (kr b)<=16777216:=by have:=HS.out;omega
   rw[R8];go_wp2_with fail
   go_ret;exact⟨yQ (by rw[HS.out]),zzT sX hb⟩
theorem size_any (n:Nat):∀b,zG b<=n->Lim n->nV b:=by
 induction n with
 |zero=>intro b h _;have:=kQ b;omega
 |succ n ih=>exact fun b h hn=>size_step b (hn.mono h) (fun t h'=>ih t (by omega) (hn.mono (by omega)))
end Go.Proofs.YtnfenijemllkbaaGreatDoor
namespace Go.Proofs.YtnfenijemllkbaaGreatDoor
open Go.RowKit Go.Shelf
attribute [local go_sem] Oper.semAt_some
def KpB (n₀:Nat)(p:Addr)(sv:Value)(W W':World):Prop:=Below n₀ W W'/\(W.cell? p=sv->W'.cell? p=sv)
theorem kpB_t {n₀:Nat}{p:Addr}{sv:Value}{A B C:World}(h:KpB n₀ p sv A B)(k:KpB n₀ p sv B C):KpB n₀ p sv A C:=⟨h.1.trans k.1,fun e=>k.2 (h.2 e)⟩
theorem kpB_b {n₀:Nat}{p:Addr}{sv:Value}{w:World}(hn:n₀<=w)(W:World)(l:Nat)(o o':Obj)(hl:w<=l)(h:W.heap[l]?=o)(hc:o.isCells=RC)(hw:o.isWalk=RC):KpB n₀ p sv W (W.putObj l o'):=
 ⟨belowK_b hn W l o o' hl h hc hw,fun e=>cell_kept e (grownBy_putObj' _ l o') (fun r e=>by cases e;exact⟨_,h,hc⟩)⟩
def BackAt {α:Type}(ix bl:α->Nat)(n₀:Nat)(w:World)(a:Option Addr)(xs:List α):Prop:=
 ∀k x,xs[k]?=OK x->ix x+k+1=xs.length/\∃b o,a=OK ⟨b,o,U⟩/\b<n₀/\w (b,o+ix x)=OK (.pointer (OK ⟨bl x,0,U⟩))
theorem back1_in {α:Type}(ix bl:α->Nat)(F:Fence)(n:Nat)(hf:F.fn 66)(Pc:F.round=U)(hn:1<=n)(l Bs n₀ cap:Nat)(a:Option Addr)(xs:List α)(hlen:xs.length<=16777216)(J Jx:List α->World->Prop)(hY:∀ pre x W,J pre W->pre.length<xs.length->YieldAt F (n-1) RG l #[.int .i64 (ix x:Nat),.pointer (some ⟨bl x,0,none⟩)] W fun e W' =>
  (e=.returned (.bool true)/\J (pre++[x]) W'/\KpB n₀ ⟨Bs,0,none⟩ (.slice a xs.length cap) W W')\/(e=.returned (.bool false)/\Jx (pre++[x]) W'))(W:World)(hBs:W Bs=OK (.slice a xs.length cap))(hc:BackAt ix bl n₀ W a xs)(h0:J [] W) :
 CallsIn F n RG 66 #[.func (.yield l) #[] #[],Bs] W fun e W'=>(∃v,e=.returned v) /\
  ((∃ys,ys=xs/\J ys W')\/(∃pre,pre <+: xs/\Jx pre W')):=by
 refine callsIn_of_wp W_ rfl hf ?_ Pc;simp only[Tryz.ntmps66,Uc,RU,Sq,S8,Vu,Us,Ut,UU,UI,Ss,R5];have lF:IntKind.i64.wrap ((xs.length:Int)-1)=(xs.length:Int)-1:=IntWalk.i64_in _ (by omega)
 gi_wp2
 clear lF
 gi_loopw [3] (fun i wr=>Below n₀ W wr/\wr Bs=OK (.slice a xs.length cap)/\((i=.int .i64 (-1)/\J xs wr)\/(∃j:Nat,j<xs.length/\i=.int .i64 (j:Nat)/\J (xs.take (xs.length-1-j)) wr)))
  (fun i _=>(intOf i+1).toNat)
 case atStart=>
  refine⟨sQ _ _,hBs,?_⟩;cases hx:xs with
  |nil=>subst hx;exact .inl ⟨by simp,h0⟩
  |cons x ys=>subst hx;exact .inr ⟨ys.length,by simp,by simp,by simpa using h0⟩
 case round=>
  obtain⟨tY,K7,⟨rfl,hJs⟩ | ⟨j,hj,rfl,hJs⟩⟩:=hrel
  ·gi_wp2
   go_end0
   exact⟨⟨_,rfl⟩,.inl ⟨_,rfl,hJs⟩⟩
  ·have hj0:(0:Int)<=(j:Int):=by omega
   obtain⟨x,hx⟩:∃x,xs[xs.length-1-j]?=OK x:=⟨xs[xs.length-1-j],by simp[show xs.length-1-j<xs.length from by omega]⟩;obtain⟨e1,b,o,rfl,hb,a_⟩:=hc _ x hx;have e2:ix x=j:=by omega
   have Dj:=(tY.cell (p:=(b,o+ix x)) hb).trans a_;obtain⟨fn,tmps,assign,body,hy,hR⟩:=hY _ x wr hJs (by rw[List.length_take];omega);rw[e2]at Dj hy;have aT:xs.take (xs.length-1-j)++[x]=xs.take (xs.length-1-j+1):=by rw[Sd,hx];rfl
   have HX:=r9 (r_ e1 (r_ e2 (r_ hx aT)));clear hx e1 e2 aT a_;have Je:(j:Int)<(xs.length:Int):=by omega
   have Kr:IntKind.i64.wrap ((j:Int)-1)=(j:Int)-1:=IntWalk.i64_in _ (by omega)
   gi_wp2
   refine hR.mono ?_;rintro e W3 (⟨rfl,QV,PW⟩ | ⟨rfl,hJx3⟩)
   ·have hbs3:=PW.2 K7;have JS:=tY.trans PW.1
    gi_wp2
    go_roundw
    case rel=>
     refine⟨JS,hbs3,?_⟩;rw[HX.out.2.2.2]at QV;cases j with
     | zero =>
       left;refine⟨by simp,?_⟩;rw[show xs.length-1-0+1=xs.length from by omega,R8]at QV;exact QV
     | succ j =>
       right;refine⟨j,by omega,by simp,?_⟩;rw[show xs.length-1-(j+1)+1=xs.length-1-j from by omega]at QV;exact QV
    case measure=>simp[intOf]
   ·gi_wp2
    refine bodyPost_ret (results_none rfl _ _ _) rfl ?_;exact⟨⟨_,rfl⟩,.inr ⟨_,by rw[HX.out.2.2.2];exact List.take_prefix _ _,hJx3⟩⟩
theorem back_in (F:Fence)(n:Nat)(hf:F.fn 32)(Pc:F.round=U)(a:Option Addr)(len cap:Nat)(w:World) :
 CallsIn F n RG 32 #[.slice a len cap] w fun e w'=>e=.returned (.func (.func 66) #[] #[w])/\w'=w.alloc (.cells #[.slice a len cap] 37):=by
 refine callsIn_of_wp Tryz.func32 rfl hf ?_ Pc;simp only[Tryz.ntmps32,Uc,RU,Sq,S8,Vu,Us,Ut,UU,UI,Ss,R5]
 gi_wp2
 go_ret;exact⟨rfl,rfl⟩
theorem back_stops {α:Type}(ix bl:α->Nat)(F:Fence)(n:Nat)(hf:F.fn 66)(Pc:F.round=U)(hn:1<=n)(Bs n₀ cap:Nat)(a:Option Addr)(xs:List α)(hlen:xs.length<=16777216)(w:World)(hBs:Bs<w)(hn₀:n₀<=w)(hc:w Bs=OK (.slice a xs.length cap))(hI:BackAt ix bl n₀ w a xs) :
 SeqStopsK F n RG 66 #[Bs] (fun x:α=>#[Value.int .i64 (ix x:Nat),.pointer (OK ⟨bl x,0,U⟩)]) (KpB n₀ ⟨Bs,0,U⟩ (.slice a xs.length cap)) (fun ys=>ys=xs) (fun pre=>pre <+: xs) xs.length w:=fun l J Jx W hW _ _ hY h0=>
 back1_in ix bl F n hf Pc hn l Bs n₀ cap a xs hlen J Jx hY W ((hW.cell (p:=Bs) hBs).trans hc) (fun k x hx=>by
  obtain⟨h1,b,o,h2,h3,h4⟩:=hI k x hx
  exact ⟨h1,b,o,h2,h3,((hW.mono hn₀).cell (p:=(b,o+ix x)) h3).trans h4⟩) h0
def vB:List Ty->Bs:=List.foldl (fun s t=>[40,62,32]++zS t++[32]++s++[41]) [98]
theorem cZ (pre:List Ty)(t:Ty):vB (pre++[t])=[40,62,32]++zS t++[32]++vB pre++[41]:=by simp[vB]
theorem dU:∀ts:List Ty,vB ts.reverse=zS (.mk ts)
 |[]=>by rw[yA];rfl
 |t::ts=>by rw[List.reverse_cons,cZ,dU ts,yL];simp
structure gU (F:Nat->Prop)(w:World)(t0:Ty) where
 ix:Nat
 bl:Nat
 ty:Ty
 rep:Rep F w (jk ty) (.pointer (OK ⟨bl,0,U⟩))
 low:zU ty<zU t0
def eM (t:Ty):Prop:=∀(F:Nat->Prop) (w:World) (v:Value),Rep F w (jk t) v->
 Calls RG 17 #[v] w fun en w'=>en=.returned (str (zS t))/\No w w'
theorem textFrom_len (pre:List Ty)(C:Nat)(h:∀t∈pre,(zS t).length<=C):(vB pre).length<=1+pre.length*(C+5):=by
 have key:∀(pre:List Ty) (s:Bs),(∀t∈pre,(zS t).length<=C)->(pre.foldl (fun s t=>[40,62,32]++zS t++[32]++s++[41]) s).length<=s.length+pre.length*(C+5):=by
  intro pre
  induction pre with
  |nil=>intro s _;simp
  | cons t pre ih =>
    intro s h;have h1:=ih ([40,62,32]++zS t++[32]++s++[41]) fun x hx=>h x (by simp[hx]);have h2:=h t (by simp);simp only[Vg,RL,RU,Sq]at h1 ⊢;rw[Nat.add_mul];omega
 have:=key pre [98] h;simpa[vB] using this
theorem items_of {F:Nat->Prop}{w:World}{t:Ty}{a:Option Addr}{n₀:Nat}(hF:∀i,F i->i<n₀)(sG:Ats F w t.args.length (qh t.args) a) :
 ∃xs:List (gU F w t),xs.length=t.args.length/\xs.map gU.ty=t.args.reverse/\BackAt gU.ix gU.bl n₀ w a xs:=by
 have key:∀m,m<=t.args.length->∃xs:List (gU F w t),xs.length=m/\xs.map gU.ty=(t.args.take m).reverse/\∀k x,xs[k]?=OK x->x.ix+k+1=m/\∃b o,a=OK ⟨b,o,U⟩/\b<n₀/\w (b,o+x.ix)=OK (.pointer (OK ⟨x.bl,0,U⟩)):=by
  intro m
  induction m with
  |zero=>intro _;exact⟨[],rfl,by simp,by simp⟩
  | succ m ih =>
    intro hm;obtain⟨xs,h1,h2,h3⟩:=ih (by omega);obtain⟨b,o,u,d,ea,GD,tY,hd,hc,iK⟩:=sG m (by omega);rw[yH,RP]at hd;obtain⟨ty,ht,rfl⟩:=hd;obtain⟨ub,_,rfl,_⟩:=zh iK;have lm:zU ty<zU t:=by
     have:=xq ht;have:=uz t.args (m+1);have:=kI t;omega
    refine⟨⟨m,ub,ty,iK,lm⟩::xs,by simp[h1],?_,fun k x hk=>?_⟩
    ·rw[Sa,h2,Sd,ht];simp
    ·cases k with
     | zero =>
       simp at hk;subst hk;exact⟨rfl,b,o,ea,hF b GD,hc⟩
     | succ k =>
       obtain⟨q1,q2⟩:=h3 k x (by simpa using hk);exact⟨by omega,q2⟩
 obtain⟨xs,h1,h2,h3⟩:=key t.args.length (sZ _);rw[R8]at h2;exact⟨xs,h1,h2,fun k x hk=>by obtain⟨q1,q2⟩:=h3 k x hk;exact⟨by omega,q2⟩⟩
theorem n_ {A B:World}(h:No A B):KeepsOthers A B:=
 ⟨h.size,fun k o hk _=>(h.block k (zZ hk)).trans hk⟩
theorem keeps_round {w W w':World}{sv:Value}{R O T:Bs}{n₀:Nat}(hn:n₀<=w)(hB:No w W)(hb:Below W W.drew w')(hc:w' w=str R)(hf:w'.frozen? w=RC)(hT:T=O) :
 KeepsOthers W (w'.setCell w (str O))/\KpB w ⟨w+1,0,U⟩ sv W (w'.setCell w (str O)) /\
  ((w'.setCell w (str O)) w=str T/\(w'.setCell w (str O)).frozen? w=RC)/\No w (w'.setCell w (str O)):=by
 have h1:No W w':=⟨hb.os,hb.tape,hb.output,hb.size,hb.block⟩;have h2:=(h1.mono hB.size).setCell (p:=w) (sZ _) (str O);subst hT;refine⟨(n_ h1).trans (KeepsOthers.setCell _ _ _),⟨h2,fun e=>?_⟩,⟨World.cell?_setCell_same' _ _ _ (by rw[hc];rfl),by rw[World.frozen?_setCell];exact hf⟩,hB.trans h2⟩;have h3:=(h1.cell (p:=((w:Nat)+1,0)) (sK W _ e)).trans e;rw[World.cell?_of_block (w:=w') (sJ _ _ _ _ (by simp))];exact h3
theorem textK_step (t:Ty)(hl:zU t<=1000)(ih:∀t',zU t'<zU t->eM t'):eM t:=by
 intro F0 w v h0;have h1:Rep (fun i=>F0 i/\i<w) w (jk t) v:=(Rep.keep fun b o hf ho=>⟨⟨hf,zZ ho⟩,ho⟩).1 _ _ h0;obtain⟨b,s,rfl,hb,hc,hs⟩:=zh h1;have c1:w b=s:=by simp[RE,hc]
 obtain⟨a,cap,rfl,hn,hlen,sG⟩:=zH hs;have As:t.args.length<=1000:=by have:=kW t.args;have:=kI t;omega
 clear hc hs h0 h1 hn hlen;obtain⟨W0,tW⟩:=zzN ((w.alloc (.cells #[str [98]] 9)).alloc (.cells #[.slice a t.args.length cap] 37));obtain⟨xs,x1,x2,x3⟩:=items_of (n₀:=w) (fun i hi=>hi.2) sG;refine(callsIn_wide (n:=4)).1 ?_;refine callsIn_of_wp_marks Tryz.func17 rfl trivial ?_ rfl;simp only[Tryz.ntmps17,Uc,RU,Sq,S8,Vu,Us,Ut,UU,UI,Ss,R5]
 gi_wp2_with (refine⟨trivial,?_⟩;gi_at_call 32;refine(back_in Fence.wide _ trivial rfl _ _ _ _).mono ?_;rintro e w' ⟨rfl,rfl⟩)
 have hB1:W0.heap[(w:Nat)]?=OK (.cells #[str [98]] 9 (0,0)):=by rw[<- tW];exact zJ (zW w _)
 have ir:W0 w=OK (str [98]):=by simp[RE,hB1]
 have hf0:W0.frozen? w=RC:=by simp[World.frozen?,hB1]
 have I5:(W0:Nat)=w+2:=by rw[<- tW];simp
 have oX:W0 ((w:Nat)+1,0)=OK (.slice a xs.length cap):=by
  have h:W0.heap[(w:Nat)+1]?=OK (.cells #[.slice a t.args.length cap] 37 (0,0)):=by
   rw[<- tW];have:=zW (w.alloc (.cells #[str [98]] 9)) (.cells #[.slice a t.args.length cap] 37);rwa [zK]at this
  simp[RE,h,x1]
 have N4:No w W0:=by rw[<- tW];exact((sQ _ w).alloc (sZ _) _).alloc (by simp) _
 have N1:BackAt gU.ix gU.bl w W0 a xs:=fun k x hx=>by
  obtain⟨q1,b,o,q2,q3,q4⟩:=x3 k x hx;exact⟨q1,b,o,q2,q3,(N4.cell (p:=(b,o+x.ix)) q3).trans q4⟩
 have hx1000:xs.length<=1000:=by omega
 have EC:vB (xs.map gU.ty)=zS t:=by rw[x2,dU];cases t;rfl
 have IH:=r9 ih;clear ih
 refine wpIn_rangeFunc_ownF rfl (by omega) (gf:=66) (lb:=#[(w+1:Nat)]) rfl trivial (enters_of W_ (by kernel_rfl) rfl)
  (back_stops (α:=gU (fun i=>F0 i/\i<w) w t) gU.ix gU.bl Fence.wide _ trivial rfl (by omega) ((w:Nat)+1) w cap a xs (by omega) W0 (by omega) (by omega) oX N1) kpB_t (kpB_b (by omega)) (sQ _ _) (fun _=>rfl)
  (fun pre W=>(W w=OK (str (vB (pre.map gU.ty)))/\W.frozen? w=RC)/\No w W)
  (fun _ _ _=>False)
  (OwnFrom.and (Own.from (fun s A B row hs hg hr=>⟨cell_kept hs.1 hg hr,(frozen_kept hs.1 hg hr).trans hs.2⟩) _) (ownFrom_below (sZ _) (by omega)))
  (fun _ _ _ _ _ hs _ _=>hs)
  ⟨⟨ir,hf0⟩,N4⟩
  (fun x=>{ tmps:=#[b,undef,str [],w,undef,x.bl,b,b,b,.slice a t.args.length cap,.func (.func 66) #[] #[(w+1:Nat)],.int .i64 (x.ix:Nat),x.bl,undef,undef,undef,undef,undef,undef,undef,undef],defers:=[] }) ?assign ?body ?done ?stop
 case assign=>
  intro l x W K hK
  gi_wp2
  exact hK
 case body=>
  rintro l pre x W ⟨⟨hc,hf⟩,hB⟩ sR;have oP:RG.follows .mixedOrders=OX:=by kernel_rfl
  have Id:(zS x.ty).length<=3000:=by have:=jY 1000 x.ty (by have:=x.low;omega);have:=x.low;omega
  have tw:(vB (pre.map gU.ty)).length<=1+pre.length*(3000+5):=by
   have:=textFrom_len (pre.map gU.ty) 3000 fun t' al=>by
    obtain⟨y,_,rfl⟩:=List.mem_map.1 al;have:=jY 1000 y.ty (by have:=y.low;omega);have:=y.low;omega
   rwa [List.length_map]at this
  have hne:vB ((pre++[x]).map gU.ty)=[40,62,32]++zS x.ty++[32]++vB (pre.map gU.ty)++[41]:=by rw[List.map_append,Sa,List.map_nil,cZ]
  have KD:Rep (fun i=>F0 i/\i<w) W (jk x.ty) (.pointer (OK ⟨x.bl,0,U⟩)):=(Rep.keep fun b o hf ho=>⟨hf,by rw[hB.block b hf.2];exact ho⟩).1 _ _ x.rep;have C1:Hid (∀X,X=zS x.ty->Calls RG 17 #[x.bl] W.drew fun en w'=>en=.returned (str X)/\Below W W.drew w'):=by
   show ∀X,_->_;rintro X rfl;exact IH.out x.ty x.low _ W.drew _ ((Rep.keep (w:=W) (w':=W.drew) fun _ _ hf ho=>⟨hf,ho⟩).1 _ _ KD)
  obtain⟨X,hX⟩:=zzM (zS x.ty);obtain⟨R,hR⟩:=zzM (vB (pre.map gU.ty));rw[<- hX]at Id hne;rw[<- hR]at tw hne hc;have C2:=r9 (C1.out X hX);obtain⟨O1,h1⟩:=zzM ([40,62,32]++X);obtain⟨O2,h2⟩:=zzM (O1++[32]);obtain⟨O3,h3⟩:=zzM (O2++R);obtain⟨O4,h4⟩:=zzM (O3++[41]);have m1:O1.length=X.length+3:=by rw[h1];simp
  have m2:O2.length=O1.length+1:=by rw[h2];simp
  have m3:O3.length=O2.length+R.length:=by rw[h3];simp
  have ou:=fun w0=>qz (P:=RG) [40,62,32] X (by simp;omega) w0;have At:=fun w0=>qz (P:=RG) O1 [32] (by simp;omega) w0;have DO:=fun w0=>qz (P:=RG) O2 R (by omega) w0;have DN:=fun w0=>qz (P:=RG) O3 [41] (by simp;omega) w0;have H4:Hid (vB ((pre++[x]).map gU.ty)=O4):=by show _=_;rw[hne,h4,h3,h2,h1]
  rw[<- h1]at ou;rw[<- h2]at At;rw[<- h3]at DO;rw[<- h4]at DN;have HB:=r9 hB;have HXX:=r9 (r_ x3 (r_ N1 (r_ oX N4)));clear h1 h2 h3 h4 m1 m2 m3 hX hR C1 KD hne Id tw hB x3 N1 oX N4 EC x2 tW ir hf0 sG c1
  gi_wp2
  have hcd:W.drew w=str R:=hc;have hz:=sK W _ hc
  gi_region_with_o (refine⟨trivial,?_⟩;gi_at_call 17;refine(CallsIn.inRound l (callsIn_wide.2 C2.out)).mono ?_;rintro e w' ⟨rfl,sA⟩;have Fg:w' w=str R:=(sA.cell (p:=w) hz).trans hcd;have hf':w'.frozen? w=RC:=(sA.frozen (p:=w) hz).trans hf)
  all_goals gi_wp2
  all_goals exact keeps_round (sZ _) HB.out sA Fg hf' (by rw[H4.out])
 case done=>
  rintro D ys W hD rfl ⟨⟨hc,hf⟩,hB⟩ hK;rw[EC]at hc
  gi_wp2
  refine⟨by simp,.inl ⟨_,_,rfl,run_takeDeferred hK,?_⟩⟩;exact⟨_,results_tmp rfl _ _ _,rfl,hB.trans (belowK_b (w:=w) (sZ _) W D _ _ (by omega) hK rfl rfl)⟩
 case stop=>
  rintro D c pre W _ _ h _;exact h.elim
theorem eN (n:Nat):∀t,zU t<=n->n<=1000->eM t:=by
 induction n with
 |zero=>intro t h _;have:=qA t;omega
 |succ n ih=>exact fun t h hn=>textK_step t (by omega) (fun t' h'=>ih t' (by omega) (by omega))
end Go.Proofs.YtnfenijemllkbaaGreatDoor
namespace Go.Proofs.YtnfenijemllkbaaGreatDoor
open Go.RowKit
inductive Mn where
 |op (o:Nat) (t:Ty)
 |bd (t:Ty) (b:Bd) (env:List Mn)
structure Gf where
 yes:Bd
 no:Bd
 env:List Mn
def opens:Nat->List Ty->List Mn
 |_,[]=>[]
 |n,t::ts=>.op n t::opens (n+1) ts
def jV (env:List Mn):List Ty->List Bd->List Mn
 |t::ts,s::ss=>.bd t s env::jV env ts ss
 |_,_=>[]
def qQ (ev:Nat->Bd->List Mn->Nat->List Gf->Option (Bd×Nat))(env:List Mn)(n:Nat):Nat->List Ty->List Bd->Option (List Bd×Nat)
 | l,t::ts,s::ss=>do
   let (x,l1)<-ev l s (env++opens n t.args) (n+t.args.length) []
   let (xs,l2)<-qQ ev env n l1 ts ss
   OK (x::xs,l2)
 |l,_,_=>OK ([],l)
def ev:Nat->Nat->Bd->List Mn->Nat->List Gf->Option (Bd×Nat)
 |0,_,_,_,_,_=>U
 | d+1,l,b,env,n,st=>match l with
   |0=>U
   | l+1=>match b with
     | .leaf c=>if c=117 then some (.leaf c,l) else match st with
       |[]=>OK (.leaf c,l)
       |f::st'=>ev d l (if c=116 then f.yes else f.no) f.env n st'
     | .ask v ss y no=>match env[v]? with
       |none=>U
       |some (.bd t b' e)=>ev d l b' (e++jV env t.args ss) n (⟨y,no,env⟩::st)
       | some (.op o t)=>do
         let (xs,l1)<-qQ (ev d) env n l t.args ss
         let (x,l2)<-ev d l1 y env n st
         let (z,l3)<-ev d l2 no env n st
         OK (.ask o xs x z,l3)
def kL (ev:Nat->Nat->Bd->List Mn->Nat->List Gf->Option (Bd×Nat×Nat))(env:List Mn)(n:Nat):Nat->Nat->List Ty->List Bd->Option (List Bd×Nat×Nat)
 | k,l,t::ts,s::ss=>do
   let (x,k1,l1)<-ev k l s (env++opens n t.args) (n+t.args.length) []
   let (xs,k2,l2)<-kL ev env n k1 l1 ts ss
   OK (x::xs,k2,l2)
 |k,l,_,_=>OK ([],k,l)
def evN:Nat->Nat->Nat->Bd->List Mn->Nat->List Gf->Option (Bd×Nat×Nat)
 |0,_,_,_,_,_,_=>U
 | d+1,k,l,b,env,n,st=>match l with
   |0=>U
   | l+1=>match k with
     |0=>U
     | k+1=>match b with
       | .leaf c=>if c=117 then some (.leaf c,k,l) else match st with
         |[]=>OK (.leaf c,k,l)
         |f::st'=>evN d (k+1) l (if c=116 then f.yes else f.no) f.env n st'
       | .ask v ss y no=>match env[v]? with
         |none=>U
         |some (.bd t b' e)=>evN d (k+1) l b' (e++jV env t.args ss) n (⟨y,no,env⟩::st)
         | some (.op o t)=>do
           let (xs,k1,l1)<-kL (evN d) env n k l t.args ss
           let (x,k2,l2)<-evN d k1 l1 y env n st
           let (z,k3,l3)<-evN d k2 l2 no env n st
           OK (.ask o xs x z,k3,l3)
def gZ (k:Nat):Option (Bd×Nat)->Option (Bd×Nat×Nat)
 |none=>U
 |some (b,l)=>if zG b<=k then OK (b,k-zG b,l) else U
def pH (k:Nat):Option (List Bd×Nat)->Option (List Bd×Nat×Nat)
 |none=>U
 |some (bs,l)=>if zI bs<=k then OK (bs,k-zI bs,l) else U
theorem fD (k:Nat):gZ k U=U:=rfl
theorem rT {k l:Nat}{b:Bd}(h:zG b<=k):gZ k (OK (b,l))=OK (b,k-zG b,l):=by simp only[gZ];rw[if_pos h]
theorem g_ {k l:Nat}{b:Bd}(h:¬zG b<=k):gZ k (OK (b,l))=U:=by simp only[gZ];rw[if_neg h]
theorem capNs_none (k:Nat):pH k U=U:=rfl
theorem capNs_pos {k l:Nat}{b:List Bd}(h:zI b<=k):pH k (OK (b,l))=OK (b,k-zI b,l):=by simp only[pH];rw[if_pos h]
theorem capNs_neg {k l:Nat}{b:List Bd}(h:¬zI b<=k):pH k (OK (b,l))=U:=by simp only[pH];rw[if_neg h]
theorem rP (d:Nat)(ih:∀k l b env n st,evN d k l b env n st=gZ k (ev d l b env n st))(env:List Mn)(n:Nat) :
 ∀(ts:List Ty) (ss:List Bd) (k l:Nat),kL (evN d) env n k l ts ss=pH k (qQ (ev d) env n l ts ss)
 |[],ss,k,l=>by cases ss <;> simp[kL,qQ,pH,zI]
 |t::ts,[],k,l=>by simp[kL,qQ,pH,zI]
 | t::ts,s::ss,k,l=>by
   simp only[kL,qQ,RJ,ih];cases h1:ev d l s (env++opens n t.args) (n+t.args.length) [] with
   |none=>simp[gZ,pH]
   | some x =>
     obtain⟨x,l1⟩:=x;simp only[gZ,RF];by_cases hx:zG x<=k
     ·rw[if_pos hx];simp only[RF,rP d ih env n ts ss];cases h2:qQ (ev d) env n l1 ts ss with
      |none=>simp[pH]
      | some y =>
        obtain⟨xs,l2⟩:=y;have tV:zI (x::xs)=zG x+zI xs:=by simp only[zI]
        simp only[pH,RF];by_cases hy:zI xs<=k-zG x
        ·rw[if_pos hy,if_pos (by omega),tV];simp;omega
        ·rw[if_neg hy,if_neg (by omega)];rfl
     ·rw[if_neg hx];cases h2:qQ (ev d) env n l1 ts ss with
      |none=>simp[pH]
      | some y =>
        obtain⟨xs,l2⟩:=y;have tV:zI (x::xs)=zG x+zI xs:=by simp only[zI]
        simp only[pH,RF];rw[if_neg (by omega)];rfl
theorem evN_eq (d:Nat):∀(k l:Nat) (b:Bd) (env:List Mn) (n:Nat) (st:List Gf),evN d k l b env n st=gZ k (ev d l b env n st):=by
 induction d with
 |zero=>intro k l b env n st;simp[evN,ev,gZ]
 | succ d ih =>
   intro k l b env n st;rw[evN.eq_def,ev.eq_def];cases l with
   |zero=>simp[gZ]
   | succ l =>
     cases k with
     | zero =>
       simp only
       cases h:(match b with
     | .leaf c=>if c=117 then some (.leaf c,l) else match st with
       |[]=>OK (.leaf c,l)
       |f::st'=>ev d l (if c=116 then f.yes else f.no) f.env n st'
     | .ask v ss y no=>match env[v]? with
       |none=>U
       |some (.bd t b' e)=>ev d l b' (e++jV env t.args ss) n (⟨y,no,env⟩::st)
       | some (.op o t)=>do
         let (xs,l1)<-qQ (ev d) env n l t.args ss
         let (x,l2)<-ev d l1 y env n st
         let (z,l3)<-ev d l2 no env n st
         some (.ask o xs x z,l3):Option (Bd×Nat)) with
       |none=>simp[gZ]
       |some x=>obtain⟨x,l'⟩:=x;have:=kQ x;simp only[gZ];rw[if_neg (by omega)]
     | succ k =>
       simp only;cases b with
       | leaf c =>
         simp only;by_cases hc:c=117
         ·rw[if_pos hc,if_pos hc];simp[gZ,zG]
         ·rw[if_neg hc,if_neg hc];cases st with
          |nil=>simp[gZ,zG]
          |cons f st'=>simp only;exact ih _ _ _ _ _ _
       | ask v ss y no =>
         simp only;cases hv:env[v]? with
         |none=>simp[gZ]
         | some m =>
           cases m with
           |bd t b' e=>simp only;exact ih _ _ _ _ _ _
           | op o t =>
             simp only[RJ,rP d ih,ih];cases h1:qQ (ev d) env n l t.args ss with
             |none=>simp only[capNs_none,fD,S0]
             | some x =>
               obtain⟨xs,l1⟩:=x;by_cases iG:zI xs<=k
               ·simp only[capNs_pos iG,RF];cases h2:ev d l1 y env n st with
                |none=>simp only[fD,S0]
                | some x =>
                  obtain⟨x,l2⟩:=x;by_cases hx:zG x<=k-zI xs
                  ·simp only[rT hx,RF];cases h3:ev d l2 no env n st with
                   |none=>simp only[fD,S0]
                   | some z =>
                     obtain⟨z,l3⟩:=z;have tV:zG (.ask o xs x z)=1+(zI xs+(zG x+zG z)):=by simp only[zG]
                     by_cases hz:zG z<=k-zI xs-zG x
                     ·simp only[rT hz,RF];rw[rT (by omega),tV];simp;omega
                     ·simp only[g_ hz,RF,S0];rw[g_ (by omega)]
                  ·simp only[g_ hx,RF,S0];cases h3:ev d l2 no env n st with
                   |none=>rfl
                   | some z =>
                     obtain⟨z,l3⟩:=z;have tV:zG (.ask o xs x z)=1+(zI xs+(zG x+zG z)):=by simp only[zG]
                     simp only[RF];rw[g_ (by omega)]
               ·simp only[capNs_neg iG,RF,S0];cases h2:ev d l1 y env n st with
                |none=>rfl
                | some x =>
                  obtain⟨x,l2⟩:=x;simp only[RF];cases h3:ev d l2 no env n st with
                  |none=>rfl
                  | some z =>
                    obtain⟨z,l3⟩:=z;have tV:zG (.ask o xs x z)=1+(zI xs+(zG x+zG z)):=by simp only[zG]
                    simp only[RF];rw[g_ (by omega)]
mutual
def wH (H:List Ty):Mn->Ty->Prop
 |.op o t,t'=>t=t'/\H[o]?=OK t
 |.bd t b e,t'=>t=t'/\∃h,jH H e h/\qB (h++t.args) b
def jH (H:List Ty):List Mn->List Ty->Prop
 |[],h=>h=[]
 |m::ms,h=>∃t ts,h=t::ts/\wH H m t/\jH H ms ts
end
theorem mnFits_at {H:List Ty}:∀(cs:List Mn) (h:List Ty),jH H cs h->∀(i:Nat) (t:Ty),h[i]?=t->∃c,cs[i]?=OK c/\wH H c t
 |[],h,k,i,c,hc=>by rw[jH]at k;subst k;simp at hc
 | c::cs,h,k,i,t',hc=>by
   rw[jH]at k;obtain⟨t,ts,rfl,k1,k2⟩:=k;cases i with
   |zero=>simp at hc;subst hc;exact⟨c,rfl,k1⟩
   |succ i=>simp at hc;simpa using mnFits_at cs ts k2 i t' hc
theorem y5 {H:List Ty}:∀(xs bs:List Mn) (h k:List Ty),jH H xs h->jH H bs k->jH H (xs++bs) (h++k)
 |[],bs,h,k,h1,h2=>by rw[jH]at h1;subst h1;simpa using h2
 | a::xs,bs,h,k,h1,h2=>by
   rw[jH]at h1;obtain⟨t,ts,rfl,k1,k2⟩:=h1;simp only[R5];rw[jH];exact⟨t,ts++k,rfl,k1,y5 xs bs ts k k2 h2⟩
mutual
theorem mnFit_more {H X:List Ty}:∀(m:Mn) (t:Ty),wH H m t->wH (H++X) m t
 | .op o t,t',h=>by
   rw[wH] at *;exact⟨h.1,by rw[List.getElem?_append_left (RR.1 h.2).1];exact h.2⟩
 | .bd t b e,t',h=>by
   rw[wH] at *;obtain⟨h1,k,h2,h3⟩:=h;exact⟨h1,k,gj e k h2,h3⟩
theorem gj {H X:List Ty}:∀(ms:List Mn) (h:List Ty),jH H ms h->jH (H++X) ms h
 |[],h,k=>by rw[jH] at *;exact k
 | m::ms,h,k=>by
   rw[jH] at *;obtain⟨t,ts,rfl,k1,k2⟩:=k;exact⟨t,ts,rfl,mnFit_more m t k1,gj ms ts k2⟩
end
theorem e6 {H:List Ty}:∀(ts:List Ty) (n:Nat),(∀i t,ts[i]?=OK t->H[n+i]?=OK t)->jH H (opens n ts) ts
 |[],n,h=>by rw[opens,jH]
 | t::ts,n,h=>by
   rw[opens,jH];refine⟨t,ts,rfl,?_,e6 ts (n+1) fun i t' hi=>?_⟩
   ·rw[wH];exact⟨rfl,by have:=h 0 t rfl;simpa using this⟩
   ·have:=h (i+1) t' (by simpa using hi);rw[show n+1+i=n+(i+1) from by omega];exact this
theorem cV (H:List Ty)(ts:List Ty):jH (H++ts) (opens H.length ts) ts:=
 e6 ts H.length fun i t h=>by rw[List.getElem?_append_right (by omega),Nat.add_sub_cancel_left];exact h
theorem owns_fit {H h:List Ty}{env:List Mn}(he:jH H env h):∀(ts:List Ty) (ss:List Bd),qZ (kx h ts) ss->jH H (jV env ts ss) ts
 | [],ss,hf=>by
   rw[jV]
   ·rw[jH]
   ·intros;contradiction
 | t::ts,[],hf=>by
   rw[qZ]at hf;simp[kx]at hf
 | t::ts,s::ss,hf=>by
   rw[qZ]at hf;obtain⟨h',lw,e,h1,h2⟩:=hf;simp only[kx,Sa,RY]at e;obtain⟨rfl,rfl⟩:=e;rw[jV,jH];refine⟨t,ts,rfl,?_,owns_fit he ts ss h2⟩;rw[wH];exact⟨rfl,h,he,h1⟩
def gfFit (H:List Ty)(f:Gf):Prop:=∃h,jH H f.env h/\qB h f.yes/\qB h f.no
structure jo (H:List Ty)(b:Bd)(env:List Mn)(st:List Gf):Prop where
 fit:∃h,jH H env h/\qB h b
 frames:∀f∈st,gfFit H f
theorem jo.back {H:List Ty}{b:Bd}{env:List Mn}{f:Gf}{st:List Gf}(h:jo H b env (f::st))(c:UInt8):jo H (if c=116 then f.yes else f.no) f.env st:=by
 obtain⟨k,k1,k2,k3⟩:=h.frames f (by simp);refine⟨⟨k,k1,?_⟩,fun g hg=>h.frames g (by simp[hg])⟩;split
 ·exact k2
 ·exact k3
theorem jo.ask {H:List Ty}{v:Nat}{ss:List Bd}{y no:Bd}{env:List Mn}{st:List Gf}(h:jo H (.ask v ss y no) env st) :
 ∃m t hh,env[v]?=OK m/\wH H m t/\jH H env hh/\qZ (kx hh t.args) ss/\qB hh y/\qB hh no:=by
 obtain⟨⟨hh,h1,h2⟩,_⟩:=h;rw[qB]at h2;obtain⟨t,k1,k2,k3,k4⟩:=h2;obtain⟨m,m1,m2⟩:=mnFits_at _ _ h1 v t k1;exact⟨m,t,hh,m1,m2,h1,k2,k3,k4⟩
theorem jo.call {H:List Ty}{v:Nat}{ss:List Bd}{y no:Bd}{env:List Mn}{st:List Gf}(h:jo H (.ask v ss y no) env st){t:Ty}{b':Bd}{e:List Mn}(he:env[v]?=OK (.bd t b' e)) :
 ss.length=t.args.length/\jo H b' (e++jV env t.args ss) (⟨y,no,env⟩::st):=by
 obtain⟨m,t',hh,m1,m2,m3,m4,m5,m6⟩:=h.ask;rw[he]at m1;simp at m1;subst m1;rw[wH]at m2;obtain⟨rfl,k,k1,k2⟩:=m2;refine⟨?_,⟨k++t.args,y5 _ _ _ _ k1 (owns_fit m3 _ _ m4),k2⟩,fun f hf=>?_⟩
 ·have:=ju _ _ m4;rw[vJ]at this;exact this.symm
 ·rcases Sc.1 hf with rfl|hf
  ·exact⟨hh,m3,m5,m6⟩
  ·exact h.frames f hf
theorem jo.keep {H:List Ty}{v:Nat}{ss:List Bd}{y no:Bd}{env:List Mn}{st:List Gf}(h:jo H (.ask v ss y no) env st){t:Ty}{o:Nat}(he:env[v]?=OK (.op o t)) :
 ss.length=t.args.length/\H[o]?=t/\(∀(k:Nat) (a:Ty) (s:Bd),t.args[k]?=a->ss[k]?=s->jo (H++a.args) s (env++opens H.length a.args) [])/\jo H y env st/\jo H no env st:=by
 obtain⟨m,t',hh,m1,m2,m3,m4,m5,m6⟩:=h.ask;rw[he]at m1;simp at m1;subst m1;rw[wH]at m2;obtain⟨rfl,k1⟩:=m2;have hl:=ju _ _ m4;rw[vJ]at hl;refine⟨hl.symm,k1,fun k a s ha hs=>?_,⟨⟨hh,m3,m5⟩,h.frames⟩,⟨⟨hh,m3,m6⟩,h.frames⟩⟩;obtain⟨x,hx,hf⟩:=gt _ _ m4 k s hs;have BS:x=hh++a.args:=by simp[kx,ha]at hx;exact hx.symm
 subst BS;exact⟨⟨hh++a.args,y5 _ _ _ _ (gj _ _ m3) (cV H a.args),hf⟩,by simp⟩
theorem rW {H:List Ty}{env:List Mn}{d:Nat}(ih:∀(H:List Ty) (l:Nat) (b:Bd) (env:List Mn) (st:List Gf) (out:Bd) (l':Nat),jo H b env st->ev d l b env H.length st=OK (out,l')->qB H out) :
 ∀ (ts:List Ty) (ss:List Bd) (l:Nat) (outs:List Bd) (l':Nat),ss.length=ts.length->(∀ (k:Nat) (a:Ty) (s:Bd),ts[k]? = some a->ss[k]? = some s->jo (H++a.args) s (env++opens H.length a.args) []) ->
   qQ (ev d) env H.length l ts ss=OK (outs,l')->qZ (kx H ts) outs
 |[],[],l,outs,l',hl,hk,h=>by simp[qQ]at h;obtain⟨rfl,rfl⟩:=h;simp[kx,qZ]
 |[],s::ss,l,outs,l',hl,hk,h=>by simp at hl
 |t::ts,[],l,outs,l',hl,hk,h=>by simp at hl
 | t::ts,s::ss,l,outs,l',hl,hk,h=>by
   simp only[qQ,RJ,RH,Prod.exists]at h;obtain⟨x,l1,h1,xs,l2,h2,h3⟩:=h;simp at h3;obtain⟨rfl,rfl⟩:=h3;have k0:=hk 0 t s rfl rfl;have h1':ev d l s (env++opens H.length t.args) (H++t.args).length []=OK (x,l1):=by rw[RL];exact h1
   refine⟨H++t.args,kx H ts,rfl,ih _ _ _ _ _ _ _ k0 h1',rW ih ts ss l1 xs l2 (by simpa using hl) (fun k a s' ha hs=>hk (k+1) a s' (by simpa using ha) (by simpa using hs)) h2⟩
theorem ev_fit (d:Nat):∀(H:List Ty) (l:Nat) (b:Bd) (env:List Mn) (st:List Gf) (out:Bd) (l':Nat),jo H b env st->ev d l b env H.length st=OK (out,l')->qB H out:=by
 induction d with
 |zero=>intro H l b env st out l' _ h;simp[ev]at h
 | succ d ih =>
   intro H l b env st out l' hf h;rw[ev.eq_def]at h;cases l with
   |zero=>simp at h
   | succ l =>
     simp only at h;cases b with
     | leaf c =>
       simp only at h;split at h
       ·simp at h;obtain⟨rfl,_⟩:=h;simp[qB]
       ·cases st with
        |nil=>simp at h;obtain⟨rfl,_⟩:=h;simp[qB]
        |cons f st'=>exact ih _ _ _ _ _ _ _ (hf.back c) h
     | ask v ss y no =>
       simp only at h;cases hv:env[v]? with
       |none=>rw[hv]at h;simp at h
       | some m =>
         rw[hv]at h;cases m with
         |bd t b' e=>exact ih _ _ _ _ _ _ _ (hf.call hv).2 h
         | op o t =>
           simp only[RJ,RH,Prod.exists]at h;obtain⟨xs,l1,h1,x,l2,h2,z,l3,h3,h4⟩:=h;simp at h4;obtain⟨rfl,_⟩:=h4;obtain⟨k1,k2,k3,k4,k5⟩:=hf.keep hv;rw[qB];exact⟨t,k2,rW ih _ _ _ _ _ k1 k3 h1,ih _ _ _ _ _ _ _ k4 h2,ih _ _ _ _ _ _ _ k5 h3⟩
mutual
def wfB:Bd->Prop
 |.leaf c=>c=116\/c=102\/c=117
 |.ask _ ss y n=>uo ss/\wfB y/\wfB n
def uo:List Bd->Prop
 |[]=>True
 |b::bs=>wfB b/\uo bs
end
theorem fj:∀(xs ys:List Bd),uo xs->uo ys->uo (xs++ys)
 |[],ys,_,h=>h
 |x::xs,ys,h,k=>by rw[uo]at h;exact⟨h.1,fj xs ys h.2 k⟩
theorem wfBs_at:∀(xs:List Bd),uo xs->∀(k:Nat) (b:Bd),xs[k]?=b->wfB b
 |[],_,k,b,h=>by simp at h
 | x::xs,hw,k,b,h=>by
   rw[uo]at hw;cases k with
   |zero=>simp at h;subst h;exact hw.1
   |succ k=>exact wfBs_at xs hw.2 k b (by simpa using h)
theorem dec_ne (n:Nat):dec n≠[]:=by
 by_cases h:n<10
 ·rw[vM h];simp
 ·rw[ve h];simp
theorem dig_digit {r:Nat}(h:r<10):dig (x8 r)=OX:=by
 rcases(by omega:r=0\/r=1\/r=2\/r=3\/r=4\/r=5\/r=6\/r=7\/r=8\/r=9) with rfl|rfl|rfl|rfl|rfl|rfl|rfl|rfl|rfl|rfl <;> rfl
theorem fG {r:Nat}(h:r<10):(x8 r).toNat-48=r:=by
 rcases(by omega:r=0\/r=1\/r=2\/r=3\/r=4\/r=5\/r=6\/r=7\/r=8\/r=9) with rfl|rfl|rfl|rfl|rfl|rfl|rfl|rfl|rfl|rfl <;> rfl
theorem dec_all (n:Nat):∀c∈dec n,dig c=OX:=by
 induction n using TF with
 | _ n ih =>
   by_cases h:n<10
   ·rw[vM h];intro c hc;simp at hc;subst hc;exact dig_digit h
   ·rw[ve h];intro c hc;rcases List.mem_append.1 hc with hc|hc
    ·exact ih (n / 10) (Up (by omega) (by omega)) c hc
    ·simp at hc;subst hc;exact dig_digit (XE _ (by omega))
theorem dec_val (n:Nat):jq (dec n)=n:=by
 induction n using TF with
 | _ n ih =>
   by_cases h:n<10
   ·rw[vM h];unfold jq;simp only[Vg,List.foldl_nil];rw[fG h];omega
   ·rw[ve h,pF,ih (n / 10) (Up (by omega) (by omega)),fG (XE _ (by omega))];omega
theorem dec_head (n:Nat):1<(dec n).length->(dec n).head?≠OK 48:=by
 induction n using TF with
 | _ n ih =>
   by_cases h:n<10
   ·rw[vM h];simp
   ·rw[ve h];intro _;have hne:=dec_ne (n / 10);obtain⟨c,cs,hc⟩:∃c cs,dec (n / 10)=c::cs:=by
     cases hd:dec (n / 10) with
     |nil=>exact absurd hd hne
     |cons c cs=>exact⟨c,cs,rfl⟩
    rw[hc];simp only[R5,List.head?_cons,ne_eq,Option.some.injEq];by_cases h1:1<(dec (n / 10)).length
    ·have:=ih (n / 10) (Up (by omega) (by omega)) h1;rw[hc]at this;simpa using this
    ·have GE:n / 10<10:=by
      rcases TR (n / 10) 10 with h'|h'
      ·exact h'
      ·exfalso;apply h1;rw[ve (by omega)];have:=Tg.2 (dec_ne (n / 10 / 10));simp;omega
     rw[vM GE]at hc;simp at hc;obtain⟨rfl,_⟩:=hc;intro e;have hv:=fG GE;rw[e]at hv;have:(48:UInt8).toNat-48=0:=rfl;omega
theorem digsOf_dec {v:Nat}(h:v<10000)(r:Bs):qD (dec v++32::r)=dec v:=by
 have h4:(dec v).length<=4:=vP 3 v (by omega);unfold qD;have key:∀(ds:Bs) (m:Nat),ds.length<=m->(∀c∈ds,dig c=OX)->((ds++32::r).take m).takeWhile dig=ds:=by
  intro ds
  induction ds with
  | nil =>
    intro m _ _;cases m with
    |zero=>simp
    |succ m=>simp[dig]
  | cons d ds ih =>
    intro m hm hd;cases m with
    |zero=>simp at hm
    | succ m =>
      simp only[R5,List.take_succ_cons,TS];rw[if_pos (hd d (by simp)),ih m (by simpa using hm) (fun c hc=>hd c (by simp[hc]))]
 exact key _ 4 h4 (dec_all v)
theorem specNum_dec {v:Nat}(h:v<10000)(r:Bs):jE (dec v++32::r)=OK (v,(dec v).length):=by
 unfold jE;rw[digsOf_dec h,dec_val,if_neg];rintro(h1 | ⟨h1,h2⟩)
 ·exact dec_ne v h1
 ·have:=dec_head v h1;apply this;cases hd:dec v with
  |nil=>exact absurd hd (dec_ne v)
  |cons c cs=>rw[hd]at h2;simpa using h2
theorem eR (v:Nat)(ss:List Bd)(y n:Bd):kZ (.ask v ss y n)=40::(dec v++(kT (ss++[y,n])++[41])):=by
 rw[kZ,vg];simp[kT]
theorem askOf_parts (v:Nat)(ss:List Bd)(y n:Bd):wM v ss.length (ss++[y,n])=OK (.ask v ss y n):=by
 unfold wM;rw[Vh,List.take_left]
theorem gM {rd:RdS}:∀(ps:List Bd) (hs:List (List Ty)) (r:Bs),hs.length=ps.length->(∀(k:Nat) (h:List Ty) (p:Bd) (r:Bs),hs[k]?=h->ps[k]?=p->rd h (kZ p++r)=OK (p,r))->zN rd hs (kT ps++r)=OK (ps,r)
 |[],[],r,_,_=>by simp[zN,kT]
 |[],h::hs,r,hl,_=>by simp at hl
 |p::ps,[],r,hl,_=>by simp at hl
 | p::ps,h::hs,r,hl,hp=>by
   rw[kT,zN];have h0:=hp 0 h p (kT ps++r) rfl rfl;have hc:cut [32] ([32]++kZ p++kT ps++r)=OK (kZ p++(kT ps++r)):=by
    rw[Sn,Sn];exact mz [32] _
   simp only[qC,hc,RJ,RF,h0,gM ps hs r (by simpa using hl) (fun k h' p' r' hh hk=>hp (k+1) h' p' r' (by simpa using hh) (by simpa using hk))]
theorem depthBs_mem {ts:List Bd}{t:Bd}(h:t∈ts):1+kq t<=k_ ts:=by
 induction ts with
 |nil=>simp at h
 | cons x xs ih =>
   rcases Sc.1 h with rfl|h
   ·simp only[k_];omega
   ·have:=ih h;simp only[k_];omega
theorem rdN_text (e:Nat):∀(hand:List Ty) (b:Bd) (r:Bs),qB hand b->wfB b->kq b<e->jD e hand->rdN e hand (kZ b++r)=OK (b,r):=by
 induction e with
 |zero=>intro hand b r _ _ h;omega
 | succ e ih =>
   intro hand b r hf hw hd hh;cases b with
   | leaf c =>
     rw[wfB]at hw;rw[kZ];simp only[R5,Ss,rdN];rw[if_pos hw]
   | ask v ss y n =>
     obtain⟨t,ht,hfp,tt⟩:=fit_parts hf;rw[wfB]at hw;have hwp:uo (ss++[y,n]):=fj _ _ hw.1 ⟨hw.2.1,hw.2.2,trivial⟩;have hv:v<10000:=by
      have h1:=(RR.1 ht).1;have:=hh.2;omega
     rw[xz]at hd;have JD:jE (dec v++(kT (ss++[y,n])++[41])++r)=OK (v,(dec v).length):=by
      obtain⟨q,hq⟩:∃q,dec v++(kT (ss++[y,n])++[41])++r=dec v++32::q:=by
       cases ss with
       |nil=>exact⟨kZ y++kT [n]++[41]++r,by simp[kT]⟩
       |cons s ss=>exact⟨kZ s++kT (ss++[y,n])++[41]++r,by simp[kT]⟩
      rw[hq];exact specNum_dec hv q
     rw[eR,R5,rdN.eq_def];simp only;rw[if_neg (by decide),if_neg (by decide),JD];simp only[ht];have Qk:(dec v++(kT (ss++[y,n])++[41])++r).drop (dec v).length=kT (ss++[y,n])++([41]++r):=by
      rw[Sn,Vh,Sn]
     have AZ:zN (rdN e) (jP hand t) (kT (ss++[y,n])++([41]++r))=OK (ss++[y,n],[41]++r):=by
      refine gM _ _ _ (ju _ _ hfp) fun k h p r' hk hp=>?_;obtain⟨h',PZ,hf'⟩:=gt _ _ hfp k p hp;rw[hk]at PZ;simp at PZ;subst PZ;have aF:p∈ss++[y,n]:=RX hp;have hdp:=depthBs_mem aF;refine ih h p r' hf' (wfBs_at _ hwp k p hp) (by have:k_ (ss++[y,n])<e+1:=hd;omega) ?_;rcases TR k t.args.length with Ez|Ez
      ·obtain⟨a,ha⟩:∃a,t.args[k]?=OK a:=⟨t.args[k],by simp[Ez]⟩;rw[eX ha]at hk;simp at hk;subst hk;exact hh.next ht (RX ha)
      ·have AG:k<t.args.length+2:=by
        have:=(RR.1 hk).1;rwa [uq]at this
       rw[eY Ez AG]at hk;simp at hk;subst hk;have:=hh.same;rwa [R9]at this
     rw[Qk,AZ];simp only[RJ,RF,mz];rw[<- tt,askOf_parts];rfl
theorem gN {rd rd':RdS}(h:∀hand l x,rd hand l=OK x->rd' hand l=OK x):∀(hs:List (List Ty)) (l:Bs) (x:List Bd×Bs),zN rd hs l=OK x->zN rd' hs l=OK x
 |[],l,x,hx=>by simpa[zN] using hx
 | a::hs,l,x,hx=>by
   simp only[zN,qC,RJ,RH,Prod.exists]at hx ⊢;obtain⟨b,l1,⟨l0,h0,h1⟩,bs,l2,h2,h3⟩:=hx;exact⟨b,l1,⟨l0,h0,h _ _ _ h1⟩,bs,l2,gN h hs l1 _ h2,h3⟩
theorem rdN_mono (e:Nat):∀(e':Nat) (hand:List Ty) (l:Bs) (x:Bd×Bs),e<=e'->rdN e hand l=x->rdN e' hand l=x:=by
 induction e with
 |zero=>intro e' hand l x _ h;simp[rdN]at h
 | succ e ih =>
   intro e' hand l x he h;cases e' with
   |zero=>omega
   | succ e' =>
     cases l with
     |nil=>simp[rdN]at h
     | cons c m =>
       simp only[rdN]at h ⊢;split at h
       ·rename_i hc;rw[if_pos hc];exact h
       ·rename_i hc;rw[if_neg hc];split at h
        ·simp at h
        ·rename_i iY;rw[if_neg iY];cases hn:jE m with
         |none=>rw[hn]at h;simp at h
         | some vk =>
           obtain⟨v,k⟩:=vk;rw[hn]at h;simp only at h ⊢;cases ht:hand[v]? with
           |none=>rw[ht]at h;simp at h
           | some t =>
             rw[ht]at h;simp only[RJ,RH,Prod.exists]at h ⊢;obtain⟨ps,l1,h1,h2⟩:=h;exact⟨ps,l1,gN (fun a b c d=>ih e' a b c (by omega) d) _ _ _ h1,h2⟩
theorem gR {rd:RdS}{P:Bd->Prop}(h:∀hand l b r,rd hand l=OK (b,r)->P b):∀(hs:List (List Ty)) (l:Bs) (ps:List Bd) (r:Bs),zN rd hs l=OK (ps,r)->∀p∈ps,P p
 |[],l,ps,r,hx=>by simp[zN]at hx;obtain⟨rfl,_⟩:=hx;simp
 | a::hs,l,ps,r,hx=>by
   simp only[zN,qC,RJ,RH,Prod.exists]at hx;obtain⟨b,l1,⟨l0,h0,h1⟩,bs,l2,h2,h3⟩:=hx;simp at h3;obtain⟨rfl,rfl⟩:=h3;intro p hp;rcases Sc.1 hp with rfl|hp
   ·exact h _ _ _ _ h1
   ·exact gR h hs l1 bs l2 h2 p hp
theorem rL {v n:Nat}{ps:List Bd}{b:Bd}(h:wM v n ps=b):∃ss y no,b=.ask v ss y no/\ps=ss++[y,no]:=by
 unfold wM at h;split at h
 ·rename_i y no hd;simp at h;subst h;exact⟨_,_,_,rfl,by rw[<- hd,List.take_append_drop]⟩
 ·simp at h
theorem wfBs_of:∀(ps:List Bd),(∀p∈ps,wfB p)->uo ps
 |[],_=>trivial
 |p::ps,h=>⟨h p (by simp),wfBs_of ps fun q hq=>h q (by simp[hq])⟩
theorem mw:∀(xs ys:List Bd),uo (xs++ys)->uo xs/\uo ys
 |[],ys,h=>⟨trivial,h⟩
 | x::xs,ys,h=>by
   simp only[R5]at h;rw[uo]at h;have:=mw xs ys h.2;exact⟨⟨h.1,this.1⟩,this.2⟩
theorem rdN_wf (e:Nat):∀(hand:List Ty) (l:Bs) (b:Bd) (r:Bs),rdN e hand l=OK (b,r)->wfB b/\kq b<e:=by
 induction e with
 |zero=>intro hand l b r h;simp[rdN]at h
 | succ e ih =>
   intro hand l b r h;cases l with
   |nil=>simp[rdN]at h
   | cons c m =>
     simp only[rdN]at h;split at h
     ·rename_i hc;simp at h;obtain⟨rfl,_⟩:=h;exact⟨hc,by simp[kq]⟩
     ·split at h
      ·simp at h
      ·split at h
       ·simp at h
       ·split at h
        ·simp at h
        ·simp only[RJ,RH,Prod.exists]at h;obtain⟨ps,l1,h1,l2,h2,b',h3,h4⟩:=h;simp at h4;obtain⟨rfl,_⟩:=h4;obtain⟨ss,y,no,rfl,rfl⟩:=rL h3;have k1:=gR (P:=fun b=>wfB b/\kq b<e) (fun hand l b r h=>ih hand l b r h) _ _ _ _ h1;have k2:=mw _ _ (wfBs_of _ fun p hp=>(k1 p hp).1);refine⟨⟨k2.1,k2.2.1,k2.2.2.1⟩,?_⟩;rw[xz];have key:∀(qs:List Bd),(∀q∈qs,kq q<e)->k_ qs<=e:=by
          intro qs
          induction qs with
          |nil=>intro _;simp[k_]
          | cons q qs ihq =>
            intro hq;have h1:=hq q (by simp);have h2:=ihq fun x hx=>hq x (by simp[hx]);simp only[k_];omega
         exact Nat.lt_succ_of_le (key _ fun q hq=>(k1 q hq).2)
mutual
theorem wW:∀(b:Bd) (hand:List Ty) (e:Nat),qB hand b->kq b<e->jD e hand->2*(kZ b).length+7<=9*zG b
 |.leaf c,hand,e,_,_,_=>by simp[kZ,zG]
 |.ask v ss y n,hand,0,_,h,_=>by omega
 | .ask v ss y n,hand,e+1,hf,hd,hh=>by
   have hf':=hf;rw[qB]at hf;obtain⟨t,ht,h1,h2,h3⟩:=hf;have hv:v<10000:=by
    have h1:=(RR.1 ht).1;have:=hh.2;omega
   have h4:(dec v).length<=4:=vP 3 v (by omega);have hs:jD e hand:=by have:=hh.same;rwa [R9]at this
   simp only[kq]at hd;have k1:=dY ss t.args hand e h1 (by omega) (fun a ha=>hh.next ht ha);have k2:=wW y hand e h2 (by omega) hs;have k3:=wW n hand e h3 (by omega) hs;rw[eR,vg];simp only[kT,zG,RL,RU,Sq];omega
theorem dY:∀(bs:List Bd) (ts:List Ty) (hand:List Ty) (e:Nat),qZ (kx hand ts) bs->k_ bs<=e->(∀a∈ts,jD e (hand++a.args))->2*(kT bs).length<=9*zI bs
 |[],ts,hand,e,_,_,_=>by simp[kT]
 | b::bs,ts,hand,e,hf,hd,hh=>by
   rw[qZ]at hf;obtain⟨h',lw,e',h1,h2⟩:=hf;cases ts with
   |nil=>simp[kx]at e'
   | cons t ts =>
     simp only[kx,Sa,RY]at e';obtain⟨rfl,rfl⟩:=e';simp only[k_]at hd;have k1:=wW b (hand++t.args) e h1 (by omega) (hh t (by simp));have k2:=dY bs ts hand e h2 (by omega) (fun a ha=>hh a (by simp[ha]));simp only[kT,zI,RL,RU,Sq];omega
end
theorem jD.less {d e:Nat}{levels:List Ty}(h:jD e levels)(hd:d<=e):jD d levels:=⟨h.1,by have:=h.2;omega⟩
theorem mo {t:Ty}(ht:zU t<=15){b:Bd}(hf:qB t.args b)(hw:wfB b)(hs:zG b<=200):kP (zS t) (kZ b)=if kq b<=100 then OK b else U:=by
 have hd:=bh _ b (sZ _);have hh:jD 201 t.args:=by
  have h1:=fU ht;have h2:=kI t;have h3:=kW t.args;exact⟨h1.1,by omega⟩
 have hl:=wW b t.args 201 hf (by omega) hh;unfold kP;rw[vh ht];simp only;rw[if_neg (by simp;omega)];by_cases AQ:kq b<=100
 ·have:=rdN_text 101 t.args b [] hf hw (by omega) (hh.less (by omega));rw[R9]at this;rw[this,if_pos AQ];simp[hs]
 ·rw[if_neg AQ];cases hq:rdN 101 t.args (kZ b) with
  |none=>rfl
  | some x =>
    obtain⟨b',r⟩:=x;have h1:=rdN_mono 101 201 _ _ _ (by omega) hq;have h2:=rdN_text 201 t.args b [] hf hw (by omega) hh;rw[R9]at h2;rw[h2]at h1;simp at h1;obtain⟨rfl,rfl⟩:=h1;have:=(rdN_wf _ _ _ _ _ hq).2;omega
theorem vG {p l r:Bs}(h:cut p l=r):l=p++r:=by
 unfold cut at h;split at h
 ·rename_i hp;simp at h;obtain⟨q,hq⟩:=List.isPrefixOf_iff_prefix.1 hp;subst hq;simp at h;rw[h]
 ·simp at h
theorem dec_dd (n:Nat):dec n=Sk n:=by
 induction n using TF with
 | _ n ih =>
   by_cases h:n<10
   ·rw[vM h,Sk,dif_pos h];rfl
   ·rw[ve h,Sk,dif_neg h,ih (n / 10) (Up (by omega) (by omega))];rfl
theorem specNum_text {m:Bs}{v k:Nat}(h:jE m=OK (v,k)):m=dec v++m.drop k:=by
 obtain⟨h1,h2,h3,h4⟩:=dP h;have hd:dec v=qD m:=by
  rw[dec_dd,h2];exact d_ _ _ rfl h1 (yw m) h4
 obtain⟨q,hq⟩:=y7 m;rw[hd,h3]
 conv=>lhs;rw[<- hq]
 conv=>rhs;rw[<- hq]
 have:qD (qD m++q)=qD m:=by rw[hq]
 rw[this,Vh]
theorem gP {rd:RdS}(ih:∀hand l b r,rd hand l=OK (b,r)->l=kZ b++r):∀(hs:List (List Ty)) (l:Bs) (ps:List Bd) (r:Bs),zN rd hs l=OK (ps,r)->l=kT ps++r
 |[],l,ps,r,h=>by simp[zN]at h;obtain⟨rfl,rfl⟩:=h;simp[kT]
 | a::hs,l,ps,r,hx=>by
   simp only[zN,qC,RJ,RH,Prod.exists]at hx;obtain⟨b,l1,⟨l0,h0,h1⟩,bs,l2,h2,h3⟩:=hx;simp at h3;obtain⟨rfl,rfl⟩:=h3;rw[vG h0,ih _ _ _ _ h1,gP ih hs l1 bs l2 h2];simp[kT]
theorem rdN_canon (e:Nat):∀(hand:List Ty) (l:Bs) (b:Bd) (r:Bs),rdN e hand l=OK (b,r)->l=kZ b++r:=by
 induction e with
 |zero=>intro hand l b r h;simp[rdN]at h
 | succ e ih =>
   intro hand l b r h;cases l with
   |nil=>simp[rdN]at h
   | cons c m =>
     simp only[rdN]at h;split at h
     ·simp at h;obtain⟨rfl,rfl⟩:=h;simp[kZ]
     ·split at h
      ·simp at h
      ·rename_i iY;have iY:c=40:=by simpa using iY
       subst iY;split at h
       ·simp at h
       ·rename_i v k hn;split at h
        ·simp at h
        ·simp only[RJ,RH,Prod.exists]at h;obtain⟨ps,l1,h1,l2,h2,b',h3,h4⟩:=h;simp at h4;obtain⟨rfl,rfl⟩:=h4;obtain⟨ss,y,no,rfl,rfl⟩:=rL h3;rw[eR]
         conv=>lhs;rw[specNum_text hn,gP ih _ _ _ _ h1,vG h2]
         simp
theorem m9 {s text:Bs}{b:Bd}(h:kP s text=b):(zD s).2=OX/\rdN 101 (zD s).1.args text=OK (b,[])/\zG b<=200:=by
 unfold kP at h;split at h
 ·simp at h
 ·rename_i h0;split at h
  ·simp at h
  ·rename_i b' rest hq;split at h
   ·rename_i hc;simp at h;subst h;obtain⟨rfl,h2⟩:=hc;exact⟨by simpa using (not_or.1 h0).1,hq,h2⟩
   ·simp at h
structure Good (t:Ty)(b:Bd):Prop where
 atoms:zU t<=15
 fit:qB t.args b
 wf:wfB b
 size:zG b<=200
 depth:kq b<=100
theorem xt {s text:Bs}{b:Bd}(h:kP s text=b):Good (zD s).1 b/\text=kZ b:=by
 obtain⟨h1,h2,h3⟩:=m9 h;have hw:=rdN_wf _ _ _ _ _ h2;refine⟨⟨xQ h1,rdN_fit _ h2,hw.1,h3,by have:=hw.2;omega⟩,?_⟩;have:=rdN_canon _ _ _ _ _ h2;rwa [R9]at this
theorem dX {t:Ty}{b:Bd}(h:Good t b):kP (zS t) (kZ b)=b:=by
 rw[mo h.atoms h.fit h.wf h.size,if_pos h.depth]
theorem rdK_canon (d:Nat):∀(l:Bs) (t:Ty) (r:Bs),rdK d l=OK (t,r)->l=zS t++r:=by
 induction d with
 | zero =>
   intro l t r h;rcases kC [98] l with hc|⟨r',hc⟩
   ·rw[xX hc]at h;simp at h
   ·rw[xR hc]at h;simp at h;obtain⟨rfl,rfl⟩:=h;rw[yA];exact vG hc.out
 | succ d ih =>
   intro l t r h;rcases kC [98] l with hc|⟨r',hc⟩
   ·rw[jj hc]at h;simp only[RJ,RH,Prod.exists]at h;obtain⟨r1,h1,a,r2,h2,r3,h3,b,r4,h4,r5,h5,h6⟩:=h;simp at h6;obtain⟨rfl,rfl⟩:=h6;cases b with
    |mk bs=>
    rw[zi,yL,vG h1,ih _ _ _ h2,vG h3,ih _ _ _ h4,vG h5];simp[Ty.args]
   ·rw[xR hc]at h;simp at h;obtain⟨rfl,rfl⟩:=h;rw[yA];exact vG hc.out
theorem gF {l:Bs}(h:(zD l).2=OX):l=zS (zD l).1/\zU (zD l).1<=15:=by
 refine⟨?_,xQ h⟩;unfold zD at h ⊢;split at h
 ·simp at h
 ·rename_i hl;rw[if_neg hl];cases hq:rdS 21 l with
  |none=>rw[hq]at h;simp at h
  | some x =>
    obtain⟨t,rest⟩:=x;rw[hq]at h;simp at h;obtain⟨h1,h2⟩:=h;have hq':rdK 20 l=OK (t,rest):=hq;have hr:=rdK_canon _ _ _ _ hq';simp only;have h3:rest=[]:=by simpa using h1
    rw[h3,R9]at hr;exact hr
mutual
def wfM:Mn->Prop
 |.op _ _=>True
 |.bd _ b e=>wfB b/\wh e
def wh:List Mn->Prop
 |[]=>True
 |m::ms=>wfM m/\wh ms
end
theorem jw:∀(xs ys:List Mn),wh xs->wh ys->wh (xs++ys)
 |[],ys,_,h=>h
 |x::xs,ys,h,k=>by rw[wh]at h;exact⟨h.1,jw xs ys h.2 k⟩
theorem wfMs_at:∀(xs:List Mn),wh xs->∀(k:Nat) (m:Mn),xs[k]?=m->wfM m
 |[],_,k,b,h=>by simp at h
 | x::xs,hw,k,b,h=>by
   rw[wh]at hw;cases k with
   |zero=>simp at h;subst h;exact hw.1
   |succ k=>exact wfMs_at xs hw.2 k b (by simpa using h)
theorem jI:∀(ts:List Ty) (n:Nat),wh (opens n ts)
 |[],n=>trivial
 |t::ts,n=>⟨trivial,jI ts (n+1)⟩
theorem wu {env:List Mn}(he:wh env):∀(ts:List Ty) (ss:List Bd),uo ss->wh (jV env ts ss)
 | [],ss,_=>by rw [jV];· trivial
               ·intros;contradiction
 | t::ts,[],_=>by rw [jV];· trivial
                  ·intros;contradiction
 | t::ts,s::ss,h=>by
   rw[uo]at h;rw[jV];exact⟨⟨h.1,he⟩,wu he ts ss h.2⟩
def wfG (f:Gf):Prop:=wfB f.yes/\wfB f.no/\wh f.env
theorem evSubs_wf {d n:Nat}{env:List Mn}(he:wh env)(ih:∀(l:Nat) (b:Bd) (env:List Mn) (n:Nat) (st:List Gf) (out:Bd) (l':Nat),wfB b->wh env->(∀f∈st,wfG f)->ev d l b env n st=OK (out,l')->wfB out) :
 ∀(ts:List Ty) (ss:List Bd) (l:Nat) (outs:List Bd) (l':Nat),uo ss->qQ (ev d) env n l ts ss=OK (outs,l')->uo outs
 |[],ss,l,outs,l',_,h=>by simp[qQ]at h;obtain⟨rfl,_⟩:=h;trivial
 |t::ts,[],l,outs,l',_,h=>by simp[qQ]at h;obtain⟨rfl,_⟩:=h;trivial
 | t::ts,s::ss,l,outs,l',hs,h=>by
   rw[uo]at hs;simp only[qQ,RJ,RH,Prod.exists]at h;obtain⟨x,l1,h1,xs,l2,h2,h3⟩:=h;simp at h3;obtain⟨rfl,rfl⟩:=h3;exact⟨ih _ _ _ _ _ _ _ hs.1 (jw _ _ he (jI _ _)) (by simp) h1,evSubs_wf he ih ts ss l1 xs l2 hs.2 h2⟩
theorem ev_wf (d:Nat):∀(l:Nat) (b:Bd) (env:List Mn) (n:Nat) (st:List Gf) (out:Bd) (l':Nat),wfB b->wh env->(∀f∈st,wfG f)->ev d l b env n st=OK (out,l')->wfB out:=by
 induction d with
 |zero=>intro l b env n st out l' _ _ _ h;simp[ev]at h
 | succ d ih =>
   intro l b env n st out l' hb he hs h;rw[ev.eq_def]at h;cases l with
   |zero=>simp at h
   | succ l =>
     simp only at h;cases b with
     | leaf c =>
       simp only at h;split at h
       ·simp at h;obtain⟨rfl,_⟩:=h;exact hb
       ·cases st with
        |nil=>simp at h;obtain⟨rfl,_⟩:=h;exact hb
        | cons f st' =>
          obtain⟨k1,k2,k3⟩:=hs f (by simp);refine ih _ _ _ _ _ _ _ ?_ k3 (fun g hg=>hs g (by simp[hg])) h;split
          ·exact k1
          ·exact k2
     | ask v ss y no =>
       rw[wfB]at hb;simp only at h;cases hv:env[v]? with
       |none=>rw[hv]at h;simp at h
       | some m =>
         rw[hv]at h;have hm:=wfMs_at _ he _ _ hv;cases m with
         | bd t b' e =>
           rw[wfM]at hm;refine ih _ _ _ _ _ _ _ hm.1 (jw _ _ hm.2 (wu he _ _ hb.1)) (fun f hf=>?_) h;rcases Sc.1 hf with rfl|hf
           ·exact⟨hb.2.1,hb.2.2,he⟩
           ·exact hs f hf
         | op o t =>
           simp only[RJ,RH,Prod.exists]at h;obtain⟨xs,l1,h1,x,l2,h2,z,l3,h3,h4⟩:=h;simp at h4;obtain⟨rfl,_⟩:=h4;exact⟨evSubs_wf he ih _ _ _ _ _ hb.1 h1,ih _ _ _ _ _ _ _ hb.2.1 he hs h2,ih _ _ _ _ _ _ _ hb.2.2 he hs h3⟩
def vx (b:Bd)(env:List Mn)(n:Nat):Option Bd:=match ev 20000 20000 b env n [] with
 |some (out,_)=>if zG out<=200/\kq out<=100 then OK out else U
 |none=>U
def yS (b:Bd)(env:List Mn)(n:Nat):Option Bd:=(evN 20000 200 20000 b env n []).map (·.1)
theorem writes_eq (b:Bd)(env:List Mn)(n:Nat):yS b env n=match ev 20000 20000 b env n [] with
 |some (out,_)=>if zG out<=200 then OK out else U
 |none=>U:=by
 unfold yS;rw[evN_eq];cases ev 20000 20000 b env n [] with
 |none=>rfl
 | some x =>
   obtain⟨out,l⟩:=x;simp only[gZ];split <;> rfl
theorem cM {a:Ty}{rest:List Ty}{t:Ty}(h:t.args=a::rest):zU t=1+zU a+zU (.mk rest):=by
 cases t with
 |mk ts=>simp only[Ty.args]at h;subst h;exact ul a rest
theorem dE {t:Ty}(ht:zU t<=15){l:Bs}{b:Bd}(h:qd t l=b):Good t b/\l=kZ b:=by
 rw[dD ht]at h;have:=xt h;rw[vh ht]at this;exact this
inductive Tr where
 |am (a:Bs)
 |ls (ps:List Tr)
mutual
def zy:Tr->Bs
 |.am a=>a
 |.ls ps=>40::j9 ps
def j9:List Tr->Bs
 |[]=>[41]
 |p::ps=>zy p++qV ps
def qV:List Tr->Bs
 |[]=>[41]
 |p::ps=>32::(zy p++qV ps)
end
mutual
def jF:Tr->Prop
 |.am a=>a≠[]/\∀c∈a,sep c=RC
 |.ls ps=>ps≠[]/\qv ps
def qv:List Tr->Prop
 |[]=>True
 |p::ps=>jF p/\qv ps
end
mutual
def jS:Tr->Nat
 |.am _=>0
 |.ls ps=>1+qx ps
def qx:List Tr->Nat
 |[]=>0
 |p::ps=>max (jS p) (qx ps)
end
mutual
def qM:Tr->Nat
 |.am _=>1
 |.ls ps=>kE ps
def kE:List Tr->Nat
 |[]=>0
 |p::ps=>qM p+kE ps
end
def xY (rd:Bs->Option (Tr×Bs)):Nat->Bs->Option (List Tr×Bs)
 |0,_=>U
 | n+1,l=>(rd l).bind fun x=>match x.2 with
   |[]=>U
   |c::r=>if c=41 then OK ([x.1],r) else if c=32 then (xY rd n r).map fun y=>(x.1::y.1,y.2) else U
def vE:Nat->Bs->Option (Tr×Bs)
 |0,_=>U
 | d+1,l=>match l with
   |[]=>U
   |c::r=>if c=40 then (xY (vE d) (r.length+1) r).map fun y=>(.ls y.1,y.2) else if zR l=[] then U else OK (.am (zR l),zM l)
theorem bH (d:Nat)(r:Bs):vE (d+1) (40::r)=(xY (vE d) (r.length+1) r).map fun y=>(.ls y.1,y.2):=by rw[vE];simp
theorem bD (d:Nat)(c:UInt8)(r:Bs)(h:c≠40):vE (d+1) (c::r)=if zR (c::r)=[] then U else OK (.am (zR (c::r)),zM (c::r)):=by rw[vE];simp[h]
theorem wordOf_pos {l:Bs}(h:zR l≠[]):(zM l).length<l.length:=by
 have:=congrArg List.length (v7 l);rw[RL]at this
 have:0<(zR l).length:=by cases hw:zR l with
  |nil=>exact absurd hw h
  |cons c r=>simp
 omega
def Shrinks (rd:Bs->Option (Tr×Bs)):Prop:=∀l t r,rd l=OK (t,r)->r.length<l.length
theorem cJ {rd:Bs->Option (Tr×Bs)}(h:Shrinks rd):∀(n:Nat) (l:Bs) (ps:List Tr) (r:Bs),xY rd n l=OK (ps,r)->r.length<l.length
 |0,l,ps,r,k=>by simp[xY]at k
 | n+1,l,ps,r,k=>by
   rw[xY,RH]at k;obtain⟨⟨t,r1⟩,k1,k2⟩:=k;have h1:=h _ _ _ k1;cases r1 with
   |nil=>simp at k2
   | cons c r1 =>
     simp only[RU]at h1;simp only at k2;split at k2
     ·simp at k2;obtain⟨_,rfl⟩:=k2;omega
     ·split at k2
      ·rw[RP]at k2;obtain⟨⟨qs,r2⟩,k3,k4⟩:=k2;simp at k4;obtain⟨_,rfl⟩:=k4;have:=cJ h n _ _ _ k3;omega
      ·simp at k2
theorem yV:∀d,Shrinks (vE d)
 |0=>fun l t r h=>by simp[vE]at h
 | d+1=>fun l t r h=>by
   cases l with
   |nil=>simp[vE]at h
   | cons c l =>
     by_cases hc:c=40
     ·subst hc;rw[bH,RP]at h;obtain⟨⟨ps,r1⟩,h1,h2⟩:=h;simp at h2;obtain⟨_,rfl⟩:=h2;have:=cJ (yV d) _ _ _ _ h1;simp;omega
     ·rw[bD d c l hc]at h;split at h
      ·simp at h
      ·rename_i hw;simp at h;obtain⟨_,rfl⟩:=h;exact wordOf_pos hw
theorem nC {rd:Bs->Option (Tr×Bs)}(h:Shrinks rd):∀(n m:Nat) (l:Bs),l.length<n->l.length<m->xY rd n l=xY rd m l
 |0,_,_,k,_=>by omega
 |_+1,0,_,_,k=>by omega
 | n+1,m+1,l,k,k'=>by
   rw[xY,xY];cases hq:rd l with
   |none=>rfl
   | some x =>
     obtain⟨t,r1⟩:=x;have h1:=h _ _ _ hq;simp only[RF];cases r1 with
     |nil=>rfl
     | cons c r1 =>
       simp only[RU]at h1;simp only;rw[nC h n m r1 (by omega) (by omega)]
theorem tail_start (ps:List Tr)(r:Bs):jN (qV ps++r):=by
 cases ps with
 |nil=>rw[qV];exact .inr ⟨41,r,rfl,by decide⟩
 |cons p ps=>rw[qV];exact .inr ⟨32,_,rfl,by decide⟩
mutual
theorem bG:∀(t:Tr) (d:Nat) (r:Bs),jF t->jS t<d->jN r->vE d (zy t++r)=OK (t,r)
 | .am a,d,r,ho,hd,hr=>by
   rw[jF]at ho;obtain⟨d,rfl⟩:∃k,d=k+1:=⟨d-1,by omega⟩;obtain⟨h1,h2⟩:=bQ ho.2 hr;rw[zy];cases a with
   |nil=>exact absurd rfl ho.1
   | cons c a =>
     have hc:c≠40:=by rintro rfl;have:=ho.2 40 (by simp);simp[sep]at this
     rw[R5] at *;rw[bD d c _ hc,h1,h2,if_neg (by simp)]
 | .ls ps,d,r,ho,hd,hr=>by
   rw[jF]at ho;rw[jS]at hd;obtain⟨d,rfl⟩:∃k,d=k+1:=⟨d-1,by omega⟩;rw[zy,R5,bH];have:=nH ps d r _ ho.2 ho.1 (by omega) (Wc _);rw[this];rfl
theorem nH:∀(ps:List Tr) (d:Nat) (r:Bs) (n:Nat),qv ps->ps≠[]->qx ps<d->(j9 ps++r).length<n->xY (vE d) n (j9 ps++r)=OK (ps,r)
 |[],d,r,n,_,hne,_,_=>absurd rfl hne
 | p::ps,d,r,n,ho,_,hd,hn=>by
   rw[qv]at ho;rw[qx]at hd;obtain⟨n,rfl⟩:∃k,n=k+1:=⟨n-1,by omega⟩;have h1:=bG p d (qV ps++r) ho.1 (by omega) (tail_start ps r);rw[j9,Sn] at *;rw[xY,h1,RF];have hl:=yV d _ _ _ h1;cases ps with
   |nil=>rw[qV];simp
   | cons q qs =>
     rw[qV] at *;simp only[R5];rw[if_neg (by decide),if_pos trivial];have e:j9 (q::qs)=zy q++qV qs:=by rw[j9]
     have:=nH (q::qs) d r n ho.2 (by simp) (by omega) (by
      rw[e];simp only[R5,RU,RL]at hn hl ⊢
      omega)
     rw[e]at this;rw[this];rfl
end
theorem fw {d:Nat}(ih:∀(l:Bs) (t:Tr) (r:Bs),vE d l=OK (t,r)->l=zy t++r/\jF t/\jS t<d/\(∀a,t=.am a->jN r)) :
 ∀(n:Nat) (l:Bs) (ps:List Tr) (r:Bs),xY (vE d) n l=OK (ps,r)->l=j9 ps++r/\qv ps/\ps≠[]/\qx ps<d
 |0,l,ps,r,k=>by simp[xY]at k
 | n+1,l,ps,r,k=>by
   rw[xY,RH]at k;obtain⟨⟨t,r1⟩,k1,k2⟩:=k;obtain⟨e1,o1,d1,_⟩:=ih _ _ _ k1;cases r1 with
   |nil=>simp at k2
   | cons c r1 =>
     simp only at k2;split at k2
     ·rename_i hc;simp at k2;obtain⟨rfl,rfl⟩:=k2;subst hc;refine⟨?_,?_,by simp,?_⟩
      ·rw[j9,qV,e1];simp
      ·rw[qv,qv];exact⟨o1,trivial⟩
      ·rw[qx,qx];omega
     ·split at k2
      ·rename_i hc;rw[RP]at k2;obtain⟨⟨qs,r2⟩,k3,k4⟩:=k2;simp at k4;obtain⟨rfl,rfl⟩:=k4;obtain⟨e2,o2,n2,d2⟩:=fw ih n _ _ _ k3;subst hc;refine⟨?_,?_,by simp,?_⟩
       ·cases qs with
        |nil=>exact absurd rfl n2
        |cons q qs=>rw[j9]at e2;rw[j9,qV,e1,e2];simp
       ·rw[qv];exact⟨o1,o2⟩
       ·rw[qx];omega
      ·simp at k2
theorem xi:∀(d:Nat) (l:Bs) (t:Tr) (r:Bs),vE d l=OK (t,r)->l=zy t++r/\jF t/\jS t<d/\(∀a,t=.am a->jN r)
 |0,l,t,r,h=>by simp[vE]at h
 | d+1,l,t,r,h=>by
   cases l with
   |nil=>simp[vE]at h
   | cons c l =>
     by_cases hc:c=40
     ·subst hc;rw[bH,RP]at h;obtain⟨⟨ps,r1⟩,h1,h2⟩:=h;simp at h2;obtain⟨rfl,rfl⟩:=h2;obtain⟨e1,o1,n1,d1⟩:=fw (xi d) _ _ _ _ h1;refine⟨by rw[zy,e1];rfl,by rw[jF];exact⟨n1,o1⟩,by rw[jS];omega,fun a e=>by simp at e⟩
     ·rw[bD d c l hc]at h;split at h
      ·simp at h
      ·rename_i hw;simp at h;obtain⟨rfl,rfl⟩:=h;refine⟨by rw[zy];exact v7 _,?_,by rw[jS];omega,fun a _=>gD _⟩;rw[jF];refine⟨hw,fun x hx=>?_⟩;have key:∀(m:Bs),∀y∈m.takeWhile (fun c=>!sep c),sep y=RC:=by
        intro m
        induction m with
        |nil=>intro y hy;simp at hy
        | cons z m ih =>
          intro y hy;rw[TS]at hy;split at hy
          ·rename_i hz;rcases Sc.1 hy with rfl|hy
           ·simpa using hz
           ·exact ih y hy
          ·simp at hy
       exact key _ x hx
def qi (s:Bs):Bool:=match s with
 |[]=>RC
 |c::r=>decide (r.length<=2) && (120<=c && c<=122) && r.all dig
def vX:Bs:=[108,97,109]
def uV:Bs:=[97,112,112]
def ifW:Bs:=[105,102]
def js (a:Bs):Bool:=a == [116] || a == [102] || a == [117]
def qo:List Tr->Bs
 |.am a::_=>a
 |_=>[]
def qE:Tr->Bs
 |.am a=>a
 |.ls _=>[]
def qw:Tr->Bool
 |.am a=>js a || qi a
 |.ls [h,a,b]=>qo [h] == uV && qw a && qw b
 |.ls [h,a,b,c]=>(qo [h] == vX && (qi (qE a) && (zD (zy b)).2 && qw c)) || (qo [h] == ifW && (qw a && qw b && qw c))
 |.ls _=>RC
def qg (l:Bs):Option Tr:=if 1000<l.length then U else match vE 101 l with
 |some (t,[])=>if qw t && decide (qM t<=60) then OK t else U
 |_=>U
inductive Tm where
 |nm (x:Bs)
 |wd (w:Bs)
 |lam (x:Bs) (k:Ty) (t:Tm)
 |app (m n:Tm)
 |ite (l m n:Tm)
def zO:Tm->Nat
 |.nm _=>1
 |.wd _=>1
 |.lam _ k t=>2+zU k+zO t
 |.app m n=>1+zO m+zO n
 |.ite l m n=>1+zO l+zO m+zO n
def trT:Ty->Tr
 |.mk ts=>trTs ts
where trTs:List Ty->Tr
 |[]=>.am [98]
 |t::ts=>.ls [.am [62],trT t,trTs ts]
def kg:Tm->Tr
 |.nm x=>.am x
 |.wd w=>.am w
 |.lam x k t=>.ls [.am vX,.am x,trT k,kg t]
 |.app m n=>.ls [.am uV,kg m,kg n]
 |.ite l m n=>.ls [.am ifW,kg l,kg m,kg n]
def xA:Tm->Prop
 |.nm x=>qi x=OX
 |.wd w=>js w=OX
 |.lam x _ t=>qi x=OX/\xA t
 |.app m n=>xA m/\xA n
 |.ite l m n=>xA l/\xA m/\xA n
def kJ:Tm->Bool
 |.nm _=>OX
 |.wd _=>OX
 |.lam _ k t=>decide (zU k<=15) && kJ t
 |.app m n=>kJ m && kJ n
 |.ite l m n=>kJ l && kJ m && kJ n
def jy:Tm->Nat
 |.nm _=>0
 |.wd _=>0
 |.lam _ _ t=>1+jy t
 |.app m n=>1+max (jy m) (jy n)
 |.ite l m n=>1+max (jy l) (max (jy m) (jy n))
def jG:Nat->Bs->Option (Tm×Bs)
 | d,l=>match cut [40] l with
   |none=>if qi (zR l) then OK (.nm (zR l),zM l) else if js (zR l) then OK (.wd (zR l),zM l) else U
   | some l1=>match d with
     |0=>U
     | d+1 =>
       if zR l1=vX then (cut [32] (zM l1)).bind fun l3=>if qi (zR l3) then (cut [32] (zM l3)).bind fun l4=>(rdK 60 l4).bind fun k=>(cut [32] k.2).bind fun l6=>(jG d l6).bind fun t=>(cut [41] t.2).map fun l8=>(.lam (zR l3) k.1 t.1,l8) else U
       else if zR l1=uV then (cut [32] (zM l1)).bind fun l3=>(jG d l3).bind fun m=>(cut [32] m.2).bind fun l4=>(jG d l4).bind fun n=>(cut [41] n.2).map fun l5=>(.app m.1 n.1,l5)
       else if zR l1=ifW then (cut [32] (zM l1)).bind fun l3=>(jG d l3).bind fun x=>(cut [32] x.2).bind fun l4=>(jG d l4).bind fun m=>(cut [32] m.2).bind fun l5=>(jG d l5).bind fun n=>(cut [41] n.2).map fun l6=>(.ite x.1 m.1 n.1,l6)
       else U
def jW (l:Bs):Option Tm:=match jG 60 l with
 |some (t,[])=>if zO t<=60 then OK t else U
 |_=>U
theorem xG {x:Bs}(h:qi x=OX):x≠[]/\∀c∈x,sep c=RC:=by
 cases x with
 |nil=>simp[qi]at h
 | cons c r =>
   simp only[qi,R3,decide_eq_true_eq,Uh]at h;obtain⟨⟨_,h1,h2⟩,h3⟩:=h;refine⟨by simp,fun y hy=>?_⟩;rcases Sc.1 hy with rfl|hy
   ·rw[UV];intro hs;simp only[sep,S4,beq_iff_eq]at hs;rcases hs with (rfl|rfl)|rfl <;> revert h1 <;> decide
   ·exact dig_sep (h3 y hy)
theorem pG {x:Bs}(h:js x=OX):x≠[]/\∀c∈x,sep c=RC:=by
 simp only[js,S4,beq_iff_eq]at h;rcases h with (rfl|rfl)|rfl <;> exact⟨by simp,by intro c hc;simp at hc;subst hc;decide⟩
theorem fK {x:Bs}(h:js x=OX):qi x=RC:=by
 simp only[js,S4,beq_iff_eq]at h;rcases h with (rfl|rfl)|rfl <;> decide
mutual
theorem v8:∀k:Ty,zy (trT k)=zS k
 |.mk ts=>by rw[trT,textTr_Ts ts]
theorem textTr_Ts:∀ts:List Ty,zy (trT.trTs ts)=zS (.mk ts)
 |[]=>by rw[trT.trTs,zy,yA]
 |t::ts=>by rw[trT.trTs,zy,j9,qV,qV,qV,zy,v8 t,textTr_Ts ts,yL];simp
end
mutual
theorem cz:∀k:Ty,jF (trT k)
 |.mk ts=>by rw[trT];exact okTr_Ts ts
theorem okTr_Ts:∀ts:List Ty,jF (trT.trTs ts)
 |[]=>by rw[trT.trTs,jF];exact⟨by simp,by intro c hc;simp at hc;subst hc;decide⟩
 | t::ts=>by
   rw[trT.trTs,jF,qv,qv,qv,qv];exact⟨by simp,by rw[jF];exact⟨by simp,by intro c hc;simp at hc;subst hc;decide⟩,cz t,okTr_Ts ts,trivial⟩
end
mutual
theorem gT:∀k:Ty,qM (trT k)=zU k
 |.mk ts=>by rw[trT,sizeTr_Ts ts]
theorem sizeTr_Ts:∀ts:List Ty,qM (trT.trTs ts)=zU (.mk ts)
 |[]=>by rw[trT.trTs,qM,zU,zc]
 |t::ts=>by rw[trT.trTs,qM,kE,kE,kE,kE,qM,gT t,sizeTr_Ts ts,ul];omega
end
mutual
theorem deepTr_T:∀k:Ty,jS (trT k)<zU k
 |.mk ts=>by rw[trT];exact deepTr_Ts ts
theorem deepTr_Ts:∀ts:List Ty,jS (trT.trTs ts)<zU (.mk ts)
 |[]=>by rw[trT.trTs,jS,zU];omega
 | t::ts=>by
   have h1:=deepTr_T t;have h2:=deepTr_Ts ts;rw[trT.trTs,jS,qx,qx,qx,qx,jS,ul];omega
end
theorem uW:∀t:Tm,xA t->jF (kg t)
 |.nm x,h=>by rw[kg,jF];exact xG h
 |.wd w,h=>by rw[kg,jF];exact pG h
 | .lam x k t,h=>by
   rw[kg,jF,qv,qv,qv,qv,qv];exact⟨by simp,by rw[jF];exact⟨by decide,by decide⟩,by rw[jF];exact xG h.1,cz k,uW t h.2,trivial⟩
 | .app m n,h=>by
   rw[kg,jF,qv,qv,qv,qv];exact⟨by simp,by rw[jF];exact⟨by decide,by decide⟩,uW m h.1,uW n h.2,trivial⟩
 | .ite l m n,h=>by
   rw[kg,jF,qv,qv,qv,qv,qv];exact⟨by simp,by rw[jF];exact⟨by decide,by decide⟩,uW l h.1,uW m h.2.1,uW n h.2.2,trivial⟩
theorem uh:∀t:Tm,qM (kg t)=zO t
 |.nm x=>by rw[kg,qM,zO]
 |.wd w=>by rw[kg,qM,zO]
 |.lam x k t=>by rw[kg,qM,kE,kE,kE,kE,kE,qM,qM,gT,uh t,zO];omega
 |.app m n=>by rw[kg,qM,kE,kE,kE,kE,qM,uh m,uh n,zO];omega
 |.ite l m n=>by rw[kg,qM,kE,kE,kE,kE,kE,qM,uh l,uh m,uh n,zO];omega
theorem yg:∀t:Tm,jS (kg t)<zO t
 |.nm x=>by rw[kg,jS,zO];omega
 |.wd w=>by rw[kg,jS,zO];omega
 | .lam x k t=>by
   have h1:=deepTr_T k;have h2:=yg t;rw[kg,jS,qx,qx,qx,qx,qx,jS,jS,zO];omega
 | .app m n=>by
   have h1:=yg m;have h2:=yg n;rw[kg,jS,qx,qx,qx,qx,jS,zO];omega
 | .ite l m n=>by
   have h0:=yg l;have h1:=yg m;have h2:=yg n;rw[kg,jS,qx,qx,qx,qx,qx,jS,zO];omega
theorem uQ:∀t:Tm,jy t<zO t
 |.nm x=>by rw[jy,zO];omega
 |.wd w=>by rw[jy,zO];omega
 |.lam x k t=>by have:=uQ t;rw[jy,zO];omega
 |.app m n=>by have:=uQ m;have:=uQ n;rw[jy,zO];omega
 |.ite l m n=>by have:=uQ l;have:=uQ m;have:=uQ n;rw[jy,zO];omega
def kK (t:Tm):Bs:=zy (kg t)
theorem xh (x:Bs)(k:Ty)(t:Tm):kK (.lam x k t)=40::(vX++32::(x++32::(zS k++32::(kK t++[41])))):=by
 unfold kK;rw[kg,zy,j9,qV,qV,qV,qV,zy,zy,v8]
theorem xf (m n:Tm):kK (.app m n)=40::(uV++32::(kK m++32::(kK n++[41]))):=by
 unfold kK;rw[kg,zy,j9,qV,qV,qV,zy]
theorem xd (l m n:Tm):kK (.ite l m n)=40::(ifW++32::(kK l++32::(kK m++32::(kK n++[41])))):=by
 unfold kK;rw[kg,zy,j9,qV,qV,qV,qV,zy]
theorem cut_no {c:UInt8}{l:Bs}(h:∀r,l≠c::r):cut [c] l=U:=by
 unfold cut;cases l with
 |nil=>rfl
 | cons d r =>
   have:d≠c:=by rintro rfl;exact h r rfl
   simp[List.isPrefixOf,this.symm]
theorem yI (c:UInt8)(r:Bs)(h:sep c=OX):jN (c::r):=.inr ⟨c,r,rfl,h⟩
theorem rdTm_word {d:Nat}{w r:Bs}(hw:w≠[]/\∀c∈w,sep c=RC)(hr:jN r):jG d (w++r)=if qi w then OK (.nm w,r) else if js w then OK (.wd w,r) else U:=by
 obtain⟨h1,h2⟩:=bQ hw.2 hr;have hc:cut [40] (w++r)=U:=cut_no fun r' e=>by
  cases w with
  |nil=>exact hw.1 rfl
  | cons c w =>
    simp at e;have:=hw.2 c (by simp);rw[e.1]at this;simp[sep]at this
 rw[jG.eq_def];simp only[hc,h1,h2]
theorem vZ {d:Nat}{l:Bs}:jG (d+1) (40::l)=(
        if zR l=vX then (cut [32] (zM l)).bind fun l3=>if qi (zR l3) then (cut [32] (zM l3)).bind fun l4=>(rdK 60 l4).bind fun k=>(cut [32] k.2).bind fun l6=>(jG d l6).bind fun t=>(cut [41] t.2).map fun l8=>(.lam (zR l3) k.1 t.1,l8) else U
        else if zR l=uV then (cut [32] (zM l)).bind fun l3=>(jG d l3).bind fun m=>(cut [32] m.2).bind fun l4=>(jG d l4).bind fun n=>(cut [41] n.2).map fun l5=>(.app m.1 n.1,l5)
        else if zR l=ifW then (cut [32] (zM l)).bind fun l3=>(jG d l3).bind fun x=>(cut [32] x.2).bind fun l4=>(jG d l4).bind fun m=>(cut [32] m.2).bind fun l5=>(jG d l5).bind fun n=>(cut [41] n.2).map fun l6=>(.ite x.1 m.1 n.1,l6)
        else none):=by
 rw[jG.eq_def];simp only[yD]
theorem rdTm_zero {l:Bs}:jG 0 (40::l)=U:=by
 rw[jG.eq_def];simp only[yD]
theorem word_w {w:Bs}(hw:∀c∈w,sep c=RC){c:UInt8}{r:Bs}(h:sep c=OX):zR (w++c::r)=w/\zM (w++c::r)=c::r:=bQ hw (yI c r h)
theorem yz:∀(t:Tm) (d:Nat) (r:Bs),xA t->jy t<=d->zO t<=100->jN r->jG d (kK t++r)=OK (t,r)
 | .nm x,d,r,ho,_,_,hr=>by
   have e:kK (.nm x)=x:=by unfold kK;rw[kg,zy]
   rw[e,rdTm_word (xG ho) hr,if_pos (show qi x=OX from ho)]
 | .wd w,d,r,ho,_,_,hr=>by
   have e:kK (.wd w)=w:=by unfold kK;rw[kg,zy]
   rw[e,rdTm_word (pG ho) hr,fK ho,if_neg (by simp),if_pos (show js w=OX from ho)]
 | .lam x k t,d,r,ho,hd,hs,hr=>by
   rw[jy]at hd;rw[zO]at hs;obtain⟨d,rfl⟩:∃j,d=j+1:=⟨d-1,by omega⟩;have n1:=xG ho.1;have e:kK (.lam x k t)++r=40::(vX++32::(x++32::(zS k++32::(kK t++41::r)))):=by rw[xh];simp
   obtain⟨a1,a2⟩:=word_w (w:=vX) (by decide) (c:=32) (r:=x++32::(zS k++32::(kK t++41::r))) (by decide);obtain⟨b1,b2⟩:=word_w n1.2 (c:=32) (r:=zS k++32::(kK t++41::r)) (by decide);rw[e,vZ,a1,a2,if_pos rfl,yD];simp only[RF];rw[b1,b2,if_pos ho.1,yD];simp only[RF];rw[pV 60 k _ (by omega)];simp only[RF,yD];rw[yz t d (41::r) ho.2 (by omega) (by omega) (yI _ _ (by decide))];simp only[RF,yD,SR]
 | .app m n,d,r,ho,hd,hs,hr=>by
   rw[jy]at hd;rw[zO]at hs;obtain⟨d,rfl⟩:∃j,d=j+1:=⟨d-1,by omega⟩;have e:kK (.app m n)++r=40::(uV++32::(kK m++32::(kK n++41::r))):=by rw[xf];simp
   obtain⟨a1,a2⟩:=word_w (w:=uV) (by decide) (c:=32) (r:=kK m++32::(kK n++41::r)) (by decide);rw[e,vZ,a1,a2,if_neg (by decide),if_pos rfl,yD];simp only[RF];rw[yz m d _ ho.1 (by omega) (by omega) (yI _ _ (by decide))];simp only[RF,yD];rw[yz n d _ ho.2 (by omega) (by omega) (yI _ _ (by decide))];simp only[RF,yD,SR]
 | .ite l m n,d,r,ho,hd,hs,hr=>by
   rw[jy]at hd;rw[zO]at hs;obtain⟨d,rfl⟩:∃j,d=j+1:=⟨d-1,by omega⟩;have e:kK (.ite l m n)++r=40::(ifW++32::(kK l++32::(kK m++32::(kK n++41::r)))):=by rw[xd];simp
   obtain⟨a1,a2⟩:=word_w (w:=ifW) (by decide) (c:=32) (r:=kK l++32::(kK m++32::(kK n++41::r))) (by decide);rw[e,vZ,a1,a2,if_neg (by decide),if_neg (by decide),if_pos rfl,yD];simp only[RF];rw[yz l d _ ho.1 (by omega) (by omega) (yI _ _ (by decide))];simp only[RF,yD];rw[yz m d _ ho.2.1 (by omega) (by omega) (yI _ _ (by decide))];simp only[RF,yD];rw[yz n d _ ho.2.2 (by omega) (by omega) (yI _ _ (by decide))];simp only[RF,yD,SR]
theorem cL:∀(d:Nat) (l:Bs) (t:Tm) (r:Bs),jG d l=OK (t,r)->l=kK t++r/\xA t/\jy t<=d:=by
 intro d
 induction d with
 | zero =>
   intro l t r h;rw[jG.eq_def]at h;cases hc:cut [40] l with
   | none =>
     simp only[hc]at h;split at h
     ·rename_i hn;simp at h;obtain⟨rfl,rfl⟩:=h;exact⟨by unfold kK;rw[kg,zy];exact v7 l,hn,by rw[jy];omega⟩
     ·split at h
      ·rename_i hn;simp at h;obtain⟨rfl,rfl⟩:=h;exact⟨by unfold kK;rw[kg,zy];exact v7 l,hn,by rw[jy];omega⟩
      ·simp at h
   |some l1=>simp[hc]at h
 | succ d ih =>
   intro l t r h;cases hc:cut [40] l with
   | none =>
     rw[jG.eq_def]at h;simp only[hc]at h;split at h
     ·rename_i hn;simp at h;obtain⟨rfl,rfl⟩:=h;exact⟨by unfold kK;rw[kg,zy];exact v7 l,hn,by rw[jy];omega⟩
     ·split at h
      ·rename_i hn;simp at h;obtain⟨rfl,rfl⟩:=h;exact⟨by unfold kK;rw[kg,zy];exact v7 l,hn,by rw[jy];omega⟩
      ·simp at h
   | some l1 =>
     have e0:=vG hc;rw[e0]at h ⊢;rw[List.singleton_append]at h ⊢;rw[vZ]at h;have ew:=v7 l1;split at h
     ·rename_i hw;rw[hw]at ew;simp only[RH]at h;obtain⟨l3,c1,h⟩:=h;split at h
      ·rename_i hn;simp only[RH,RP]at h;obtain⟨l4,c2,⟨k,l5⟩,hk,l6,c3,⟨t',l7⟩,ht,l8,c4,e⟩:=h;simp only[SQ]at e;obtain⟨rfl,rfl⟩:=e;obtain⟨e1,o1,d1⟩:=ih _ _ _ ht;have e2:=rdK_canon _ _ _ _ hk;refine⟨?_,⟨hn,o1⟩,by rw[jy];omega⟩;rw[xh];simp only at c3 c4
       conv=>lhs;rw[ew,vG c1,v7 l3,vG c2,e2,vG c3,e1,vG c4]
       simp
      ·simp at h
     ·split at h
      ·rename_i hw;rw[hw]at ew;simp only[RH,RP]at h;obtain⟨l3,c1,⟨m,l4⟩,hm,l5,c2,⟨n,l6⟩,hn,l7,c3,e⟩:=h;simp only[SQ]at e;obtain⟨rfl,rfl⟩:=e;obtain⟨e1,o1,d1⟩:=ih _ _ _ hm;obtain⟨e2,o2,d2⟩:=ih _ _ _ hn;refine⟨?_,⟨o1,o2⟩,by rw[jy];omega⟩;rw[xf];simp only at c2 c3
       conv=>lhs;rw[ew,vG c1,e1,vG c2,e2,vG c3]
       simp
      ·split at h
       ·rename_i hw;rw[hw]at ew;simp only[RH,RP]at h;obtain⟨l3,c1,⟨x,l4⟩,hx,l5,c2,⟨m,l6⟩,hm,l7,c3,⟨n,l8⟩,hn,l9,c4,e⟩:=h;simp only[SQ]at e;obtain⟨rfl,rfl⟩:=e;obtain⟨e0,o0,d0⟩:=ih _ _ _ hx;obtain⟨e1,o1,d1⟩:=ih _ _ _ hm;obtain⟨e2,o2,d2⟩:=ih _ _ _ hn;refine⟨?_,⟨o0,o1,o2⟩,by rw[jy];omega⟩;rw[xd];simp only at c2 c3 c4
        conv=>lhs;rw[ew,vG c1,e0,vG c2,e1,vG c3,e2,vG c4]
        simp
       ·simp at h
theorem mi {a b:Tr}(ha:jF a)(hb:jF b)(h:zy a=zy b):a=b:=by
 have h1:=bG a (max (jS a) (jS b)+1) [] ha (by omega) (.inl rfl);have h2:=bG b (max (jS a) (jS b)+1) [] hb (by omega) (.inl rfl);rw[h,h2]at h1;exact(XQ (Option.some.inj h1)).1.symm
theorem rK (h a b:Tr):qw (.ls [h,a,b])=(qo [h] == uV && qw a && qw b):=by rw[qw]
theorem fJ (h a b c:Tr):qw (.ls [h,a,b,c])=((qo [h] == vX && (qi (qE a) && (zD (zy b)).2 && qw c)) || (qo [h] == ifW && (qw a && qw b && qw c))):=by rw[qw]
theorem head_at {h:Tr}{w:Bs}(hw:w≠[])(e:qo [h]=w):h=.am w:=by
 cases h with
 |am a=>rw[qo]at e;rw[e]
 |ls ps=>exact absurd e.symm hw
theorem pu:∀(n:Nat) (t:Tr),SizeOf.sizeOf t<n->jF t->qw t=OX->∃m:Tm,t=kg m/\xA m/\kJ m=OX
 |0,_,h,_,_=>by omega
 | n+1,.am a,_,ho,hi=>by
   rw[qw,S4]at hi;rcases hi with h|h
   ·exact⟨.wd a,by rw[kg],h,by rw[kJ]⟩
   ·exact⟨.nm a,by rw[kg],h,by rw[kJ]⟩
 |n+1,.ls [],_,_,hi=>by simp[qw]at hi
 |n+1,.ls [_],_,_,hi=>by simp[qw]at hi
 |n+1,.ls [_,_],_,_,hi=>by simp[qw]at hi
 | n+1,.ls [h,a,b],hs,ho,hi=>by
   rw[rK]at hi;simp only[R3,beq_iff_eq]at hi;obtain⟨⟨e,h1⟩,h2⟩:=hi;rw[jF,qv,qv,qv,qv]at ho;obtain⟨_,_,o1,o2,_⟩:=ho;obtain rfl:=head_at (by decide) e;simp only[Tr.ls.sizeOf_spec,Vi]at hs;obtain⟨m,rfl,q1,q2⟩:=pu n a (by omega) o1 h1;obtain⟨k,rfl,r1,r2⟩:=pu n b (by omega) o2 h2;exact⟨.app m k,by rw[kg],⟨q1,r1⟩,by rw[kJ,q2,r2];rfl⟩
 | n+1,.ls [h,a,b,c],hs,ho,hi=>by
   rw[fJ]at hi;simp only[S4,R3,beq_iff_eq]at hi;rw[jF,qv,qv,qv,qv,qv]at ho;obtain⟨_,_,o1,o2,o3,_⟩:=ho;simp only[Tr.ls.sizeOf_spec,Vi]at hs;rcases hi with ⟨e,⟨h1,h2⟩,h3⟩|⟨e,⟨h1,h2⟩,h3⟩
   ·obtain rfl:=head_at (by decide) e;obtain⟨m,rfl,q1,q2⟩:=pu n c (by omega) o3 h3;obtain⟨e1,l1⟩:=gF h2;have eb:b=trT (zD (zy b)).1:=mi o2 (cz _) (by rw[v8];exact e1);have ea:a=.am (qE a):=by
     cases a with
     |am x=>rw[qE]
     |ls ps=>rw[qE]at h1;simp[qi]at h1
    refine⟨.lam (qE a) (zD (zy b)).1 m,?_,⟨h1,q1⟩,by rw[kJ,q2,decide_eq_true l1];rfl⟩;rw[kg,<- eb,<- ea]
   ·obtain rfl:=head_at (by decide) e;obtain⟨x,rfl,p1,p2⟩:=pu n a (by omega) o1 h1;obtain⟨y,rfl,q1,q2⟩:=pu n b (by omega) o2 h2;obtain⟨z,rfl,r1,r2⟩:=pu n c (by omega) o3 h3;exact⟨.ite x y z,by rw[kg],⟨p1,q1,r1⟩,by rw[kJ,p2,q2,r2];rfl⟩
 |n+1,.ls (_::_::_::_::_::_),_,_,hi=>by simp[qw]at hi
theorem px:∀t:Tm,xA t->qw (kg t)=kJ t
 |.nm x,h=>by rw[kg,qw,kJ,show qi x=OX from h,Bool.or_true]
 |.wd w,h=>by rw[kg,qw,kJ,show js w=OX from h,Bool.true_or]
 | .lam x k t,h=>by
   rw[kg,fJ,kJ,px t h.2,v8,qo,qE,h.1];have e:(zD (zS k)).2=decide (zU k<=15):=by
    by_cases hk:zU k<=15
    ·rw[vh hk,decide_eq_true hk]
    ·rw[decide_eq_false hk];cases hq:(zD (zS k)).2 with
     |false=>rfl
     | true =>
       exfalso;obtain⟨h1,h2⟩:=gF hq;have:trT k=trT (zD (zS k)).1:=mi (cz _) (cz _) (by rw[v8,v8];exact h1);have h3:=gT k;rw[this,gT]at h3;omega
   rw[e];have a1:(vX == vX)=OX:=by decide
   have a2:(vX == ifW)=RC:=by decide
   rw[a1,a2];simp
 | .app m n,h=>by
   rw[kg,rK,kJ,px m h.1,px n h.2,qo];have a1:(uV == uV)=OX:=by decide
   rw[a1];simp
 | .ite l m n,h=>by
   rw[kg,fJ,kJ,px l h.1,px m h.2.1,px n h.2.2,qo];have a1:(ifW == ifW)=OX:=by decide
   have a2:(ifW == vX)=RC:=by decide
   rw[a1,a2];simp[Bool.and_assoc]
mutual
theorem textT_len:∀k:Ty,(zy (trT k)).length<=6*qM (trT k)
 |.mk ts=>by rw[trT];exact me ts
theorem me:∀ts:List Ty,(zy (trT.trTs ts)).length<=6*qM (trT.trTs ts)
 |[]=>by rw[trT.trTs,zy,qM];simp
 | t::ts=>by
   have h1:=textT_len t;have h2:=me ts;rw[trT.trTs,zy,j9,qV,qV,qV,zy,qM,kE,kE,kE,kE,qM];simp only[RU,RL,Sq];omega
end
theorem name_len {x:Bs}(h:qi x=OX):x.length<=3:=by
 cases x with
 |nil=>simp
 |cons c r=>simp only[qi,R3,decide_eq_true_eq]at h;simp;omega
theorem leaf_len {x:Bs}(h:js x=OX):x.length<=3:=by
 simp only[js,S4,beq_iff_eq]at h;rcases h with (rfl|rfl)|rfl <;> simp
theorem uj:∀t:Tm,xA t->(kK t).length<=9*zO t
 |.nm x,h=>by have:=name_len h;unfold kK;rw[kg,zy,zO];omega
 |.wd w,h=>by have:=leaf_len h;unfold kK;rw[kg,zy,zO];omega
 | .lam x k t,h=>by
   have h1:=name_len h.1;have h2:=textT_len k;rw[v8,gT]at h2;have h3:=uj t h.2;rw[xh,zO];simp only[vX,RU,RL,Sq];omega
 | .app m n,h=>by
   have h1:=uj m h.1;have h2:=uj n h.2;rw[xf,zO];simp only[uV,RU,RL,Sq];omega
 | .ite l m n,h=>by
   have h0:=uj l h.1;have h1:=uj m h.2.1;have h2:=uj n h.2.2;rw[xd,zO];simp only[ifW,RU,RL,Sq];omega
theorem y6 {l:Bs}{t:Tm}(h:jW l=t):l=kK t/\xA t/\zO t<=60:=by
 unfold jW at h;cases hq:jG 60 l with
 |none=>rw[hq]at h;simp at h
 | some x =>
   obtain⟨t',r⟩:=x;rw[hq]at h;cases r with
   |cons c r=>simp at h
   | nil =>
     simp only at h;split at h
     ·rename_i hs;simp at h;subst h;obtain⟨e,o,_⟩:=cL _ _ _ _ hq;exact⟨by simpa using e,o,hs⟩
     ·simp at h
theorem cP {t:Tm}(ho:xA t)(hs:zO t<=60):jW (kK t)=t:=by
 unfold jW;have:=yz t 60 [] ho (by have:=uQ t;omega) (by omega) (.inl rfl);rw[R9]at this;rw[this];simp only;rw[if_pos hs]
theorem specTerm_text {t:Tm}(ho:xA t)(hs:zO t<=60):qg (kK t)=if kJ t then OK (kg t) else U:=by
 unfold qg;have hl:=uj t ho;rw[if_neg (by omega)];have:=bG (kg t) 101 [] (uW t ho) (by have:=yg t;omega) (.inl rfl);rw[R9]at this;unfold kK;rw[this];simp only;rw[px t ho,uh,decide_eq_true hs,Bool.and_true]
theorem cQ {l:Bs}{tr:Tr}(h:qg l=tr):∃t,tr=kg t/\l=kK t/\xA t/\zO t<=60/\kJ t=OX:=by
 unfold qg at h;split at h
 ·simp at h
 ·split at h
  ·rename_i t' hq;split at h
   ·rename_i hc;simp at h;subst h;simp only[R3,decide_eq_true_eq]at hc;obtain⟨e,o,_,_⟩:=xi _ _ _ _ hq;obtain⟨t,rfl,q1,q2⟩:=pu _ t' (Wc _) o hc.1;exact⟨t,rfl,by simpa[kK] using e,q1,by rw[<- uh];exact hc.2,q2⟩
   ·simp at h
  ·simp at h
theorem term_eq (l:Bs):qg l=(jW l).bind fun t=>if kJ t then OK (kg t) else U:=by
 cases h:jW l with
 | some t =>
   obtain⟨rfl,ho,hs⟩:=y6 h;rw[specTerm_text ho hs];rfl
 | none =>
   cases hq:qg l with
   |none=>rfl
   | some tr =>
     obtain⟨t,_,rfl,ho,hs,_⟩:=cQ hq;rw[cP ho hs]at h;simp at h
theorem fM {t:Ty}(h:zU t<=15):∀a∈t.args,zU a<=15:=(pg h).1
theorem un {t:Ty}(h:zU t<=15):t.args.length<=14:=by
 have:=kW t.args;have:=kI t;omega
theorem name_no1 {s:Bs}(h:3<s.length):qi s=RC:=by
 cases s with
 |nil=>simp at h
 |cons c r=>simp only[RU]at h;simp only[qi];rw[decide_eq_false (by omega)];rfl
theorem dI {s:Bs}(h:0<s.length)(hc:s[0].toNat<120\/122<s[0].toNat):qi s=RC:=by
 cases s with
 |nil=>simp at h
 | cons c r =>
   simp only[Vz]at hc;rw[UV];intro hn;simp only[qi,R3,decide_eq_true_eq,S7]at hn;have h1:=hn.1.2.1;have h2:=hn.1.2.2;have e1:(120:UInt8).toNat=120:=rfl;have e2:(122:UInt8).toNat=122:=rfl;omega
theorem dL {s:Bs}{k:Nat}(h1:1<=k)(h:k<s.length)(hc:s[k].toNat<48\/57<s[k].toNat):qi s=RC:=by
 cases s with
 |nil=>simp at h
 | cons c r =>
   obtain⟨k,rfl⟩:∃j,k=j+1:=⟨k-1,by omega⟩;simp only[VA]at hc;rw[UV];intro hn;simp only[qi,R3,Uh]at hn;have h2:=hn.2 _ (List.getElem_mem (by simpa using h));simp only[dig,R3,decide_eq_true_eq,S7]at h2;have e1:(48:UInt8).toNat=48:=rfl;have e2:(57:UInt8).toNat=57:=rfl;omega
theorem name_yes {s:Bs}(h:0<s.length)(h3:s.length<=3)(hc:120<=s[0].toNat/\s[0].toNat<=122)(hd:∀k,1<=k->∀(hk:k<s.length),48<=s[k].toNat/\s[k].toNat<=57):qi s=OX:=by
 cases s with
 |nil=>simp at h
 | cons c r =>
   simp only[Vz]at hc;simp only[RU]at h3;have e1:(120:UInt8).toNat=120:=rfl;have e2:(122:UInt8).toNat=122:=rfl;have e3:(48:UInt8).toNat=48:=rfl;have e4:(57:UInt8).toNat=57:=rfl;simp only[qi,R3,decide_eq_true_eq,S7,Uh];refine⟨⟨by omega,by omega,by omega⟩,fun x hx=>?_⟩;obtain⟨i,hi,rfl⟩:=List.getElem_of_mem hx;have:=hd (i+1) (by omega) (by simpa using hi);simp only[VA]at this;simp only[dig,R3,decide_eq_true_eq,S7];omega
def qj (d:Nat):Nat->Bs->Option (List Tm×Bs)
 |0,l=>OK ([],l)
 |n+1,l=>(cut [32] l).bind fun l1=>(jG d l1).bind fun t=>(qj d n t.2).map fun y=>(t.1::y.1,y.2)
theorem xT (d:Nat)(l:Bs):qj d 0 l=OK ([],l):=rfl
theorem pO (d n:Nat)(l:Bs):qj d (n+1) l=(cut [32] l).bind fun l1=>(jG d l1).bind fun t=>(qj d n t.2).map fun y=>(t.1::y.1,y.2):=rfl
def nh (w:Bs):Nat:=if w=vX then 1 else if w=uV then 2 else if w=ifW then 3 else 0
def cj (w x:Bs)(k:Ty):List Tm->Tm
 |[t]=>.lam x k t
 |[m,n]=>.app m n
 |[l,m,n]=>.ite l m n
 |_=>.wd w
theorem rdTm_lam {d:Nat}{l l3 l4 l6:Bs}{k:Ty}(hw:zR l=vX)(h1:cut [32] (zM l)=l3)(hn:qi (zR l3)=OX)(h2:cut [32] (zM l3)=l4)(hk:rdK 60 l4=OK (k,l6)) :
 jG (d+1) (40::l)=(qj d 1 l6).bind fun y=>(cut [41] y.2).map fun r=>(cj vX (zR l3) k y.1,r):=by
 rw[vZ,if_pos hw,h1];simp only[RF];rw[if_pos hn,h2];simp only[RF];rw[hk];simp only[RF,qj];cases cut [32] l6 with
 |none=>rfl
 | some l7 =>
   simp only[RF];cases jG d l7 with
   |none=>rfl
   |some t=>rfl
theorem rdTm_app {d:Nat}{l:Bs}(x:Bs)(k:Ty)(hw:zR l=uV):jG (d+1) (40::l)=(qj d 2 (zM l)).bind fun y=>(cut [41] y.2).map fun r=>(cj uV x k y.1,r):=by
 rw[vZ,if_neg (by rw[hw];decide),if_pos hw];simp only[qj];cases cut [32] (zM l) with
 |none=>rfl
 | some l3 =>
   simp only[RF];cases jG d l3 with
   |none=>rfl
   | some t =>
     simp only[RF];cases cut [32] t.2 with
     |none=>rfl
     | some l4 =>
       simp only[RF];cases jG d l4 with
       |none=>rfl
       |some t=>rfl
theorem rdTm_ite {d:Nat}{l:Bs}(x:Bs)(k:Ty)(hw:zR l=ifW):jG (d+1) (40::l)=(qj d 3 (zM l)).bind fun y=>(cut [41] y.2).map fun r=>(cj ifW x k y.1,r):=by
 rw[vZ,if_neg (by rw[hw];decide),if_neg (by rw[hw];decide),if_pos hw];simp only[qj];cases cut [32] (zM l) with
 |none=>rfl
 | some l3 =>
   simp only[RF];cases jG d l3 with
   |none=>rfl
   | some t =>
     simp only[RF];cases cut [32] t.2 with
     |none=>rfl
     | some l4 =>
       simp only[RF];cases jG d l4 with
       |none=>rfl
       | some t2 =>
         simp only[RF];cases cut [32] t2.2 with
         |none=>rfl
         | some l5 =>
           simp only[RF];cases jG d l5 with
           |none=>rfl
           |some t=>rfl
theorem rdTm_lamNo1 {d:Nat}{l:Bs}(hw:zR l=vX)(h1:cut [32] (zM l)=U):jG (d+1) (40::l)=U:=by
 rw[vZ,if_pos hw,h1];rfl
theorem rdTm_lamNo2 {d:Nat}{l l3:Bs}(hw:zR l=vX)(h1:cut [32] (zM l)=l3)(hn:qi (zR l3)=RC):jG (d+1) (40::l)=U:=by
 rw[vZ,if_pos hw,h1];simp only[RF];rw[if_neg (by rw[hn];decide)]
theorem rdTm_lamNo3 {d:Nat}{l l3:Bs}(hw:zR l=vX)(h1:cut [32] (zM l)=l3)(h2:cut [32] (zM l3)=U):jG (d+1) (40::l)=U:=by
 rw[vZ,if_pos hw,h1];simp only[RF];rw[h2];split <;> rfl
theorem rdTm_lamNo4 {d:Nat}{l l3 l4:Bs}(hw:zR l=vX)(h1:cut [32] (zM l)=l3)(h2:cut [32] (zM l3)=l4)(hk:rdK 60 l4=U):jG (d+1) (40::l)=U:=by
 rw[vZ,if_pos hw,h1];simp only[RF];rw[h2];simp only[RF];rw[hk];split <;> rfl
theorem rdTm_none {d:Nat}{l:Bs}(hw:nh (zR l)=0):jG d (40::l)=U:=by
 cases d with
 |zero=>exact rdTm_zero
 | succ d =>
   unfold nh at hw;rw[vZ];split
   ·rename_i h;rw[if_pos h]at hw;simp at hw
   ·rename_i h;rw[if_neg h]at hw;split
    ·rename_i h2;rw[if_pos h2]at hw;simp at hw
    ·rename_i h2;rw[if_neg h2]at hw;split
     ·rename_i h3;rw[if_pos h3]at hw;simp at hw
     ·rfl
theorem rdParTm_step {d n:Nat}{l0 l l1 r:Bs}{m:Nat}{ts:List Tm}{t:Tm}(h:qj d m l0=(qj d (n+1) l).map fun y=>(ts++y.1,y.2))(h1:cut [32] l=l1)(h2:jG d l1=OK (t,r)) :
 qj d m l0=(qj d n r).map fun y=>((ts++[t])++y.1,y.2):=by
 rw[h,pO,h1];simp only[RF];rw[h2];simp only[RF,Option.map_map]
 congr 1
 funext y;simp
theorem fg {d n:Nat}{l0 l:Bs}{m:Nat}{ts:List Tm}(h:qj d m l0=(qj d (n+1) l).map fun y=>(ts++y.1,y.2))(h1:cut [32] l=U):qj d m l0=U:=by
 rw[h,pO,h1];rfl
theorem fp {d n:Nat}{l0 l l1:Bs}{m:Nat}{ts:List Tm}(h:qj d m l0=(qj d (n+1) l).map fun y=>(ts++y.1,y.2))(h1:cut [32] l=l1)(h2:jG d l1=U):qj d m l0=U:=by
 rw[h,pO,h1];simp only[RF];rw[h2];rfl
theorem rdTm_le:∀ {d:Nat} {l:Bs} {t:Tm} {r:Bs},jG d l=OK (t,r)->r.length<l.length:=by
 intro d l t r h;obtain⟨e,ho,_⟩:=cL d l t r h;rw[e,RL];have:0<(kK t).length:=by
  cases t with
  | nm x =>
    have:kK (.nm x)=x:=by unfold kK;rw[kg,zy]
    rw[this];have:=(xG ho).1;exact Tg.2 this
  | wd x =>
    have:kK (.wd x)=x:=by unfold kK;rw[kg,zy]
    rw[this];have:=(pG ho).1;exact Tg.2 this
  |lam x k t=>rw[xh];simp
  |app m n=>rw[xf];simp
  |ite l m n=>rw[xd];simp
 omega
end Go.Proofs.YtnfenijemllkbaaGreatDoor

/- Walks. -/
import Derived.Test.YtdhaafoiokkbnabGreatDoorQ8
set_option linter.unusedVariables false
set_option linter.unusedSimpArgs false
set_option maxHeartbeats 4000000
set_option maxRecDepth 100000
open Bool renaming and_eq_true->OP,true_and->RB
open Go.Lib renaming decDigits->Pf,itoa->PU,join->To,joinTail->Ss,join_cons->Sj
open Go.NoPanic renaming normal->Oy
open Go.Proofs.Tryz renaming func13->Ug,func57->QB,func82->Ui,func83->RT,ntmps13->TL,ntmps57->Qr,ntmps82->TM,ntmps83->RI,prog->No,underlying66->PV
open Go.Value renaming oneCell'->OR,ownBlock->OG,slice->Ox
open Go.World renaming cell?->Li,frozen?->OC,ownsRow_nil->Pq
open Int renaming natCast_add->PQ
open List renaming getElem?_cons_succ->OE,getElem?_cons_zero->OH,getElem?_eq_some_iff->OB,getElem?_map->Pt,length_append->Ov,length_cons->OD,map_cons->OU,map_nil->Pz,mem_append->O_,mem_iff_getElem?->Sr,mem_of_getElem?->OI,take_add_one->Pc,take_length->OT
open Nat renaming add_mul->Q8,le_of_lt->Uh,zero_le->OS
open Option renaming bind_eq_some_iff->N0,bind_some->Lx,map_eq_some_iff->OA
open Option.some renaming inj->OM,injEq->Oz
open Or renaming inl->OO
namespace Go.Proofs.YtdhaafoiokkbnabGreatDoor
open Go.RowKit
theorem decNat (n:Nat):dec n=Pf n:=by
 induction n using Nat.strongRecOn with
 | _ n ih =>
   by_cases h:n<10
   ·rw [vQ h,Pf,dif_pos h];rfl
   ·rw [vc h,Pf,dif_neg h,ih (n / 10) (Nat.div_lt_self (by omega) (by omega))];rfl
theorem itoaNat (i:Nat):PU (i:Int)=dec i:=by
 rw [decNat,PU,if_neg (by omega)];rfl
theorem lvBs_of:∀ xs:List Bd,(∀ b∈xs,lvB b)->cA xs
 | [],_=>by rw [cA];trivial
 | b::bs,h=>by rw [cA];exact ⟨h b (by simp),lvBs_of bs fun x hx=>h x (by simp [hx])⟩
theorem fit_lv (n:Nat):∀ (b:Bd) (h:List Ty),zU b<=n->qj h b->(∀ t∈h,zJ t<=15)->h.length+15*n<=10000->lvB b:=by
 induction n with
 | zero=>intro b h hs;have:=ze b;omega
 | succ n ih =>
   intro b h hs hf ha hl;cases b with
   | leaf c=>rw [lvB];trivial
   | ask v ss y no =>
     rw [qj] at hf;obtain ⟨t,ht,f1,f2,f3⟩:=hf;rw [zU] at hs;have hy:=ze y;have hn:=ze no;have hv:=(OB.1 ht).1;have ic:=ha t (OI ht);rw [lvB];refine ⟨by omega,lvBs_of ss fun b hb=>?_,ih y h (by omega) f2 ha (by omega),ih no h (by omega) f3 ha (by omega)⟩;have hsz:=vz hb;obtain ⟨k,hk⟩:=Sr.1 hb;obtain ⟨x,hx,hxf⟩:=w_ _ _ f1 k b hk;simp only [kD,Pt,OA] at hx;obtain ⟨a,B7,rfl⟩:=hx;have tL:=(kQ ic).1 a (OI B7);have AA:=kQ tL;refine ih b (h++a.args) (by omega) hxf (fun t ht=>?_) (by rw [Ov];omega);rcases O_.1 ht with h | h
     ·exact ha t h
     ·exact AA.1 t h
theorem fB.lv {t:Ty} {b:Bd} (h:fB t b):lvB b :=
 fit_lv 200 b t.args h.size h.fit (kQ h.atoms).1 (by have:=(kQ h.atoms).2;omega)
theorem xA:∀ bs:List Bd,Ss [32] (bs.map kC)=kz bs
 | []=>rfl
 | b::bs=>by
   have:=xA bs;simp only [Ss,OU,List.flatten_cons] at this ⊢;rw [this,kz]
theorem textB_join (v:Nat) (ss:List Bd) (y n:Bd):kC (.ask v ss y n)=[40]++To (dec v::(ss++[y,n]).map kC) [32]++[41]:=by
 rw [Sj,xA,vx,kC,kz,kz,kz];simp
def mG (b:Bd):Prop:=∀ (F:Nat->Prop) (w:World) (v:Value),yF w->Rep F w (k_ b) v ->
 Calls No 13 #[v] w fun en w'=>en=.returned (str (kC b))/\Below w.heap.size w w'
theorem Tryz.infoStrA:(No.info? 9).map (fun i=>(i.zero,i.size,i.bytes))=some (some (str []),1,16):=by kernel_rfl
theorem Own.strings {w:World} {e:TypeId} {v:Value} {n:Nat} {ts:List Bs} (h:Own w e 1 v n (ts.map str)) (hn:0<n) :
 ∃ g cap,v=.slice (some ⟨g,0,none⟩) n cap/\n<=cap/\g<w.heap.size/\ts.length=n/\∀ (j:Nat) (x:ByteArray),(ts.map fun t=>(⟨t.toArray⟩:ByteArray))[j]? = some x->w.cell? ⟨g,0+j,none⟩=some (.string x):=by
 have hl:=h.1;rcases h.2 with ⟨_,h0⟩ | ⟨g,cap,cur,rfl,_,hg,Af,_,hcs,ht⟩
 ·omega
 ·refine ⟨g,cap,rfl,Af,zZ hg,by simpa using hl,fun j x hj=>?_⟩;rw [Pt,OA] at hj;obtain ⟨t,ht1,rfl⟩:=hj;have h1:(ts.map str)[j]? = some (str t):=by rw [Pt,ht1];rfl
  rw [<- ht,List.getElem?_take] at h1;split at h1
  ·rw [Nat.zero_add];simp only [Li,hg];simpa using h1
  ·simp at h1
structure TInv (lv:Nat) (ps:List Bd) (w w2 w4:World) (k:Nat) (v:Value) (wr:World):Prop where
 own:Own wr 9 1 v (k+1) ((dec lv::(ps.take k).map kC).map str)
 bel:Below w.heap.size w wr
 but:But (· = w2.heap.size) w4 wr
 fr:∀ g,v.ownBlock=some g->g=w2.heap.size\/w4.heap.size<=g
theorem text_step (b:Bd) (hl:zU b<=100000) (th:lvB b) (ih:∀ t,zU t<zU b->lvB t->mG t):mG b:=by
 intro F w v hg hv;have IH:=n7 ih;clear ih;cases b with
 | leaf c =>
   obtain ⟨a0,sl,rfl,_,rV,_⟩:=xp hv;have r0:w.cell? ⟨a0,0,none⟩=some (str [c]):=by simp [Li,rV]
   have CL:=n7 (yK F w c _ hv);clear rV hv;go_enter Ug,TL;go_wp2_with fail
   (with_reducible refine CL.out.mono ?_);rintro en w3 ⟨rfl,rfl⟩
   go_wp2_with fail
   go_ret;exact ⟨by rw [kC];rfl,rZ _ _⟩
 | ask lv ss y no =>
   obtain ⟨a0,sl,yv,nv,rfl,_,rV,_⟩:=uu hv;have r1:w.cell? ⟨a0,1,none⟩=some (.int .i64 (lv:Nat)):=by simp [Li,rV]
   have B8:=zZ rV;have CL:=n7 (yh F w lv ss y no _ hv);have lg:=th;rw [lvB] at lg;have hlv1:=lg.1;have C1:Calls No 28 #[.int .i64 (lv:Nat)] w fun en w'=>en=.returned (str (dec lv))/\Below w.heap.size w w':=by
    have:=nJ (lv:Nat) w hg (by omega) (by omega);rwa [itoaNat] at this
   have C1:=n7 C1;have HP:=n7 (n8 hv (n8 hg (n8 th hl)));clear hv hg th hl rV lg;go_enter Ug,TL;go_wp2_with fail
   (with_reducible refine CL.out.mono ?_);rintro en w1 ⟨rfl,e⟩
   subst w1;go_wp2_with fail
   (with_reducible refine C1.out.mono ?_);rintro en w2 ⟨rfl,rY⟩
   have aB:Below w.heap.size w (w2.alloc (.cells #[str (dec lv)] 9)):=rY.alloc rY.size _;have tg:=rY.size;have hvA:Rep (fun i=>F i/\i<w.heap.size) (w2.alloc (.cells #[str (dec lv)] 9)) (k_ (.ask lv ss y no)) (.pointer (some ⟨a0,0,none⟩)):=Rep.below aB (fun _ h=>h) (Rep.low HP.out.1);have CP:=n7 (eF _ _ _ _ hvA (by have:=HP.out.2.2.2;unfold Lim;omega));have hp:ki (.ask lv ss y no)=ss++[y,no]:=rfl;unfold b_ at CP;rw [hp] at CP;have hsz:zE (ss++[y,no])+1=zU (.ask lv ss y no):=by rw [qh,zU,zE,zE,zE];omega
   have t6:∀ b∈ss++[y,no],lvB b:=by
    have:=HP.out.2.2.1;rw [lvB] at this;intro b hb;rcases O_.1 hb with h | h
    ·obtain ⟨k,hk⟩:=Sr.1 h;exact fo _ this.2.1 k b hk
    ·simp at h;rcases h with rfl | rfl
     ·exact this.2.2.1
     ·exact this.2.2.2
   have Hw:=textB_join lv ss y no;have oQ:kz (ss++[y,no])=Ss [32] ((ss++[y,no]).map kC):=(xA _).symm;have Mm:=y8 (ss++[y,no]) (lvBs_of _ t6);have hdl:(dec lv).length<=5:=uY 4 lv (by omega);have hb100:=HP.out.2.2.2;have Hs:=Own.litAt (w:=w2) (e:=9) (size:=1) #[str (dec lv)] 1 _ rfl (by decide) rfl;generalize hpp:ss++[y,no]=ps at *;have HQ:=n7 (n8 hsz (n8 t6 (n8 Hw (n8 oQ (n8 Mm (n8 aB Hs))))));clear hsz t6 Hw oQ Mm aB hvA rY Hs hp hpp;go_wp2_with fail
   (with_reducible refine CP.out.mono ?_);rintro en w4 ⟨pv,rfl,rq,hp4⟩
   obtain ⟨pa,pc,e,_,_,rX⟩:=zP hp4;subst e;have hz4:=rq.size;rw [zK] at hz4;have EQ:=HQ.out.1;have L3:=qO ps;have lS:=n7 (n8 rq rX);clear rq hp4 rX EQ;have F1:ps.length<=100000:=by have:=HQ.out.1;omega
   clear L3;go_wp2_with fail
   go_loopw [3,22] (fun o i wr=>∃ k:Nat,k<=ps.length/\i=.int .i64 k/\TInv lv ps w w2 w4 k o wr) (fun _ i _=>ps.length-(intOf i).toNat)
   case atStart =>
    refine ⟨0,OS _,rfl,?_,HQ.out.2.2.2.2.2.1.trans (lS.out.1.mono (by rw [zK];omega)),But.refl _ _,fun g hg=>.inl ?_⟩
    ·exact HQ.out.2.2.2.2.2.2.keep fun g o hg hh=>by rw [lS.out.1.block g (zZ hh)];exact hh
    ·simp [OG] at hg;omega
   case round =>
    rename_i wr;obtain ⟨k,hk,rfl,rD⟩:=hrel;obtain ⟨sa,sc,e⟩:=rD.own.slice;subst e;have HI:=n7 rD;clear rD;by_cases rH:k<ps.length
    ·obtain ⟨ba,oa,u,d,ea,NH,JJ,hd,hu,hr⟩:=lS.out.2 k rH;subst ea;rw [xE,OA] at hd;obtain ⟨t,ht,rfl⟩:=hd;obtain ⟨ta,eu⟩:=zd hr;subst eu;have hne:ba≠w2.heap.size:=by
      rcases NH with h | h
      ·have:=h.2;omega
      ·rw [zK] at h;omega
     have hc:wr.cell? ⟨ba,oa+k,none⟩=some (.pointer (some ⟨ta,0,none⟩)):=(HI.out.but.cell JJ hne).trans hu;have iF:Rep (fun _=>True) wr (k_ t) (.pointer (some ⟨ta,0,none⟩)):=by
      refine (Rep.keep fun b o hf hh=>⟨trivial,?_⟩).1 _ _ hr;rw [HI.out.but.block b (zZ hh) (fun e=>?_)]
      ·exact hh
      ·have e:b=w2.heap.size:=e;rcases hf with h | h
       ·have:=h.2;omega
       ·rw [zK] at h;omega
     have si:=OI ht;have AX:zU t<zU (.ask lv ss y no):=by have:=vz si;have:=HQ.out.1;omega
     have IH':=n7 (IH.out t AX (HQ.out.2.1 t si) _ wr _ (HP.out.2.1.below HI.out.bel) iF);have HT:=n7 ht;clear ht hu hr iF si;go_wp2_with fail
     (with_reducible refine IH'.out.mono ?_);rintro en w5 ⟨rfl,rx⟩
     have i8:=n7 rx;clear rx;go_wp2_with (at_builtin;refine zM rfl _ _ 50 rfl 9 (str []) 1 16 Tryz.underlying50 Tryz.infoStrA rfl (by decide) (.slice sa (k+1) sc) (k+1) ((dec lv::(ps.take k).map kC).map str) rfl ?c1 _ 1 [str (kC t)] rfl ?c2 ?c3 ?c4 ?_)
     case c1=>exact (HI.out.own.keep fun g o hg hh=>by rw [i8.out.block g (zZ hh)];exact hh).alloc _
     case c2=>exact zu.lit1 #[str (kC t)] rfl (by simp [OR,str]) _ (by simp)
     case c3=>unfold maxLen;omega
     case c4=>omega
     intro a7 c7 w7 r_ rP rL;have hz5:=i8.out.size;have hzb:=HI.out.bel.size;have Lo:=HI.out.but.size;have hN:TInv lv ps w w2 w4 (k+1) (.slice a7 (k+1+1) c7) w7:=by
      have hfr:∀ g,(Ox sa (k+1) sc).ownBlock=some g->w.heap.size<=g/\(g=w2.heap.size\/w4.heap.size<=g):=fun g hg=>by
       have:=HI.out.fr g hg;exact ⟨by omega,this⟩
      refine ⟨?_,?_,?_,fun g hg=>?_⟩
      ·have:=r_;simpa [Pc,HT.out,List.map_take] using this
      ·exact ((HI.out.bel.trans (i8.out.mono hzb)).alloc (by omega) _).trans (rP.toBelow (by rw [zK];omega) fun i hi e=>by have:=hfr i e;omega)
      ·refine But.trans' ((HI.out.but.trans (But.ofBelow i8.out)).alloc _) rP fun i hi e=>?_;have h1:=(hfr i e).2;rcases h1 with h | h
       ·exact h
       ·omega
      ·rcases rL g hg with h | h
       ·exact (hfr g h).2
       ·exact .inr (by omega)
     have HN:=n7 hN;clear hN r_ rP rL;go_wp2_with fail
     go_roundw
     case rel=>exact ⟨k+1,by omega,by go_num,HN.out⟩
     case measure=>simp [intOf];omega
    ·obtain rfl:k=ps.length:=by omega
     have ho:=HI.out.own;rw [OT] at ho;obtain ⟨g,cap,e,hcap,hglt,hlen,hcells⟩:=ho.strings (by omega);simp only [Value.slice.injEq] at e;obtain ⟨rfl,_,rfl⟩:=e;have hxl:((dec lv::ps.map kC).map fun t=>(⟨t.toArray⟩:ByteArray)).length=ps.length+1:=by simp
     have hxm:(((dec lv::ps.map kC).map fun t=>(⟨t.toArray⟩:ByteArray)).map (·.data.toList))=dec lv::ps.map kC:=by simp [Function.comp_def]
     have Jb:(⟨#[32]⟩:ByteArray).data.toList=[32]:=rfl
     have CJ:=Tryz.strings_Join g 0 sc ((dec lv::ps.map kC).map fun t=>(⟨t.toArray⟩:ByteArray)) ⟨#[32]⟩ wr hcells hglt (by rw [hxl];omega) (by rw [hxl];omega) (by
      rw [hxm,Jb,Sj,Ov,<- HQ.out.2.2.2.1];have:=HQ.out.2.2.2.2.1;have:=HQ.out.1;omega)
     rw [hxl,hxm,Jb] at CJ;have CJ:=n7 CJ;have HJ:=n7 HQ.out.2.2.1;have DC:(To (dec lv::ps.map kC) [32]).length<=2000000:=by
      rw [Sj,Ov,<- HQ.out.2.2.2.1];have:=HQ.out.2.2.2.2.1;have:=HQ.out.1;omega
     clear ho hcells hxl hxm Jb;generalize hjn:To (dec lv::ps.map kC) [32]=jn at *;go_wp2_with fail
     (with_reducible refine CJ.out.mono ?_);rintro en w8 ⟨rfl,sP⟩
     have Iu:=n7 (zzT HI.out.bel sP);clear sP;go_wp2_with fail
     go_ret;refine ⟨?_,Iu.out⟩;rw [HJ.out];have e1:=str_add [40] jn;have e2:=str_add ([40]++jn) [41];show Ending.returned (.string ((⟨([40]:Bs).toArray⟩++⟨jn.toArray⟩)++⟨([41]:Bs).toArray⟩))=_;rw [e1,e2]
theorem text_any (n:Nat):∀ b,zU b<=n->n<=100000->lvB b->mG b:=by
 induction n with
 | zero=>intro b h _;have:=ze b;omega
 | succ n ih=>exact fun b h hn th=>text_step b (by omega) th (fun t h' i5=>ih t (by omega) (by omega) i5)
structure Grow (w:World) (P:Nat) (o:Value->Obj) (e:TypeId) (sz k:Nat) (cs:List DV) (sv:Value) (us:List Value) (wr:World):Prop where
 below:Below P w wr
 blk:wr.heap[P]? = some (o sv)
 own:Own wr e sz sv k us
 rep:zW (fun i=>P<i/\sv.ownBlock≠some i) wr cs us
 fr:∀ g,sv.ownBlock=some g->P<g
theorem Grow.start {w:World} {P:Nat} {o:Value->Obj} {e:TypeId} {sz:Nat} (h:w.heap[P]? = some (o (.slice none 0 0))):Grow w P o e sz 0 [] (.slice none 0 0) [] w :=
 ⟨rZ _ _,h,Pq _ _ _ _,by rw [zC],fun g hg=>by simp [OG] at hg⟩
theorem Grow.slice {w:World} {P:Nat} {o:Value->Obj} {e:TypeId} {sz k:Nat} {cs:List DV} {sv:Value} {us:List Value} {wr:World} (h:Grow w P o e sz k cs sv us wr):∃ a c,sv=.slice a k c:=h.own.slice
theorem Grow.next {w:World} {P:Nat} {o:Value->Obj} {e:TypeId} {sz k:Nat} {cs:List DV} {sv:Value} {us:List Value} {wr:World} (h:Grow w P o e sz k cs sv us wr)
 {w6 w7 w8:World} {ob:Obj} {ds:List DV} {news:List Value} {sv':Value} (rC:Below wr.heap.size wr w6) (tB:zW (fun i=>wr.heap.size<=i) w6 ds news)
 (r_:Own w7 e sz sv' (k+1) (us++news)) (rP:But (fun b=>sv.ownBlock=some b) (w6.alloc ob) w7) (rL:∀ g,sv'.ownBlock=some g->sv.ownBlock=some g\/g=(w6.alloc ob).heap.size)
 (h8:w8.heap[P]? = some (o sv')) (sP:But (fun b=>b=P) w7 w8):Grow w P o e sz (k+1) (cs++ds) sv' (us++news) w8:=by
 have hz6:=rC.size;have Ko:=rP.size;rw [zK] at Ko;have JY:=zZ h.blk;have Bf:∀ i,sv.ownBlock=some i->P<i/\i<wr.heap.size:=fun i e=>⟨h.fr i e,h.own.lt e⟩;have past:∀ (i:Nat) (x:Obj),i≠P->sv.ownBlock≠some i->w6.heap[i]? = some x->w8.heap[i]? = some x:=fun i x h1 h2 hx=>by
  have hl:=zZ hx;rw [sP.block i (by omega) h1,rP.block i (by rw [zK];omega) h2,Below.heap_alloc _ _ _ hl];exact hx
 have tV:∀ g,sv'.ownBlock=some g->sv.ownBlock=some g\/w6.heap.size<g:=fun g hg=>by
  rcases rL g hg with e | e
  ·exact .inl e
  ·rw [zK] at e;exact .inr (by omega)
 refine ⟨?_,h8,r_.keep fun g x hg hx=>?_,zW.append ?_ ?_,fun g hg=>?_⟩
 ·have h1:Below P w (w6.alloc ob):=(h.below.trans (rC.mono (Uh JY))).alloc (by omega) _;have h2:Below P w w7:=h1.trans (rP.toBelow (by rw [zK];omega) fun i hi e=>by have:=Bf i e;omega);exact h2.trans (sP.toBelow (by omega) fun i hi e=>by omega)
 ·rw [sP.block g (zZ hx) (fun e=>by rcases tV g hg with e' | e';· have:=Bf g e';omega
                                    ·omega)];exact hx
 ·have hk:∀ i x,(P<i/\sv.ownBlock≠some i)->wr.heap[i]? = some x->(P<i/\sv'.ownBlock≠some i)/\w8.heap[i]? = some x:=fun i x hi hx=>by
   refine ⟨⟨hi.1,fun e2=>?_⟩,past i x (by omega) hi.2 (by rw [rC.block i (zZ hx)];exact hx)⟩;rcases tV i e2 with e' | e'
   ·exact hi.2 e'
   ·have:=zZ hx;omega
  exact (Rep.keep hk).2 _ _ h.rep
 ·have hk:∀ i x,wr.heap.size<=i->w6.heap[i]? = some x->(P<i/\sv'.ownBlock≠some i)/\w8.heap[i]? = some x:=fun i x hi hx=>by
   refine ⟨⟨by omega,fun e2=>?_⟩,past i x (by omega) (fun e2=>by have:=Bf i e2;omega) hx⟩;rcases tV i e2 with e' | e'
   ·have:=Bf i e';omega
   ·have:=zZ hx;omega
  exact (Rep.keep hk).2 _ _ tB
 ·rcases tV g hg with e' | e'
  ·exact h.fr g e'
  ·omega
theorem Grow.own6 {w:World} {P:Nat} {o:Value->Obj} {e:TypeId} {sz k:Nat} {cs:List DV} {sv:Value} {us:List Value} {wr:World} (h:Grow w P o e sz k cs sv us wr) {w6:World} (rC:Below wr.heap.size wr w6) (ob:Obj):Own (w6.alloc ob) e sz sv k us :=
 (h.own.keep (w':=w6) fun g _ _ hx=>by rw [rC.block g (zZ hx)];exact hx).alloc ob
theorem Grow.not {w:World} {P:Nat} {o:Value->Obj} {e:TypeId} {sz k:Nat} {cs:List DV} {sv:Value} {us:List Value} {wr:World} (h:Grow w P o e sz k cs sv us wr):¬ sv.ownBlock=some P:=fun e=>by have:=h.fr P e;omega
theorem Grow.sl {w:World} {P:Nat} {o:Value->Obj} {e:TypeId} {sz k:Nat} {cs:List DV} {sv:Value} {us:List Value} {wr:World} (h:Grow w P o e sz k cs sv us wr):Rep (fun i=>P<i) wr (.sl e sz k cs) sv :=
 h.own.rep (fun g hg=>h.fr g hg) ((Rep.keep fun _ _ hi hx=>⟨hi.1,hx⟩).2 _ _ h.rep)
theorem uM (w:World) (P f:Nat) (u:Value):But (fun b=>b=P) w (w.setCell ⟨P,f,none⟩ u):=(But.refl (fun b=>b=P) w).setCell (p:=⟨P,f,none⟩) (.inl rfl) u
theorem Grow.cell7 {w:World} {P:Nat} {o:Value->Obj} {e:TypeId} {sz k:Nat} {cs:List DV} {sv:Value} {us:List Value} {wr:World} (h:Grow w P o e sz k cs sv us wr) {w6 w7:World} {ob:Obj} (rC:Below wr.heap.size wr w6) (rP:But (fun b=>sv.ownBlock=some b) (w6.alloc ob) w7) :
 w7.heap[P]? = some (o sv):=by
 have JY:=zZ h.blk;have:=rC.size;rw [rP.block P (by rw [zK];omega) h.not,Below.heap_alloc _ _ _ (by omega),rC.block P JY];exact h.blk
theorem etas_take {ts:List Ty} {k:Nat} {t:Ty} (h:ts[k]? = some t) (v n:Nat):jM (ts.take (k+1)) v n=jM (ts.take k) v n++[eta t (v+k) n]:=by
 induction ts generalizing k v with
 | nil=>simp at h
 | cons a ts ih =>
   cases k with
   | zero=>simp at h;subst h;simp [jM]
   | succ k =>
     simp only [OE] at h;simp only [List.take_succ_cons,jM,List.cons_append];rw [ih h,show v+1+k=v+(k+1) from by omega]
theorem arg_atoms {t a:Ty} {k:Nat} (h:t.args[k]? = some a):1+zJ a<=zJ t:=by
 have key:∀ (ts:List Ty) (k:Nat),ts[k]? = some a->1+zJ a<=zt ts:=by
  intro ts
  induction ts with
  | nil=>intro k h;simp at h
  | cons x xs ih =>
    intro k h;rw [zt];cases k with
    | zero=>simp at h;subst h;omega
    | succ k=>have:=ih k (by simpa using h);omega
 cases t with
 | mk ts=>rw [zJ];have:=key ts k h;omega
theorem gI {B b:Nat} {w:World} {c:UInt8} (h:w.heap[b]? = some (.cells #[str [c],.int .i64 0,.slice none 0 0,.pointer none,.pointer none] 68 (0,0))) (hB:B<=b):Rep (fun i=>B<=i) w (k_ (.leaf c)) (.pointer (some ⟨b,0,none⟩)):=by
 rw [k_,jw];refine ⟨_,_,rfl,hB,h,?_⟩;exact zQ.2 ⟨_,_,rfl,zH.2 rfl,zQ.2 ⟨_,_,rfl,zH.2 rfl,zQ.2 ⟨_,_,rfl,zh.2 ⟨rfl,none,0,rfl,n9 _,fun _=>rfl,.inl rfl⟩,zQ.2 ⟨_,_,rfl,zH.2 rfl,zQ.2 ⟨_,_,rfl,zH.2 rfl,zC.2 rfl⟩⟩⟩⟩⟩
def wF (v:Nat) (yv nv sv:Value):Obj:=.cells #[str [],.int .i64 (v:Nat),sv,yv,nv] 68 (0,0)
theorem copyOf_any (m:Nat):∀ (t:Ty),zJ t<=m->zJ t<=15->∀ (F:Nat->Prop) (kv:Value) (v n:Nat) (w:World),Rep F w (jA t) kv->v<=1000000->n+16*zJ t<=1000000 ->
 Calls No 79 #[kv,.int .i64 (v:Nat),.int .i64 (n:Nat)] w fun en w'=>∃ b,en=.returned (.pointer (some ⟨b,0,none⟩))/\Below w.heap.size w w'/\Rep (fun i=>w.heap.size<=i) w' (k_ (eta t v n)) (.pointer (some ⟨b,0,none⟩)):=by
 induction m with
 | zero=>intro t h;cases t;rw [zJ] at h;omega
 | succ m ih =>
 intro t hm rR F kv v n w hk hv hn;have IH:=n7 ih;obtain ⟨kb,ks,e,hkF,ij,BG⟩:=zc hk;subst e;obtain ⟨ka,kc,e,_,_,BH⟩:=zP BG;subst e;have Jt:=(kQ rR).2;have rX:=n7 (kQ rR).1;have aQ:=zZ ij;have DB:w.cell? ⟨kb,0,none⟩=some (.slice ka t.args.length kc):=by simp [Li,ij]
 have HA:=n7 BH;obtain ⟨W,hW⟩:=zzN (((w.alloc (.cells #[str [116],.int .i64 0,.slice none 0 0,.pointer none,.pointer none] 68)).alloc (.cells #[str [102],.int .i64 0,.slice none 0 0,.pointer none,.pointer none] 68)).alloc (.cells #[str [],.int .i64 (v:Nat),.slice none 0 0,.pointer (some ⟨w.heap.size,0,none⟩),.pointer (some ⟨w.heap.size+1,0,none⟩)] 68));have iE:W.heap.size=w.heap.size+3:=by rw [<- hW];simp only [zK]
 have rF:Below w.heap.size w W:=by rw [<- hW];exact (((rZ _ _).alloc (n9 _) _).alloc (by simp only [zK];omega) _).alloc (by simp only [zK];omega) _
 have bT:W.heap[w.heap.size]? = some (.cells #[str [116],.int .i64 0,.slice none 0 0,.pointer none,.pointer none] 68 (0,0)):=by rw [<- hW];exact zY (zY (zG _ _))
 have bF:W.heap[w.heap.size+1]? = some (.cells #[str [102],.int .i64 0,.slice none 0 0,.pointer none,.pointer none] 68 (0,0)):=by
  rw [<- hW];refine zY ?_;have:=zG (w.alloc (.cells #[str [116],.int .i64 0,.slice none 0 0,.pointer none,.pointer none] 68)) (.cells #[str [102],.int .i64 0,.slice none 0 0,.pointer none,.pointer none] 68);rwa [zK] at this
 have bO:W.heap[w.heap.size+2]? = some (wF v (.pointer (some ⟨w.heap.size,0,none⟩)) (.pointer (some ⟨w.heap.size+1,0,none⟩)) (.slice none 0 0)):=by
  rw [<- hW];have:=zG ((w.alloc (.cells #[str [116],.int .i64 0,.slice none 0 0,.pointer none,.pointer none] 68)).alloc (.cells #[str [102],.int .i64 0,.slice none 0 0,.pointer none,.pointer none] 68)) (.cells #[str [],.int .i64 (v:Nat),.slice none 0 0,.pointer (some ⟨w.heap.size,0,none⟩),.pointer (some ⟨w.heap.size+1,0,none⟩)] 68);simp only [zK] at this;exact this
 have HW:=n7 (n8 hW (n8 iE (n8 rF (n8 bT (n8 bF bO)))));clear hW iE rF bT bF bO BG ij BH ih hk;go_enter Tryz.func79,Tryz.ntmps79;go_upto_region 2 with (fail)
 rw [HW.out.1];have hk0W:W.cell? ⟨kb,0,none⟩=some (.slice ka t.args.length kc):=(HW.out.2.2.1.cell aQ).trans DB;go_wp2_with fail
 go_loopw [22] (fun i wr=>∃ (k:Nat) (sv:Value) (us:List Value),k<=t.args.length/\i=.int .i64 k/\Grow W (w.heap.size+2) (wF v (.pointer (some ⟨w.heap.size,0,none⟩)) (.pointer (some ⟨w.heap.size+1,0,none⟩))) 33 1 k (jU (jM (t.args.take k) n (n+t.args.length))) sv us wr) (fun i _=>t.args.length-(intOf i).toNat)
 case atStart=>exact ⟨0,_,_,OS _,rfl,by simpa [jM,jU] using Grow.start HW.out.2.2.2.2.2⟩
 case round =>
  rename_i wr;obtain ⟨k,sv,us,hk,rfl,rD⟩:=hrel;obtain ⟨sa,sc,e⟩:=rD.slice;subst e;have rV:wr.heap[w.heap.size+2]? = some (.cells #[str [],.int .i64 (v:Nat),.slice sa k sc,.pointer (some ⟨w.heap.size,0,none⟩),.pointer (some ⟨w.heap.size+1,0,none⟩)] 68 (0,0)):=rD.blk;have iE:=HW.out.2.1;have sJ:Below w.heap.size w wr:=HW.out.2.2.1.trans (rD.below.mono (by omega));obtain ⟨y0,y1,y2,y3,y4,yf⟩:=pz rV;have AH:wr.cell? ⟨kb,0,none⟩=some (.slice ka t.args.length kc):=(sJ.cell aQ).trans DB;have HI:=n7 (n8 rD (n8 rV sJ));clear rD rV sJ;by_cases rH:k<t.args.length
  ·have sS:(k:Int)<(t.args.length:Int):=by omega
   obtain ⟨B2,DT,u2,d2,e,FF,Hf,DF,iZ,sT⟩:=HA.out k rH;subst e;rw [uv,OA] at DF;obtain ⟨a,ha,rfl⟩:=DF;obtain ⟨kab,s2,rfl,_,_,_⟩:=zc sT;have B7:zJ a<=15:=rX.out a (OI ha);have AA:1+zJ a<=zJ t:=arg_atoms ha;have q2:wr.cell? ⟨B2,DT+k,none⟩=some (.pointer (some ⟨kab,0,none⟩)):=(HI.out.2.2.cell Hf).trans iZ;have CC:=IH.out a (by omega) B7 F (.pointer (some ⟨kab,0,none⟩)) (n+k) (n+t.args.length) wr.drew ((Rep.below HI.out.2.2 (fun _ h=>h) sT).drew) (by omega) (by omega);rw [PQ,PQ] at CC;have CC:=n7 CC;have Aq:=etas_take ha n (n+t.args.length);have HK:=n7 (n8 ha Aq);clear ha sT Aq iZ;have Im:=n7 (n8 (show IntKind.i64.wrap ((n:Int)+(k:Int))=(n:Int)+(k:Int) from IntWalk.i64_in _ (by omega)) (show IntKind.i64.wrap ((n:Int)+(t.args.length:Int))=(n:Int)+(t.args.length:Int) from IntWalk.i64_in _ (by omega)));have SX:Hid (∀ w',But (fun i=>(Ox sa k sc).ownBlock=some i) wr w'->w'.cell? ⟨w.heap.size+2,2,none⟩=some (.slice sa k sc)/\w'.cell? ⟨kb,0,none⟩=some (.slice (some ⟨B2,DT,none⟩) t.args.length kc)):=by
    show ∀ w',_->_;intro w' rS;exact ⟨(rS.cell (n_ wr _ y2) HI.out.1.not).trans y2,(rS.cell (n_ wr _ AH) (fun e=>by have h1:=HI.out.1.fr _ e;have h1:w.heap.size+2<kb:=h1;omega)).trans AH⟩
   have i2:k+1<=maxLen:=by unfold maxLen;omega
   have tC:(k+1)*8<=140737488355328:=by omega
   clear y0 y1 y3 y4 yf;go_wp2_with fail
   refine wp_region_noPanic ?_;refine zB (fun w'=>But (fun i=>(Ox sa k sc).ownBlock=some i) wr w') (fun i=>i == 21) (by kernel_rfl) ?_;have rU:(fun w'=>But (fun i=>(Ox sa k sc).ownBlock=some i) wr w') wr.drew:=(But.refl _ wr).drew;refine tk [0,1,2,3,4,5,6,7,8,9,10,11,12,13,14] rU ?_;(intro d hd;simp [tkD] at hd;subst hd;simp only [tks,pQ,pZ,pS]);iterate 15 (refine ⟨?_,?_,?_⟩;rotate_left;· (intro oi ho;simp at ho;subst ho;refine OO ⟨by rfl,fun w' rB=>?_⟩;obtain ⟨e0,e1⟩:=SX.out w' rB;have FW:=Im.out.1;go_simp;try with_reducible rfl))
   refine tk [15] rU ?_;(intro d hd;simp [tkD] at hd;subst hd;simp only [tks,pQ,pZ,pS]);(refine ⟨?_,?_,?_⟩;rotate_left;· (intro oi ho;simp at ho;subst ho;refine OO ⟨by rfl,fun w' rB=>?_⟩;have FW:=Im.out.2;go_simp;try with_reducible rfl));(refine on 16 ?_;intro o ho K' hK;simp at ho;subst ho;go_simp);go_at_call 79;(with_reducible refine CC.out.mono ?_);rintro Dh w6 ⟨vb,rfl,rC,tB⟩;have tD:Below wr.heap.size wr w6:=(Below.drew (rZ _ _)).trans rC;have sX:Hid (But (fun i=>(Ox sa k sc).ownBlock=some i) wr w6):=But.ofBelow tD;have sH:=HI.out.1.own6 tD (.cells #[.pointer (some ⟨vb,0,none⟩)] 33);have H6:=n7 (n8 tD tB);clear rC tB tD;(refine hK.out _ _ (fun _=>sX.out) ?_;clear hK K';try simp only [pQ,pN,pZ,pS]);(refine on 17 ?_;intro o ho K' hK;simp at ho;subst ho;go_simp);(refine hK.out _ _ (fun _=>sX.out.alloc _) ?_;clear hK K';try simp only [pQ,pN,pZ,pS]);(refine on 18 ?_;intro o ho K' hK;simp at ho;subst ho);refine zI (by rfl) _ _ _ (by rfl) 33 (.pointer none) 1 8 PV Tryz.infoB rfl (by decide) (.slice sa k sc) k us (by rfl) sH _ 1 [.pointer (some ⟨vb,0,none⟩)] (by rfl) (zu.lit1 #[.pointer (some ⟨vb,0,none⟩)] rfl (by simp [OR]) _ (by rfl)) i2 tC ?_;intro a' c' w7 r_ rP rL;(refine hK.out _ _ (fun _=>(sX.out.alloc _).trans rP) ?_;clear hK K';try simp only [pQ,pN,pZ,pS]);have sn:=HI.out.1.cell7 H6.out.1 rP;have aM:w7.cell? ⟨w.heap.size+2,2,none⟩=some (.slice sa k sc)/\w7.frozen? ⟨w.heap.size+2,2,none⟩=false:=by rw [wF] at sn;exact ⟨by simp [Li,sn],by simp [OC,sn]⟩
   obtain ⟨A8,iR⟩:=aM;have Be:=n7 sn;clear sn;(refine on 19 ?_;intro o ho K' hK;simp at ho;subst ho;go_simp);(refine hK.out _ _ (fun _=>(sX.out.alloc _).trans rP) ?_;clear hK K';try simp only [pQ,pN,pZ,pS]);(refine on 20 ?_;intro o ho K' hK;simp at ho;subst ho;go_simp);(refine hK.out _ _ (fun _=>(sX.out.alloc _).trans rP) ?_;clear hK K';try simp only [pQ,pN,pZ,pS]);(refine on 21 ?_;intro o ho K' hK;simp at ho;subst ho;go_simp);(refine hK.out _ _ (fun h=>by simp at h) ?_;clear hK K';try simp only [pQ,pN,pZ,pS]);refine zX (by kernel_rfl) (Oy ?_) _;have hX:=HI.out.1.next (w8:=w7.setCell ⟨w.heap.size+2,2,none⟩ (.slice a' (k+1) c')) H6.out.1 (zW.one H6.out.2) r_ rP rL (by rw [zg Be.out];rfl) (uM _ _ _ _);have aD:jU (jM (t.args.take k) n (n+t.args.length))++[k_ (eta a (n+k) (n+t.args.length))]=jU (jM (t.args.take (k+1)) n (n+t.args.length)):=by rw [HK.out.2,pL]
   rw [aD] at hX;have HN:=n7 hX;clear hX aD r_ rP rL rU sH A8 iR;go_wp2_with fail
   go_roundw
   case rel=>exact ⟨k+1,_,_,by omega,by go_num,HN.out⟩
   case measure=>simp [intOf];omega
  ·obtain rfl:k=t.args.length:=by omega
   clear y0 y1 y2 y3 y4 yf;go_wp2_with fail
   go_ret;refine ⟨w.heap.size+2,rfl,HI.out.2.2,?_⟩;have tN:=HI.out.1.sl;rw [OT] at tN;rw [ei,k_,yJ,jw];have bT:=(HI.out.1.below.block w.heap.size (by omega)).trans HW.out.2.2.2.1;have bF:=(HI.out.1.below.block (w.heap.size+1) (by omega)).trans HW.out.2.2.2.2.1;refine ⟨_,_,rfl,by show w.heap.size<=w.heap.size+2;omega,HI.out.2.1,?_⟩;refine zQ.2 ⟨_,_,rfl,zH.2 rfl,zQ.2 ⟨_,_,rfl,zH.2 rfl,zQ.2 ⟨_,_,rfl,tN.weak fun i (h:w.heap.size+2<i)=>by show w.heap.size<=i;omega,zQ.2 ⟨_,_,rfl,gI bT (n9 _),zQ.2 ⟨_,_,rfl,gI bF (by omega),zC.2 rfl⟩⟩⟩⟩⟩
structure je (F0:Nat->Prop) (w:World) (P:Nat) (o:Value->Obj) (e:TypeId) (sz k:Nat) (cs:List DV) (sv:Value) (us:List Value) (wr:World):Prop where
 below:Below P w wr
 blk:wr.heap[P]? = some (o sv)
 own:Own wr e sz sv k us
 rep:zW (fun i=>(F0 i\/P<i)/\sv.ownBlock≠some i) wr cs us
 fr:∀ g,sv.ownBlock=some g->P<g
theorem je.start {F0:Nat->Prop} {w:World} {P:Nat} {o:Value->Obj} {e:TypeId} {sz:Nat} (h:w.heap[P]? = some (o (.slice none 0 0))):je F0 w P o e sz 0 [] (.slice none 0 0) [] w :=
 ⟨rZ _ _,h,Pq _ _ _ _,by rw [zC],fun g hg=>by simp [OG] at hg⟩
theorem je.slice {F0:Nat->Prop} {w:World} {P:Nat} {o:Value->Obj} {e:TypeId} {sz k:Nat} {cs:List DV} {sv:Value} {us:List Value} {wr:World} (h:je F0 w P o e sz k cs sv us wr):∃ a c,sv=.slice a k c:=h.own.slice
theorem je.next {F0:Nat->Prop} {w:World} {P:Nat} {o:Value->Obj} {e:TypeId} {sz k:Nat} {cs:List DV} {sv:Value} {us:List Value} {wr:World} (h:je F0 w P o e sz k cs sv us wr) (hF0:∀ i,F0 i->i<P)
 {w6 w7 w8:World} {ob:Obj} {ds:List DV} {news:List Value} {sv':Value} (rC:Below wr.heap.size wr w6) (tB:zW (fun i=>F0 i\/wr.heap.size<=i) w6 ds news)
 (r_:Own w7 e sz sv' (k+1) (us++news)) (rP:But (fun b=>sv.ownBlock=some b) (w6.alloc ob) w7) (rL:∀ g,sv'.ownBlock=some g->sv.ownBlock=some g\/g=(w6.alloc ob).heap.size)
 (h8:w8.heap[P]? = some (o sv')) (sP:But (fun b=>b=P) w7 w8):je F0 w P o e sz (k+1) (cs++ds) sv' (us++news) w8:=by
 have hz6:=rC.size;have Ko:=rP.size;rw [zK] at Ko;have JY:=zZ h.blk;have Bf:∀ i,sv.ownBlock=some i->P<i/\i<wr.heap.size:=fun i e=>⟨h.fr i e,h.own.lt e⟩;have past:∀ (i:Nat) (x:Obj),i≠P->sv.ownBlock≠some i->w6.heap[i]? = some x->w8.heap[i]? = some x:=fun i x h1 h2 hx=>by
  have hl:=zZ hx;rw [sP.block i (by omega) h1,rP.block i (by rw [zK];omega) h2,Below.heap_alloc _ _ _ hl];exact hx
 have tV:∀ g,sv'.ownBlock=some g->sv.ownBlock=some g\/w6.heap.size<g:=fun g hg=>by
  rcases rL g hg with e | e
  ·exact .inl e
  ·rw [zK] at e;exact .inr (by omega)
 refine ⟨?_,h8,r_.keep fun g x hg hx=>?_,zW.append ?_ ?_,fun g hg=>?_⟩
 ·have h1:Below P w (w6.alloc ob):=(h.below.trans (rC.mono (Uh JY))).alloc (by omega) _;have h2:Below P w w7:=h1.trans (rP.toBelow (by rw [zK];omega) fun i hi e=>by have:=Bf i e;omega);exact h2.trans (sP.toBelow (by omega) fun i hi e=>by omega)
 ·rw [sP.block g (zZ hx) (fun e=>by rcases tV g hg with e' | e';· have:=Bf g e';omega
                                    ·omega)];exact hx
 ·have hk:∀ i x,((F0 i\/P<i)/\sv.ownBlock≠some i)->wr.heap[i]? = some x->((F0 i\/P<i)/\sv'.ownBlock≠some i)/\w8.heap[i]? = some x:=fun i x hi hx=>by
   refine ⟨⟨hi.1,fun e2=>?_⟩,past i x (by rcases hi.1 with h | h;have:=hF0 i h;omega;omega) hi.2 (by rw [rC.block i (zZ hx)];exact hx)⟩;rcases tV i e2 with e' | e'
   ·exact hi.2 e'
   ·have:=zZ hx;omega
  exact (Rep.keep hk).2 _ _ h.rep
 ·have hk:∀ i x,(F0 i\/wr.heap.size<=i)->w6.heap[i]? = some x->((F0 i\/P<i)/\sv'.ownBlock≠some i)/\w8.heap[i]? = some x:=fun i x hi0 hx=>by
   have hi:F0 i/\i<P\/wr.heap.size<=i:=hi0.elim (fun h=>.inl ⟨h,hF0 i h⟩) .inr;refine ⟨⟨hi0.elim .inl (fun h=>.inr (by omega)),fun e2=>?_⟩,past i x (by rcases hi with h | h;have:=h.2;omega;omega) (fun e2=>by have:=Bf i e2;rcases hi with h | h;have:=h.2;omega;omega) hx⟩;rcases tV i e2 with e' | e'
   ·have:=Bf i e';rcases hi with h | h;have:=h.2;omega;omega
   ·have:=zZ hx;omega
  exact (Rep.keep hk).2 _ _ tB
 ·rcases tV g hg with e' | e'
  ·exact h.fr g e'
  ·omega
theorem je.own6 {F0:Nat->Prop} {w:World} {P:Nat} {o:Value->Obj} {e:TypeId} {sz k:Nat} {cs:List DV} {sv:Value} {us:List Value} {wr:World} (h:je F0 w P o e sz k cs sv us wr) {w6:World} (rC:Below wr.heap.size wr w6) (ob:Obj):Own (w6.alloc ob) e sz sv k us :=
 (h.own.keep (w':=w6) fun g _ _ hx=>by rw [rC.block g (zZ hx)];exact hx).alloc ob
theorem je.not {F0:Nat->Prop} {w:World} {P:Nat} {o:Value->Obj} {e:TypeId} {sz k:Nat} {cs:List DV} {sv:Value} {us:List Value} {wr:World} (h:je F0 w P o e sz k cs sv us wr):¬ sv.ownBlock=some P:=fun e=>by have:=h.fr P e;omega
theorem je.sl {F0:Nat->Prop} {w:World} {P:Nat} {o:Value->Obj} {e:TypeId} {sz k:Nat} {cs:List DV} {sv:Value} {us:List Value} {wr:World} (h:je F0 w P o e sz k cs sv us wr):Rep (fun i=>F0 i\/P<i) wr (.sl e sz k cs) sv :=
 h.own.rep (fun g hg=>.inr (h.fr g hg)) ((Rep.keep fun _ _ hi hx=>⟨hi.1,hx⟩).2 _ _ h.rep)
theorem je.cell7 {F0:Nat->Prop} {w:World} {P:Nat} {o:Value->Obj} {e:TypeId} {sz k:Nat} {cs:List DV} {sv:Value} {us:List Value} {wr:World} (h:je F0 w P o e sz k cs sv us wr) {w6 w7:World} {ob:Obj} (rC:Below wr.heap.size wr w6) (rP:But (fun b=>sv.ownBlock=some b) (w6.alloc ob) w7) :
 w7.heap[P]? = some (o sv):=by
 have JY:=zZ h.blk;have:=rC.size;rw [rP.block P (by rw [zK];omega) h.not,Below.heap_alloc _ _ _ (by omega),rC.block P JY];exact h.blk
def PtrPost (F:Nat->Prop) (w:World) (b:Bd) (en:Ending) (w':World):Prop :=
 ∃ p,en=.returned (.pointer (some ⟨p,0,none⟩))/\Below w.heap.size w w'/\Rep (fun i=>F i\/w.heap.size<=i) w' (k_ b) (.pointer (some ⟨p,0,none⟩))
theorem ask_new {F:Nat->Prop} {w:World} {v:Nat} {ss:List Bd} {y n:Bd} {b:Nat} {sv yv nv:Value} (hb:F b) (hc:w.heap[b]? = some (.cells #[str [],.int .i64 (v:Nat),sv,yv,nv] 68 (0,0)))
 (hs:Rep F w (.sl 33 1 ss.length (jU ss)) sv) (hy:Rep F w (k_ y) yv) (hn:Rep F w (k_ n) nv):Rep F w (k_ (.ask v ss y n)) (.pointer (some ⟨b,0,none⟩)):=by
 rw [k_,jw];exact ⟨_,_,rfl,hb,hc,zQ.2 ⟨_,_,rfl,zH.2 rfl,zQ.2 ⟨_,_,rfl,zH.2 rfl,zQ.2 ⟨_,_,rfl,hs,zQ.2 ⟨_,_,rfl,hy,zQ.2 ⟨_,_,rfl,hn,zC.2 rfl⟩⟩⟩⟩⟩⟩
theorem fits2_any (F:Nat->Prop) (w:World) (b:Bd) (v:Value) (hv:Rep F w (k_ b) v) (hn:zU b<=100000) :
 Calls No 58 #[v] w fun en w'=>en=.returned (.bool (decide (zU b<=200/\kr b<=100)))/\Below w.heap.size w w':=by
 obtain ⟨vb,rfl⟩:=zd hv;have hL:Lim 100000:=by unfold Lim;omega
 have C1:=n7 (size_any 100000 b hn hL F w _ hv);go_enter Tryz.func58,Tryz.ntmps58;go_wp2_with fail
 (with_reducible refine C1.out.mono ?_)
 rintro en w1 ⟨rfl,rW⟩;have C2:=n7 (depth_any 100000 b hn hL F w1 _ (Rep.below rW (fun _ h=>h) hv));have HB:=n7 rW;clear rW;by_cases iY:zU b<=200
 ·have h1:decide ((zU b:Int)<=200)=true:=decide_eq_true (by omega);go_wp2_with fail
  (with_reducible refine C2.out.mono ?_);rintro en w2 ⟨rfl,rY⟩
  have hb:=zzT HB.out rY;clear rY;by_cases li:kr b<=100
  focus
   have h2:decide ((kr b:Int)<=100)=true:=decide_eq_true (by omega);have HE:=n7 (n8 (show decide (zU b<=200/\kr b<=100)=true from decide_eq_true ⟨iY,li⟩) hb);clear hb
  rotate_left
  focus
   have h2:decide ((kr b:Int)<=100)=false:=decide_eq_false (by omega);have HE:=n7 (n8 (show decide (zU b<=200/\kr b<=100)=false from decide_eq_false (by omega)) hb);clear hb
  all_goals
   go_wp2_with fail
   go_ret;rw [HE.out.1];exact ⟨rfl,HE.out.2⟩
 ·have h1:decide ((zU b:Int)<=200)=false:=decide_eq_false (by omega);have HE:=n7 (show decide (zU b<=200/\kr b<=100)=false from decide_eq_false (by omega));go_wp2_with fail
  go_ret;rw [HE.out];exact ⟨rfl,HB.out⟩
theorem kindsOf_any (F:Nat->Prop) (ns:List Nm) (lv:Value) (w:World) (hn:ns.length<=1000) (hr:Rep F w (.sl 99 2 ns.length (jt ns)) lv) :
 Calls No 81 #[lv] w fun en w'=>∃ a c,en=.returned (.slice a ns.length c)/\Below w.heap.size w w'/\Rep (fun i=>F i\/w.heap.size<=i) w' (.sl 32 1 ns.length (qH (kinds ns))) (.slice a ns.length c):=by
 obtain ⟨la,lc,rfl,_,rX⟩:=AtNms.of hr;have AT:=n7 rX;clear rX hr;go_enter Tryz.func81,Tryz.ntmps81;go_wp2_with fail
 go_loopw [3,8] (fun ov i wr=>∃ k:Nat,k<=ns.length/\i=.int .i64 k/\∃ a c us,ov=.slice a k c/\Own wr 32 1 (.slice a k c) k us/\zW F w (qH (kinds (ns.take k))) us/\Below w.heap.size w wr/\(∀ g,(Ox a k c).ownBlock=some g->w.heap.size<=g)) (fun _ i _=>ns.length-(intOf i).toNat)
 case atStart=>exact ⟨0,OS _,rfl,none,0,[],rfl,Pq _ _ _ _,by simp [kinds,qH,zC],rZ _ _,fun g h=>by simp [OG] at h⟩
 case round =>
  rename_i wr;obtain ⟨k,hk,rfl,a,c,us,rfl,ho,hus,hb,hf⟩:=hrel;have HO:=n7 ho;have HF:=n7 hf;have HB:=n7 hb;have HU:=n7 hus;clear ho hf hb hus;by_cases rH:k<ns.length
  ·have sS:(k:Int)<(ns.length:Int):=by omega
   obtain ⟨b,o,x,t,kb,e,sJ,hp,h1,h2,sT⟩:=AT.out k rH;subst e;have q0:=(HB.out.cell (p:=⟨b,o+k*2,none⟩) sJ).trans h1;have q1:=(HB.out.cell (p:=⟨b,o+k*2+1,none⟩) sJ).trans h2;have HP:=n7 (n8 hp sT);clear hp sT h1 h2;go_wp2_with (at_builtin;refine zM rfl _ _ 100 rfl 32 (.pointer none) 1 8 Tryz.underlying100 Tryz.infoK rfl (by decide) (.slice a k c) k us rfl ?c1 _ 1 [.pointer (some ⟨kb,0,none⟩)] rfl ?c2 ?c3 ?c4 ?_)
   case c1=>exact (HO.out.alloc _).alloc _
   case c2=>exact zu.lit1 #[.pointer (some ⟨kb,0,none⟩)] rfl (by simp [OR]) _ (by simp)
   case c3=>unfold maxLen;omega
   case c4=>omega
   intro a' c' w7 r_ rP rL;have hsz:w.heap.size<=wr.heap.size:=HB.out.size;have aB:Below w.heap.size w ((wr.alloc (.cells #[str x,.pointer (some ⟨kb,0,none⟩)] 99)).alloc (.cells #[.pointer (some ⟨kb,0,none⟩)] 32)):=(HB.out.alloc HB.out.size _).alloc (by rw [zK];omega) _;have aC:Below w.heap.size w w7:=aB.trans (rP.toBelow (by rw [zK,zK];omega) fun i hi e=>by have:=HF.out i e;omega);have Au:∀ g,(Ox a' (k+1) c').ownBlock=some g->w.heap.size<=g:=by
    intro g h;rcases rL g h with h | h
    ·exact HF.out g h
    ·omega
   have hu7:zW F w (qH (kinds (ns.take (k+1)))) (us++[.pointer (some ⟨kb,0,none⟩)]):=by
    have e:kinds (ns.take (k+1))=kinds (ns.take k)++[t]:=by
     rw [Pc,HP.out.1];simp [kinds]
    rw [e,pT];exact HU.out.append (zQ.2 ⟨_,_,rfl,HP.out.2,zC.2 rfl⟩)
   have HA:=n7 (n8 r_ (n8 aC (n8 Au hu7)));clear r_ aC Au rP rL hu7 aB;go_wp2_with fail
   go_roundw
   case rel=>exact ⟨k+1,by omega,by go_num,a',c',_,rfl,HA.out.1,HA.out.2.2.2,HA.out.2.1,HA.out.2.2.1⟩
   case measure=>simp [intOf];omega
  ·obtain rfl:k=ns.length:=by omega
   go_wp2_with fail
   refine bodyPost_ret (v:=.slice a ns.length c) (by simp [results,Tryz.results81,go_sem]) rfl ?_;have hU:=HU.out;rw [OT] at hU;exact ⟨a,c,rfl,HB.out,HO.out.rep (fun g hg=>.inr (HF.out g hg)) (zW.below HB.out (fun _ h=>.inl h) hU)⟩
def AnsSaid (N:Nat):Prop:=∀ (F:Nat->Prop) (b y n:Bd) (bv yv nv:Value) (w:World),zU b<=N->wfB b->Rep F w (k_ b) bv->Rep F w (k_ y) yv->Rep F w (k_ n) nv ->
 Calls No 83 #[bv,yv,nv] w (PtrPost F w (qV b y n))
theorem ans_step (N:Nat) (ih:AnsSaid N):AnsSaid (N+1):=by
 intro F b y n bv yv nv w hsz Ac hb hy hn;obtain ⟨yb,rfl⟩:=zd hy;obtain ⟨nb,rfl⟩:=zd hn;cases b with
 | leaf c =>
   obtain ⟨a0,sl,rfl,_,rV,_⟩:=xp hb;have r0:w.cell? ⟨a0,0,none⟩=some (str [c]):=by simp [Li,rV]
   rw [wfB] at Ac;have HY:=n7 hy;have HN:=n7 hn;have HB:=n7 hb;clear rV ih hy hn hb;rcases Ac with rfl | rfl | rfl
   ·go_enter RT,RI;go_wp2_with fail
    go_ret;exact ⟨_,rfl,rZ _ _,by rw [qV];simpa using HY.out.weak fun _ h=>.inl h⟩
   ·go_enter RT,RI;go_wp2_with fail
    go_ret;exact ⟨_,rfl,rZ _ _,by rw [qV];simpa using HN.out.weak fun _ h=>.inl h⟩
   ·go_enter RT,RI;go_wp2_with fail
    go_ret;exact ⟨_,rfl,rZ _ _,by rw [qV];simpa using HB.out.weak fun _ h=>.inl h⟩
 | ask v ss yy nn =>
   obtain ⟨a0,sl,y0,n0,rfl,_,rV,Ar,AW,lp⟩:=uu hb;obtain ⟨sa,sc,rfl,_,_,_⟩:=zP Ar;obtain ⟨yp,rfl⟩:=zd AW;obtain ⟨np,rfl⟩:=zd lp;have r0:w.cell? ⟨a0,0,none⟩=some (str []):=by simp [Li,rV]
   have r1:w.cell? ⟨a0,1,none⟩=some (.int .i64 (v:Nat)):=by simp [Li,rV]
   have r2:w.cell? ⟨a0,2,none⟩=some (.slice sa ss.length sc):=by simp [Li,rV]
   have r3:w.cell? ⟨a0,3,none⟩=some (.pointer (some ⟨yp,0,none⟩)):=by simp [Li,rV]
   have r4:w.cell? ⟨a0,4,none⟩=some (.pointer (some ⟨np,0,none⟩)):=by simp [Li,rV]
   have B8:=zZ rV;have SX:Hid (∀ w',Below w.heap.size w w'->w'.cell? ⟨a0,1,none⟩=some (.int .i64 (v:Nat))/\w'.cell? ⟨a0,2,none⟩=some (.slice sa ss.length sc)/\w'.cell? ⟨a0,3,none⟩=some (.pointer (some ⟨yp,0,none⟩))/\w'.cell? ⟨a0,4,none⟩=some (.pointer (some ⟨np,0,none⟩))):=by
    show ∀ w',_->_;intro w' h;exact ⟨(h.cell B8).trans r1,(h.cell B8).trans r2,(h.cell B8).trans r3,(h.cell B8).trans r4⟩
   rw [zU] at hsz;rw [wfB] at Ac;have C0:=n7 (fun wz (h:Below w.heap.size w wz)=>ih F yy y n _ _ _ wz (by omega) Ac.2.1 (Rep.below h (fun _ h=>h) AW) (Rep.below h (fun _ h=>h) hy) (Rep.below h (fun _ h=>h) hn));have C1:=n7 (fun wz (h:Below w.heap.size w wz)=>ih F nn y n _ _ _ wz (by omega) Ac.2.2 (Rep.below h (fun _ h=>h) lp) (Rep.below h (fun _ h=>h) hy) (Rep.below h (fun _ h=>h) hn));have HS:=n7 Ar;clear ih rV Ar AW lp hb hy hn Ac r1 r2 r3 r4;go_enter RT,RI;go_wp2_with fail
   refine wp_region_noPanic ?_;refine zB (fun w'=>Below w.heap.size w w') (fun _=>false) (by kernel_rfl) ?_;have rU:(fun w'=>Below w.heap.size w w') w.drew:=Below.drew (rZ _ _);refine tk [0,1,2,3,4,5,6,7,8,9,10,11,12,13,15,16,17,18,19,20] rU ?_;(intro d hd;simp [tkD] at hd;subst hd;simp only [tks,pQ,pZ,pS]);iterate 20 (refine ⟨?_,?_,?_⟩;rotate_left;· (intro oi ho;simp at ho;subst ho;refine OO ⟨by rfl,fun w' rB=>?_⟩;obtain ⟨e1,e2,e3,e4⟩:=SX.out w' rB;go_simp;try with_reducible rfl))
   (refine on 14 ?_;intro o ho K' hK;simp at ho;subst ho;go_simp);go_at_call 83
   (with_reducible refine (C0.out _ rU).mono ?_);rintro en v0 ⟨p0,rfl,ru,FZ⟩
   have tw:Hid (Below w.heap.size w v0):=rU.trans ru;have HR0:Hid (Rep (fun i=>F i\/w.heap.size<=i) v0 (k_ (qV yy y n)) (.pointer (some ⟨p0,0,none⟩))):=FZ.weak fun i h=>by rcases h with h | h;exact .inl h;exact .inr (h)
   have K6:=n7 ru;clear ru FZ;(refine hK.out _ _ (fun _=>tw.out) ?_;clear hK K';try simp only [pQ,pN,pZ,pS]);have hS14:=tw.out;(refine on 21 ?_;intro o ho K' hK;simp at ho;subst ho;go_simp);go_at_call 83;(with_reducible refine (C1.out _ tw.out).mono ?_);rintro en v1 ⟨p1,rfl,rW,tX⟩;have sZ:Hid (Below w.heap.size w v1):=zzT tw.out rW;have Ip:Hid (Rep (fun i=>F i\/w.heap.size<=i) v1 (k_ (qV nn y n)) (.pointer (some ⟨p1,0,none⟩))):=tX.weak fun i h=>by rcases h with h | h;exact .inl h;exact .inr (rJ tw.out.size h)
   have B_:=n7 rW;clear rW tX;(refine hK.out _ _ (fun _=>sZ.out) ?_;clear hK K';try simp only [pQ,pN,pZ,pS]);have hS21:=sZ.out;refine tk [22] hS21 ?_;(intro d hd;simp [tkD] at hd;subst hd;simp only [tks,pQ,pZ,pS]);(refine ⟨?_,?_,?_⟩;rotate_left;· (intro oi ho;simp at ho;subst ho;refine OO ⟨by rfl,fun w' rB=>?_⟩;go_simp;try with_reducible rfl));(refine on 23 ?_;intro o ho K' hK;simp at ho;subst ho;go_simp);(refine hK.out _ _ (fun _=>sZ.out.alloc sZ.out.size _) ?_;clear hK K';try simp only [pQ,pN,pZ,pS]);(refine on 24 ?_;intro o ho K' hK;simp at ho;subst ho;go_simp);(refine hK.out _ _ (fun _=>sZ.out.alloc sZ.out.size _) ?_;clear hK K';try simp only [pQ,pN,pZ,pS]);refine zX (by kernel_rfl) (Oy ?_) _;go_wp2_with fail
   go_ret;refine ⟨v1.heap.size,rfl,sZ.out.alloc sZ.out.size _,?_⟩;rw [qV];have k1:∀ i x,(F i\/w.heap.size<=i)->v1.heap[i]? = some x->(F i\/w.heap.size<=i)/\(v1.alloc (.cells #[str [],.int .i64 (v:Nat),.slice sa ss.length sc,.pointer (some ⟨p0,0,none⟩),.pointer (some ⟨p1,0,none⟩)] 68)).heap[i]? = some x:=fun i x h hx=>⟨h,zY hx⟩;exact ask_new (.inr sZ.out.size) (zG _ _) ((Rep.keep k1).1 _ _ (Rep.below sZ.out (fun _ h=>.inl h) HS.out)) ((Rep.keep k1).1 _ _ (Rep.below B_.out (fun _ h=>h) HR0.out)) ((Rep.keep k1).1 _ _ Ip.out)
theorem answered_any (N:Nat):AnsSaid N:=by
 induction N with
 | zero=>exact fun F b y n bv yv nv w h=>by have:=ze b;omega
 | succ N ih=>exact ans_step N ih
theorem u_ (n k:Nat):∀ ss:List Bd,za ss n k=ss.map fun b=>kW b n k
 | []=>by rw [za];rfl
 | b::bs=>by rw [za,u_ n k bs];rfl
theorem vU {ss:List Bd} {j:Nat} {s:Bd} (h:ss[j]? = some s) (n k:Nat):za (ss.take (j+1)) n k=za (ss.take j) n k++[kW s n k]:=by
 rw [u_,u_,Pc,h];simp
theorem dM:∀ (bs:List Bd),cA bs->∀ (k:Nat) (b:Bd),bs[k]? = some b->lvB b
 | [],_,k,b,h=>by simp at h
 | p::ps,ho,0,b,h=>by simp at h;subst h;rw [cA] at ho;exact ho.1
 | p::ps,ho,k+1,b,h=>by rw [cA] at ho;exact dM ps ho.2 k b (by simpa using h)
def RaSaid (N:Nat):Prop:=∀ (F:Nat->Prop) (b:Bd) (n k:Nat) (bv:Value) (w:World),zU b<=N->zU b<=1000000->lvB b->n<=10000->k<=10000->Rep F w (k_ b) bv ->
 Calls No 82 #[bv,.int .i64 (n:Nat),.int .i64 (k:Nat)] w (PtrPost F w (kW b n k))
theorem ra_step (N:Nat) (ih:RaSaid N):RaSaid (N+1):=by
 intro F b n k bv w hN hM th hn hk hb;cases b with
 | leaf c =>
   obtain ⟨bb,rfl⟩:=zd hb;have CL:=n7 (yK F w c _ hb);have HB:=n7 hb;clear hb ih;go_enter Ui,TM;go_wp2_with fail
   (with_reducible refine CL.out.mono ?_);rintro en w1 ⟨rfl,e⟩
   subst w1;go_wp2_with fail
   go_ret;exact ⟨_,rfl,rZ _ _,by rw [kW];exact HB.out.weak fun _ h=>.inl h⟩
 | ask v ss yy nn =>
   obtain ⟨a0,sl,y0,n0,rfl,_,rV,Ar,AW,lp⟩:=uu hb;obtain ⟨sa,sc,rfl,_,_,Fw⟩:=zP Ar;obtain ⟨yp,rfl⟩:=zd AW;obtain ⟨np,rfl⟩:=zd lp;have r1:w.cell? ⟨a0,1,none⟩=some (.int .i64 (v:Nat)):=by simp [Li,rV]
   have r2:w.cell? ⟨a0,2,none⟩=some (.slice sa ss.length sc):=by simp [Li,rV]
   have r3:w.cell? ⟨a0,3,none⟩=some (.pointer (some ⟨yp,0,none⟩)):=by simp [Li,rV]
   have r4:w.cell? ⟨a0,4,none⟩=some (.pointer (some ⟨np,0,none⟩)):=by simp [Li,rV]
   have B8:=zZ rV;have SX:Hid (∀ w',Below w.heap.size w w'->w'.cell? ⟨a0,1,none⟩=some (.int .i64 (v:Nat))/\w'.cell? ⟨a0,3,none⟩=some (.pointer (some ⟨yp,0,none⟩))/\w'.cell? ⟨a0,4,none⟩=some (.pointer (some ⟨np,0,none⟩))):=by
    show ∀ w',_->_;intro w' h;exact ⟨(h.cell B8).trans r1,(h.cell B8).trans r3,(h.cell B8).trans r4⟩
   rw [zU] at hN hM;rw [lvB] at th;have CL:=n7 (yh F w v ss yy nn _ hb);have C0:=n7 (fun wz (h:Below w.heap.size w wz)=>ih F yy n k _ wz (by omega) (by omega) th.2.2.1 hn hk (Rep.below h (fun _ h=>h) AW));have C1:=n7 (fun wz (h:Below w.heap.size w wz)=>ih F nn n k _ wz (by omega) (by omega) th.2.2.2 hn hk (Rep.below h (fun _ h=>h) lp));have HS:=n7 Fw;have HQ:=n7 (n8 hN (n8 hM th));have IH:=n7 ih;have hvb:v<=10000:=th.1;have tN:ss.length<=1000000:=by have:=qO ss;omega
   clear ih rV Ar AW lp hb r1 r3 r4 Fw hN hM th;go_enter Ui,TM;go_wp2_with fail
   (with_reducible refine CL.out.mono ?_);rintro en w1 ⟨rfl,e⟩
   subst w1;go_wp2_with fail
   refine wp_region_noPanic ?_;refine zB (fun w'=>Below w.heap.size w w') (fun _=>false) (by kernel_rfl) ?_;have rU:(fun w'=>Below w.heap.size w w') w.drew:=Below.drew (rZ _ _);refine tk [0,1,2,3,4,5,6,7,8,9,11,12,13,14,15,16] rU ?_;(intro d hd;simp [tkD] at hd;subst hd;simp only [tks,pQ,pZ,pS]);iterate 16 (refine ⟨?_,?_,?_⟩;rotate_left;· (intro oi ho;simp at ho;subst ho;refine OO ⟨by rfl,fun w' rB=>?_⟩;obtain ⟨e1,e3,e4⟩:=SX.out w' rB;go_simp;try with_reducible rfl))
   (refine on 10 ?_;intro o ho K' hK;simp at ho;subst ho;go_simp);go_at_call 82
   (with_reducible refine (C0.out _ rU).mono ?_);rintro en v0 ⟨p0,rfl,ru,FZ⟩
   have tw:Hid (Below w.heap.size w v0):=rU.trans ru;have HR0:Hid (Rep (fun i=>F i\/w.heap.size<=i) v0 (k_ (kW yy n k)) (.pointer (some ⟨p0,0,none⟩))):=FZ.weak fun i h=>by rcases h with h | h;exact .inl h;exact .inr (h)
   have K6:=n7 ru;clear ru FZ;(refine hK.out _ _ (fun _=>tw.out) ?_;clear hK K';try simp only [pQ,pN,pZ,pS]);have JW:=tw.out;(refine on 17 ?_;intro o ho K' hK;simp at ho;subst ho;go_simp);go_at_call 82;(with_reducible refine (C1.out _ tw.out).mono ?_);rintro en v1 ⟨p1,rfl,rW,tX⟩;have sZ:Hid (Below w.heap.size w v1):=zzT tw.out rW;have Ip:Hid (Rep (fun i=>F i\/w.heap.size<=i) v1 (k_ (kW nn n k)) (.pointer (some ⟨p1,0,none⟩))):=tX.weak fun i h=>by rcases h with h | h;exact .inl h;exact .inr (rJ tw.out.size h)
   have B_:=n7 rW;clear rW tX;(refine hK.out _ _ (fun _=>sZ.out) ?_;clear hK K';try simp only [pQ,pN,pZ,pS]);have GU:=sZ.out;refine tk [18] GU ?_;(intro d hd;simp [tkD] at hd;subst hd;simp only [tks,pQ,pZ,pS]);(refine ⟨?_,?_,?_⟩;rotate_left;· (intro oi ho;simp at ho;subst ho;refine OO ⟨by rfl,fun w' rB=>?_⟩;go_simp;try with_reducible rfl));(refine on 19 ?_;intro o ho K' hK;simp at ho;subst ho;go_simp);(refine hK.out _ _ (fun _=>sZ.out.alloc sZ.out.size _) ?_;clear hK K';try simp only [pQ,pN,pZ,pS]);(refine on 20 ?_;intro o ho K' hK;simp at ho;subst ho;go_simp);(refine hK.out _ _ (fun _=>sZ.out.alloc sZ.out.size _) ?_;clear hK K';try simp only [pQ,pN,pZ,pS]);refine zX (by kernel_rfl) (Oy ?_) _;have blkP:(v1.alloc (.cells #[str [],.int .i64 (v:Nat),.slice none 0 0,.pointer (some ⟨p0,0,none⟩),.pointer (some ⟨p1,0,none⟩)] 68)).heap[v1.heap.size]? = some (.cells #[str [],.int .i64 (v:Nat),.slice none 0 0,.pointer (some ⟨p0,0,none⟩),.pointer (some ⟨p1,0,none⟩)] 68 (0,0)):=zG _ _;have DK:Below v1.heap.size v1 (v1.alloc (.cells #[str [],.int .i64 (v:Nat),.slice none 0 0,.pointer (some ⟨p0,0,none⟩),.pointer (some ⟨p1,0,none⟩)] 68)):=(rZ _ _).alloc (n9 _) _;obtain ⟨V,hV⟩:=zzN (v1.alloc (.cells #[str [],.int .i64 (v:Nat),.slice none 0 0,.pointer (some ⟨p0,0,none⟩),.pointer (some ⟨p1,0,none⟩)] 68));rw [hV] at blkP DK ⊢;obtain ⟨P,hP⟩:=zzN (v1.heap.size);rw [hP] at blkP DK ⊢;have Hd:w.heap.size<=P:=by rw [<- hP];exact sZ.out.size
   have Og:=n7 (Rep.below (F':=fun i=>F i\/w.heap.size<=i) B_.out (fun _ h=>h) HR0.out);clear hV HR0 B_ K6 CL C0 C1;obtain ⟨z0,z1,z2,z3,z4,zf⟩:=pz blkP;have Dk:=zf 1;clear zf;have HP:=n7 (n8 blkP DK);clear blkP DK;by_cases hv:n<=v
   ·have hvI:(n:Int)<=(v:Int):=by omega
    have aA:IntKind.i64.wrap ((v:Int)+(k:Int))=(v:Int)+(k:Int):=IntWalk.i64_in _ (by omega);go_upto_region 6 with (fail)
    obtain ⟨W,hW⟩:=zzN (V.setCell ⟨P,1,none⟩ (.int .i64 ((v:Int)+(k:Int))));rw [hW];have Nz:W.heap[P]? = some (wF (v+k) (.pointer (some ⟨p0,0,none⟩)) (.pointer (some ⟨p1,0,none⟩)) (.slice none 0 0)):=by
     rw [<- hW];rw [zg HP.out.1,wF,PQ];rfl
    have I1:Below P v1 W:=by rw [<- hW];exact HP.out.2.setCell (p:=⟨P,1,none⟩) (n9 _) _
    have I0:Below w.heap.size w W:=sZ.out.trans (I1.mono Hd);have q2:=(I0.cell (p:=⟨a0,2,none⟩) B8).trans r2;have HW:=n7 (n8 Nz (n8 I1 I0));clear hW Nz I1 I0 z0 z1 z2 z3 z4 Dk r2;go_wp2_with fail
    go_loopw [53] (fun i wr=>∃ (j:Nat) (sv:Value) (us:List Value),j<=ss.length/\i=.int .i64 j/\je (fun i=>F i/\i<w.heap.size) W P (wF (v+k) (.pointer (some ⟨p0,0,none⟩)) (.pointer (some ⟨p1,0,none⟩))) 33 1 j (jU (za (ss.take j) n k)) sv us wr) (fun i _=>ss.length-(intOf i).toNat)
    case atStart=>exact ⟨0,_,_,OS _,rfl,by simpa [za,jU] using je.start HW.out.1⟩
    case round =>
     rename_i wr;obtain ⟨j,sv,us,hj,rfl,rD⟩:=hrel;obtain ⟨ga,gc,e⟩:=rD.slice;subst e;have rV:wr.heap[P]? = some (.cells #[str [],.int .i64 ((v+k:Nat):Int),.slice ga j gc,.pointer (some ⟨p0,0,none⟩),.pointer (some ⟨p1,0,none⟩)] 68 (0,0)):=rD.blk;have sJ:Below w.heap.size w wr:=HW.out.2.2.trans (rD.below.mono Hd);obtain ⟨y0,y1,y2,y3,y4,yf⟩:=pz rV;have HI:=n7 (n8 rD (n8 rV sJ));clear rD rV sJ;clear y0 y1 y3 y4 yf q2;by_cases rH:j<ss.length
     ·have sS:(j:Int)<(ss.length:Int):=by omega
      obtain ⟨sb,so,su,sd,e,_,I8,oK,BA,Ci⟩:=HS.out j rH;subst e;rw [xE,OA] at oK;obtain ⟨s,hs,rfl⟩:=oK;obtain ⟨sp,rfl⟩:=zd Ci;have Gm:=vz (OI hs);have q3:wr.cell? ⟨sb,so+j,none⟩=some (.pointer (some ⟨sp,0,none⟩)):=(HI.out.2.2.cell (p:=⟨sb,so+j,none⟩) I8).trans BA;have EO:Rep (fun i=>F i/\i<w.heap.size) w (k_ s) (.pointer (some ⟨sp,0,none⟩)):=(Rep.keep fun i x h hx=>⟨⟨h,zZ hx⟩,hx⟩).1 _ _ Ci;have CC:=n7 (IH.out (fun i=>F i/\i<w.heap.size) s n k (.pointer (some ⟨sp,0,none⟩)) wr.drew (by have:=HQ.out.1;omega) (by have:=HQ.out.2.1;omega) (dM ss HQ.out.2.2.2.1 j s hs) hn hk (Rep.below HI.out.2.2 (fun _ h=>h) EO).drew);have HK:=n7 (vU hs n k);have SY:Hid (∀ w',But (fun i=>(Ox ga j gc).ownBlock=some i) wr w'->w'.cell? ⟨P,2,none⟩=some (.slice ga j gc)/\True):=by
       show ∀ w',_->_;intro w' rS;exact ⟨(rS.cell (n_ wr _ y2) HI.out.1.not).trans y2,trivial⟩
      have i2:j+1<=maxLen:=by unfold maxLen;omega
      have tC:(j+1)*8<=140737488355328:=by omega
      clear Ci EO hs BA;go_wp2_with fail
      refine wp_region_noPanic ?_;refine zB (fun w'=>But (fun i=>(Ox ga j gc).ownBlock=some i) wr w') (fun i=>i == 13) (by kernel_rfl) ?_;have rU:(fun w'=>But (fun i=>(Ox ga j gc).ownBlock=some i) wr w') wr.drew:=(But.refl _ wr).drew;refine tk [0,1,2,3,4,5,6,7] rU ?_;(intro d hd;simp [tkD] at hd;subst hd;simp only [tks,pQ,pZ,pS]);iterate 8 (refine ⟨?_,?_,?_⟩;rotate_left;· (intro oi ho;simp at ho;subst ho;refine OO ⟨by rfl,fun w' rB=>?_⟩;obtain ⟨e2,_⟩:=SY.out w' rB;go_simp;try with_reducible rfl))
      (refine on 8 ?_;intro o ho K' hK;simp at ho;subst ho;go_simp);go_at_call 82
      (with_reducible refine CC.out.mono ?_);rintro Dh w6 ⟨vb,rfl,rC,tB⟩
      have tD:Below wr.heap.size wr w6:=(Below.drew (rZ _ _)).trans rC;have sX:Hid (But (fun i=>(Ox ga j gc).ownBlock=some i) wr w6):=But.ofBelow tD;have sH:=HI.out.1.own6 tD (.cells #[.pointer (some ⟨vb,0,none⟩)] 33);have H6:=n7 (n8 tD tB);clear rC tB tD;(refine hK.out _ _ (fun _=>sX.out) ?_;clear hK K';try simp only [pQ,pN,pZ,pS]);(refine on 9 ?_;intro o ho K' hK;simp at ho;subst ho;go_simp);(refine hK.out _ _ (fun _=>sX.out.alloc _) ?_;clear hK K';try simp only [pQ,pN,pZ,pS]);(refine on 10 ?_;intro o ho K' hK;simp at ho;subst ho);refine zI (by rfl) _ _ _ (by rfl) 33 (.pointer none) 1 8 PV Tryz.infoB rfl (by decide) (.slice ga j gc) j us (by rfl) sH _ 1 [.pointer (some ⟨vb,0,none⟩)] (by rfl) (zu.lit1 #[.pointer (some ⟨vb,0,none⟩)] rfl (by simp [OR]) _ (by rfl)) i2 tC ?_;intro a' c' w7 r_ rP rL;(refine hK.out _ _ (fun _=>(sX.out.alloc _).trans rP) ?_;clear hK K';try simp only [pQ,pN,pZ,pS]);have sn:=HI.out.1.cell7 H6.out.1 rP;have aM:w7.cell? ⟨P,2,none⟩=some (.slice ga j gc)/\w7.frozen? ⟨P,2,none⟩=false:=by rw [wF] at sn;exact ⟨by simp [Li,sn],by simp [OC,sn]⟩
      obtain ⟨A8,iR⟩:=aM;have Be:=n7 sn;clear sn;(refine on 11 ?_;intro o ho K' hK;simp at ho;subst ho;go_simp);(refine hK.out _ _ (fun _=>(sX.out.alloc _).trans rP) ?_;clear hK K';try simp only [pQ,pN,pZ,pS]);(refine on 12 ?_;intro o ho K' hK;simp at ho;subst ho;go_simp);(refine hK.out _ _ (fun _=>(sX.out.alloc _).trans rP) ?_;clear hK K';try simp only [pQ,pN,pZ,pS]);(refine on 13 ?_;intro o ho K' hK;simp at ho;subst ho;go_simp);(refine hK.out _ _ (fun h=>by simp at h) ?_;clear hK K';try simp only [pQ,pN,pZ,pS]);refine zX (by kernel_rfl) (Oy ?_) _;have hX:=HI.out.1.next (fun i h=>rQ h.2 Hd) (w8:=w7.setCell ⟨P,2,none⟩ (.slice a' (j+1) c')) H6.out.1 (zW.one H6.out.2) r_ rP rL (by rw [zg Be.out];rfl) (uM _ _ _ _);have aD:jU (za (ss.take j) n k)++[k_ (kW s n k)]=jU (za (ss.take (j+1)) n k):=by rw [HK.out,pL]
      rw [aD] at hX;have HN:=n7 hX;clear hX aD r_ rP rL rU sH A8 iR;go_wp2_with fail
      go_roundw
      case rel=>exact ⟨j+1,_,_,by omega,by go_num,HN.out⟩
      case measure=>simp [intOf];omega
     ·obtain rfl:j=ss.length:=by omega
      clear y2;go_wp2_with fail
      go_ret;refine ⟨P,rfl,HI.out.2.2,?_⟩;have tN:=HI.out.1.sl;rw [OT] at tN;have Dt:Below P v1 wr:=HW.out.2.1.trans HI.out.1.below;rw [<- hP] at Dt;have hL:(za ss n k).length=ss.length:=by rw [u_];simp
      rw [kW,if_pos hv];refine ask_new (.inr Hd) HI.out.2.1 ?_ (Rep.below Dt (fun _ h=>h) Og.out) (Rep.below Dt (fun _ h=>h) Ip.out);rw [hL];exact tN.weak fun i h=>by rcases h with h | h;exact .inl h.1;exact .inr (by omega)
   ·have hvI:¬ (n:Int)<=(v:Int):=by omega
    go_upto_region 6 with (fail)
    obtain ⟨W,hW⟩:=zzN (V);rw [hW];have Nz:W.heap[P]? = some (wF (v) (.pointer (some ⟨p0,0,none⟩)) (.pointer (some ⟨p1,0,none⟩)) (.slice none 0 0)):=by
     rw [<- hW];exact HP.out.1
    have I1:Below P v1 W:=by rw [<- hW];exact HP.out.2
    have I0:Below w.heap.size w W:=sZ.out.trans (I1.mono Hd);have q2:=(I0.cell (p:=⟨a0,2,none⟩) B8).trans r2;have HW:=n7 (n8 Nz (n8 I1 I0));clear hW Nz I1 I0 z0 z1 z2 z3 z4 Dk r2;go_wp2_with fail
    go_loopw [53] (fun i wr=>∃ (j:Nat) (sv:Value) (us:List Value),j<=ss.length/\i=.int .i64 j/\je (fun i=>F i/\i<w.heap.size) W P (wF (v) (.pointer (some ⟨p0,0,none⟩)) (.pointer (some ⟨p1,0,none⟩))) 33 1 j (jU (za (ss.take j) n k)) sv us wr) (fun i _=>ss.length-(intOf i).toNat)
    case atStart=>exact ⟨0,_,_,OS _,rfl,by simpa [za,jU] using je.start HW.out.1⟩
    case round =>
     rename_i wr;obtain ⟨j,sv,us,hj,rfl,rD⟩:=hrel;obtain ⟨ga,gc,e⟩:=rD.slice;subst e;have rV:wr.heap[P]? = some (.cells #[str [],.int .i64 ((v:Nat):Int),.slice ga j gc,.pointer (some ⟨p0,0,none⟩),.pointer (some ⟨p1,0,none⟩)] 68 (0,0)):=rD.blk;have sJ:Below w.heap.size w wr:=HW.out.2.2.trans (rD.below.mono Hd);obtain ⟨y0,y1,y2,y3,y4,yf⟩:=pz rV;have HI:=n7 (n8 rD (n8 rV sJ));clear rD rV sJ;clear y0 y1 y3 y4 yf q2;by_cases rH:j<ss.length
     ·have sS:(j:Int)<(ss.length:Int):=by omega
      obtain ⟨sb,so,su,sd,e,_,I8,oK,BA,Ci⟩:=HS.out j rH;subst e;rw [xE,OA] at oK;obtain ⟨s,hs,rfl⟩:=oK;obtain ⟨sp,rfl⟩:=zd Ci;have Gm:=vz (OI hs);have q3:wr.cell? ⟨sb,so+j,none⟩=some (.pointer (some ⟨sp,0,none⟩)):=(HI.out.2.2.cell (p:=⟨sb,so+j,none⟩) I8).trans BA;have EO:Rep (fun i=>F i/\i<w.heap.size) w (k_ s) (.pointer (some ⟨sp,0,none⟩)):=(Rep.keep fun i x h hx=>⟨⟨h,zZ hx⟩,hx⟩).1 _ _ Ci;have CC:=n7 (IH.out (fun i=>F i/\i<w.heap.size) s n k (.pointer (some ⟨sp,0,none⟩)) wr.drew (by have:=HQ.out.1;omega) (by have:=HQ.out.2.1;omega) (dM ss HQ.out.2.2.2.1 j s hs) hn hk (Rep.below HI.out.2.2 (fun _ h=>h) EO).drew);have HK:=n7 (vU hs n k);have SY:Hid (∀ w',But (fun i=>(Ox ga j gc).ownBlock=some i) wr w'->w'.cell? ⟨P,2,none⟩=some (.slice ga j gc)/\True):=by
       show ∀ w',_->_;intro w' rS;exact ⟨(rS.cell (n_ wr _ y2) HI.out.1.not).trans y2,trivial⟩
      have i2:j+1<=maxLen:=by unfold maxLen;omega
      have tC:(j+1)*8<=140737488355328:=by omega
      clear Ci EO hs BA;go_wp2_with fail
      refine wp_region_noPanic ?_;refine zB (fun w'=>But (fun i=>(Ox ga j gc).ownBlock=some i) wr w') (fun i=>i == 13) (by kernel_rfl) ?_;have rU:(fun w'=>But (fun i=>(Ox ga j gc).ownBlock=some i) wr w') wr.drew:=(But.refl _ wr).drew;refine tk [0,1,2,3,4,5,6,7] rU ?_;(intro d hd;simp [tkD] at hd;subst hd;simp only [tks,pQ,pZ,pS]);iterate 8 (refine ⟨?_,?_,?_⟩;rotate_left;· (intro oi ho;simp at ho;subst ho;refine OO ⟨by rfl,fun w' rB=>?_⟩;obtain ⟨e2,_⟩:=SY.out w' rB;go_simp;try with_reducible rfl))
      (refine on 8 ?_;intro o ho K' hK;simp at ho;subst ho;go_simp);go_at_call 82
      (with_reducible refine CC.out.mono ?_);rintro Dh w6 ⟨vb,rfl,rC,tB⟩
      have tD:Below wr.heap.size wr w6:=(Below.drew (rZ _ _)).trans rC;have sX:Hid (But (fun i=>(Ox ga j gc).ownBlock=some i) wr w6):=But.ofBelow tD;have sH:=HI.out.1.own6 tD (.cells #[.pointer (some ⟨vb,0,none⟩)] 33);have H6:=n7 (n8 tD tB);clear rC tB tD;(refine hK.out _ _ (fun _=>sX.out) ?_;clear hK K';try simp only [pQ,pN,pZ,pS]);(refine on 9 ?_;intro o ho K' hK;simp at ho;subst ho;go_simp);(refine hK.out _ _ (fun _=>sX.out.alloc _) ?_;clear hK K';try simp only [pQ,pN,pZ,pS]);(refine on 10 ?_;intro o ho K' hK;simp at ho;subst ho);refine zI (by rfl) _ _ _ (by rfl) 33 (.pointer none) 1 8 PV Tryz.infoB rfl (by decide) (.slice ga j gc) j us (by rfl) sH _ 1 [.pointer (some ⟨vb,0,none⟩)] (by rfl) (zu.lit1 #[.pointer (some ⟨vb,0,none⟩)] rfl (by simp [OR]) _ (by rfl)) i2 tC ?_;intro a' c' w7 r_ rP rL;(refine hK.out _ _ (fun _=>(sX.out.alloc _).trans rP) ?_;clear hK K';try simp only [pQ,pN,pZ,pS]);have sn:=HI.out.1.cell7 H6.out.1 rP;have aM:w7.cell? ⟨P,2,none⟩=some (.slice ga j gc)/\w7.frozen? ⟨P,2,none⟩=false:=by rw [wF] at sn;exact ⟨by simp [Li,sn],by simp [OC,sn]⟩
      obtain ⟨A8,iR⟩:=aM;have Be:=n7 sn;clear sn;(refine on 11 ?_;intro o ho K' hK;simp at ho;subst ho;go_simp);(refine hK.out _ _ (fun _=>(sX.out.alloc _).trans rP) ?_;clear hK K';try simp only [pQ,pN,pZ,pS]);(refine on 12 ?_;intro o ho K' hK;simp at ho;subst ho;go_simp);(refine hK.out _ _ (fun _=>(sX.out.alloc _).trans rP) ?_;clear hK K';try simp only [pQ,pN,pZ,pS]);(refine on 13 ?_;intro o ho K' hK;simp at ho;subst ho;go_simp);(refine hK.out _ _ (fun h=>by simp at h) ?_;clear hK K';try simp only [pQ,pN,pZ,pS]);refine zX (by kernel_rfl) (Oy ?_) _;have hX:=HI.out.1.next (fun i h=>rQ h.2 Hd) (w8:=w7.setCell ⟨P,2,none⟩ (.slice a' (j+1) c')) H6.out.1 (zW.one H6.out.2) r_ rP rL (by rw [zg Be.out];rfl) (uM _ _ _ _);have aD:jU (za (ss.take j) n k)++[k_ (kW s n k)]=jU (za (ss.take (j+1)) n k):=by rw [HK.out,pL]
      rw [aD] at hX;have HN:=n7 hX;clear hX aD r_ rP rL rU sH A8 iR;go_wp2_with fail
      go_roundw
      case rel=>exact ⟨j+1,_,_,by omega,by go_num,HN.out⟩
      case measure=>simp [intOf];omega
     ·obtain rfl:j=ss.length:=by omega
      clear y2;go_wp2_with fail
      go_ret;refine ⟨P,rfl,HI.out.2.2,?_⟩;have tN:=HI.out.1.sl;rw [OT] at tN;have Dt:Below P v1 wr:=HW.out.2.1.trans HI.out.1.below;rw [<- hP] at Dt;have hL:(za ss n k).length=ss.length:=by rw [u_];simp
      rw [kW,if_neg hv];refine ask_new (.inr Hd) HI.out.2.1 ?_ (Rep.below Dt (fun _ h=>h) Og.out) (Rep.below Dt (fun _ h=>h) Ip.out);rw [hL];exact tN.weak fun i h=>by rcases h with h | h;exact .inl h.1;exact .inr (by omega)
theorem raised_any (N:Nat):RaSaid N:=by
 induction N with
 | zero=>exact fun F b n k bv w h=>by have:=ze b;omega
 | succ N ih=>exact ra_step N ih
def zo (ns:List Nm):Tm->Ty×Bool
 | .nm x=>match (jI ns x).bind fun i=>ns[i]?.map Prod.snd with
   | some k=>(k,true)
   | none=>(.mk [],false)
 | .wd _=>(.mk [],true)
 | .lam x k t=>(z9 k (zo (ns++[(x,k)]) t).1,(zo (ns++[(x,k)]) t).2 && decide (zJ (z9 k (zo (ns++[(x,k)]) t).1)<=15))
 | .app m n=>if (zo ns m).2=false\/(zo ns n).2=false then ((zo ns m).1,false) else match (zo ns m).1.args with
   | []=>((zo ns m).1,false)
   | c::cs=>if zL c=zL (zo ns n).1 then (.mk cs,true) else ((zo ns m).1,false)
 | .ite l m n=>((zo ns m).1,(zo ns l).2 && (zo ns m).2 && (zo ns n).2 && decide ((zo ns l).1.args=[]) && decide (zL (zo ns m).1=zL (zo ns n).1))
theorem yH:∀ (t:Tm) (ns:List Nm),z8 t=true->typeOf ns t=if (zo ns t).2=true then some (zo ns t).1 else none
 | .nm x,ns,_=>by
   rw [typeOf,zo];cases (jI ns x).bind fun i=>ns[i]?.map Prod.snd <;> rfl
 | .wd w,ns,_=>by rw [typeOf,zo];rfl
 | .lam x k t,ns,h=>by
   rw [z8,OP,decide_eq_true_eq] at h;rw [typeOf,if_neg (by omega),yH t _ h.2,zo];cases (zo (ns++[(x,k)]) t).2 with
   | false=>rfl
   | true =>
     simp only [if_true,Lx,RB,decide_eq_true_eq];by_cases rR:zJ (z9 k (zo (ns++[(x,k)]) t).1)<=15
     ·rw [if_neg (by omega),if_pos rR]
     ·rw [if_pos (by omega),if_neg rR]
 | .app m n,ns,h=>by
   rw [z8,OP] at h;rw [typeOf,yH m ns h.1,yH n ns h.2,zo];cases hm:(zo ns m).2 with
   | false=>simp
   | true =>
     cases hn:(zo ns n).2 with
     | false=>simp
     | true =>
       simp only [if_true,Lx,Bool.true_eq_false,or_self,if_false];cases ha:(zo ns m).1.args with
       | nil=>rfl
       | cons c cs =>
         simp only;by_cases he:zL c=zL (zo ns n).1
         ·rw [if_pos he,if_pos he];rfl
         ·rw [if_neg he,if_neg he];rfl
 | .ite l m n,ns,h=>by
   rw [z8,OP,OP] at h;rw [typeOf,yH l ns h.1.1,yH m ns h.1.2,yH n ns h.2,zo];cases hl:(zo ns l).2 with
   | false=>simp
   | true =>
     cases hm:(zo ns m).2 with
     | false=>simp
     | true =>
       cases hn:(zo ns n).2 with
       | false=>simp
       | true =>
         simp only [if_true,Lx,RB,OP,decide_eq_true_eq]
theorem yg {t:Tm} {ns:List Nm} (hs:z8 t=true) (h:(zo ns t).2=true):typeOf ns t=some (zo ns t).1:=by
 rw [yH t ns hs,if_pos h]
theorem kindR_of {t:Tm} {ns:List Nm} {k:Ty} (h:typeOf ns t=some k):zo ns t=(k,true):=by
 have hs:=xJ t ns k h;rw [yH t ns hs] at h;split at h
 ·rename_i hq;exact Prod.ext (OM h) hq
 ·simp at h
theorem bI:∀ (t:Tm) (ns:List Nm),(∀ a∈kinds ns,a.args.length<=15)->z8 t=true->(zo ns t).1.args.length<=15+zS t
 | .nm x,ns,hn,_=>by
   rw [zo];cases hq:(jI ns x).bind fun i=>ns[i]?.map Prod.snd with
   | none=>simp [Ty.args]
   | some k =>
     rw [N0] at hq;obtain ⟨i,_,h2⟩:=hq;rw [OA] at h2;obtain ⟨⟨y,a⟩,h3,rfl⟩:=h2;have:=hn a (OI (uj h3));simp only;omega
 | .wd w,ns,_,_=>by rw [zo];simp [Ty.args]
 | .lam x k t,ns,hn,h=>by
   rw [z8,OP,decide_eq_true_eq] at h;have:=bI t (ns++[(x,k)]) (fun a ha=>by
    rw [jq] at ha;rcases O_.1 ha with ha | ha
    ·exact hn a ha
    ·simp at ha;subst ha;have:=qN a.args;have:=qx a;omega) h.2
   have e:(z9 k (zo (ns++[(x,k)]) t).1).args.length=(zo (ns++[(x,k)]) t).1.args.length+1:=rfl;rw [zo,zS];simp only;rw [e];omega
 | .app m n,ns,hn,h=>by
   rw [z8,OP] at h;have h1:=bI m ns hn h.1;rw [zo,zS];split
   ·simp only;omega
   ·cases ha:(zo ns m).1.args with
    | nil=>simp only [ha];simp
    | cons c cs =>
      rw [ha] at h1;simp only [OD] at h1;simp only;split
      ·simp only [Ty.args];omega
      ·rw [ha];simp only [OD];omega
 | .ite l m n,ns,hn,h=>by
   rw [z8,OP,OP] at h;have h1:=bI m ns hn h.1.2;rw [zo,zS];simp only;omega
mutual
theorem xY:∀ (b:Bd) (n k:Nat),zU (kW b n k)=zU b
 | .leaf c,n,k=>by rw [kW]
 | .ask v ss y no,n,k=>by rw [kW,zU,zU,dY ss n k,xY y n k,xY no n k]
theorem dY:∀ (bs:List Bd) (n k:Nat),zE (za bs n k)=zE bs
 | [],n,k=>by rw [za]
 | b::bs,n,k=>by rw [za,zE,zE,xY b n k,dY bs n k]
end
theorem wY:∀ (b y n:Bd),zU (qV b y n)<=zU b*(zU y+zU n)
 | .leaf c,y,n=>by
   have hy:=ze y;have hn:=ze n;have e:zU (.leaf c)=1:=by rw [zU]
   rw [e,Nat.one_mul,qV];split
   ·omega
   ·split
    ·omega
    ·rw [e];omega
 | .ask v ss a c,y,n=>by
   have hy:=ze y;have h1:=wY a y n;have h2:=wY c y n;rw [qV,zU,zU];have h3:1+zE ss<=(1+zE ss)*(zU y+zU n):=Nat.le_mul_of_pos_right _ (by omega);have e:(1+(zE ss+(zU a+zU c)))*(zU y+zU n)=(1+zE ss)*(zU y+zU n)+zU a*(zU y+zU n)+zU c*(zU y+zU n):=by rw [<- Q8,<- Q8];congr 1;omega
   omega
theorem dU {b:Bd} (h:zU b<=200):uL b=some b:=by unfold uL;rw [if_pos h]
theorem become_small {b:Bd} {env:List Mn} {n:Nat} {c:Bd} (h:j_ b env n=some c):zU c<=200:=by
 unfold j_ at h;cases hv:ev 20000 20000 b env n [] with
 | none=>rw [hv] at h;simp at h
 | some x =>
   obtain ⟨o,l⟩:=x;rw [hv] at h;simp only at h;split at h
   ·rename_i hs;obtain rfl:=OM h;exact hs.1
   ·simp at h
theorem vX:∀ (t:Tm) (ns:List Nm) (b:Bd),zT ns t=some b->zU b<=200
 | .nm x,ns,b,h=>by
   rw [zT,N0] at h;obtain ⟨i,_,h⟩:=h;rw [N0] at h;obtain ⟨p,_,h⟩:=h;obtain ⟨rfl,hs⟩:=pG h;exact hs
 | .wd w,ns,b,h=>by
   rw [zT] at h;obtain rfl:=OM h;simp [zU]
 | .lam x k t,ns,b,h=>by rw [zT] at h;exact vX t _ b h
 | .app m n,ns,b,h=>by
   rw [zT,N0] at h;obtain ⟨p,_,h⟩:=h;rw [N0] at h;obtain ⟨q,_,h⟩:=h;rw [N0] at h;obtain ⟨t,_,h⟩:=h;split at h
   ·simp at h
   ·exact become_small h
 | .ite l m n,ns,b,h=>by
   rw [zT,N0] at h;obtain ⟨p,_,h⟩:=h;rw [N0] at h;obtain ⟨q,_,h⟩:=h;rw [N0] at h;obtain ⟨r,_,h⟩:=h;rw [N0] at h;obtain ⟨t,_,h⟩:=h;obtain ⟨rfl,hs⟩:=pG h;exact hs
def kg (ns:List Nm):Tm->Option Bd
 | .nm x=>(jI ns x).bind fun i=>ns[i]?.map fun p=>eta p.2 i ns.length
 | .wd w=>some (.leaf (w.headD 0))
 | .lam x k t=>zT (ns++[(x,k)]) t
 | .app m n=>zT ns (.app m n)
 | .ite l m n=>(zT ns l).bind fun a=>(zT ns m).bind fun b=>(zT ns n).bind fun c=>(typeOf ns m).bind fun t=>some (qV (kW a ns.length t.args.length) b c)
theorem ch {o:Option Bd} (h:∀ b,o=some b->zU b<=200):o.bind uL=o:=by
 cases o with
 | none=>rfl
 | some b=>rw [Lx,dU (h b rfl)]
theorem mean_meant (t:Tm) (ns:List Nm):zT ns t=(kg ns t).bind uL:=by
 cases t with
 | nm x =>
   rw [zT,kg];cases jI ns x with
   | none=>rfl
   | some i =>
     rw [Lx,Lx];cases ns[i]? <;> rfl
 | wd w=>rw [zT,kg,ch (fun b h=>by obtain rfl:=OM h;simp [zU])]
 | lam x k t=>rw [kg,ch (fun b h=>vX _ _ b h),zT]
 | app m n=>rw [kg,ch (fun b h=>vX _ _ b h)]
 | ite l m n =>
   rw [zT,kg];cases zT ns l with
   | none=>rfl
   | some a =>
     cases zT ns m with
     | none=>rfl
     | some b =>
       cases zT ns n with
       | none=>rfl
       | some c =>
         cases typeOf ns m <;> rfl
theorem meant_size (t:Tm) (ns:List Nm) (b:Bd) (hn:∀ a∈kinds ns,zJ a<=15) (h:kg ns t=some b):zU b<=100000:=by
 cases t with
 | nm x =>
   rw [kg,N0] at h;obtain ⟨i,_,h⟩:=h;rw [OA] at h;obtain ⟨⟨y,k⟩,hp,rfl⟩:=h;have:=(du k i ns.length).1;have:=hn k (OI (uj hp));simp only;omega
 | wd w=>rw [kg] at h;obtain rfl:=OM h;simp [zU]
 | lam x k t=>rw [kg] at h;have:=vX _ _ b h;omega
 | app m n=>rw [kg] at h;have:=vX _ _ b h;omega
 | ite l m n =>
   rw [kg,N0] at h;obtain ⟨p,hp,h⟩:=h;rw [N0] at h;obtain ⟨q,hq,h⟩:=h;rw [N0] at h;obtain ⟨r,hr,h⟩:=h;rw [N0] at h;obtain ⟨t,_,h⟩:=h;obtain rfl:=OM h;have h1:=vX _ _ _ hp;have h2:=vX _ _ _ hq;have h3:=vX _ _ _ hr;have h4:=wY (kW p ns.length t.args.length) q r;rw [xY] at h4;have h5:zU p*(zU q+zU r)<=200*400:=Nat.mul_le_mul h1 (by omega);omega
theorem small_fits {b:Bd}:decide (zU b<=200/\kr b<=100)=decide (zU b<=200):=by
 by_cases h:zU b<=200
 ·rw [decide_eq_true ⟨h,dd h⟩,decide_eq_true h]
 ·rw [decide_eq_false (fun hx=>h hx.1),decide_eq_false h]
structure nf (F:Nat->Prop) (t:Tm) (ns:List Nm) (k:Ty) (tv lv:Value) (w:World):Prop where
 glob:xR w
 rt:Rep F w (jO t) tv
 rl:Rep F w (.sl 99 2 ns.length (jt ns)) lv
 ok:xG t
 n15:∀ a∈kinds ns,zJ a<=15
 room:ns.length+zS t<=100
 ty:typeOf ns t=some k
def xh (N:Nat):Prop:=∀ (F:Nat->Prop) (t:Tm) (ns:List Nm) (k:Ty) (tv lv:Value) (w:World),zS t<=N->nf F t ns k tv lv w->Calls No 26 #[tv,lv] w (qz F w (zT ns t))
def fH (N:Nat):Prop:=∀ (F:Nat->Prop) (t:Tm) (ns:List Nm) (k:Ty) (tv lv:Value) (w:World),zS t<=N->nf F t ns k tv lv w->Calls No 57 #[tv,lv] w (qz F w (kg ns t))
theorem qz.no {F:Nat->Prop} {w w':World} {o:Option Bd} (ho:o=none) (hb:Below w.heap.size w w'):qz F w o (.returned (.pointer none)) w' :=
 ⟨_,rfl,hb,fun _=>rfl,fun k h=>by rw [ho] at h;simp at h⟩
theorem qz.yes {F:Nat->Prop} {w w':World} {o:Option Bd} {k:Bd} {v:Value} (ho:o=some k) (hb:Below w.heap.size w w') (hr:Rep (fun i=>F i\/w.heap.size<=i) w' (k_ k) v):qz F w o (.returned v) w' :=
 ⟨_,rfl,hb,fun h=>by rw [ho] at h;simp at h,fun k' h=>by rw [ho] at h;obtain rfl:=OM h;exact hr⟩
theorem mm (N:Nat) (ih:fH N):xh N:=by
 intro F t ns k tv lv w hN hp;have C0:=n7 (ih F t ns k tv lv w hN hp);have HM:=n7 (mean_meant t ns);have HP:=n7 hp.n15;obtain ⟨tb,rfl⟩:=qF hp.rt;obtain ⟨la,lc,rfl,_,_⟩:=AtNms.of hp.rl;clear hp ih;go_enter Tryz.func26,Tryz.ntmps26;go_wp2_with fail
 (with_reducible refine C0.out.mono ?_);rintro en w1 ⟨v,rfl,rW,sU,sY⟩
 cases hq:kg ns t with
 | none =>
   obtain rfl:=sU hq;have HQ:=n7 (show zT ns t=none by rw [HM.out,hq];rfl);have HB:=n7 rW;clear hq sU sY rW;go_wp2_with fail
   go_ret;exact qz.no HQ.out HB.out
 | some b =>
   have tH:=sY b hq;obtain ⟨bb,rfl⟩:=zd tH;have hsz:=meant_size t ns b HP.out hq;have CF:=n7 (fits2_any _ w1 b _ tH hsz);have HR:=n7 tH;have HB:=n7 rW;have HQ:=n7 (show zT ns t=uL b by rw [HM.out,hq];rfl);clear hq sU sY rW tH hsz;rw [small_fits] at CF;by_cases h2:zU b<=200
   ·have HE:=n7 (show zT ns t=some b by rw [HQ.out,dU h2]);rw [decide_eq_true h2] at CF;clear h2;go_wp2_with fail
    (with_reducible refine CF.out.mono ?_);rintro en w2 ⟨rfl,rY⟩
    have rh:=n7 (zzT HB.out rY);have oh:=n7 (Rep.below (F':=fun i=>F i\/w.heap.size<=i) rY (fun _ h=>h) HR.out);clear rY;go_wp2_with fail
    go_ret;exact qz.yes HE.out rh.out oh.out
   ·have HE:=n7 (show zT ns t=none by rw [HQ.out];unfold uL;rw [if_neg h2]);rw [decide_eq_false h2] at CF;clear h2;go_wp2_with fail
    (with_reducible refine CF.out.mono ?_);rintro en w2 ⟨rfl,rY⟩
    have rh:=n7 (zzT HB.out rY);clear rY;go_wp2_with fail
    go_ret;exact qz.no HE.out rh.out
theorem meant_nm (F:Nat->Prop) (x:Bs) (ns:List Nm) (k:Ty) (tv lv:Value) (w:World) (hp:nf F (.nm x) ns k tv lv w):Calls No 57 #[tv,lv] w (qz F w (kg ns (.nm x))):=by
 obtain ⟨tb,kv,slv,rfl,_,rV,_,_,_⟩:=js hp.rt;simp only [xd,xf] at rV;have t0:w.cell? ⟨tb,0,none⟩=some (str []):=by simp [Li,rV]
 have t1:w.cell? ⟨tb,1,none⟩=some (str x):=by simp [Li,rV]
 have hn:ns.length<=100:=by have:=hp.room;omega
 have CF:=find_any F ns x lv w (by omega) hp.rl;obtain ⟨la,lc,rfl,Kx,rX⟩:=AtNms.of hp.rl;have lF:=hp.ty;rw [typeOf,N0] at lF;obtain ⟨i,hi,hik⟩:=lF;rw [OA] at hik;obtain ⟨⟨y0,k0⟩,DB,_⟩:=hik;have rH:i<ns.length:=(OB.1 DB).1;obtain ⟨b,o,y,t,kb,e,hb,Ep,h1,h2,sT⟩:=rX i rH;subst e;have rR:=hp.n15 t (OI (uj Ep));have HT:=n7 (show kg ns (.nm x)=some (eta t i ns.length) by rw [kg,hi,Lx,Ep];rfl);have CC:=n7 (copyOf_any 15 t rR rR F _ i ns.length w sT (by omega) (by omega));rw [hi] at CF;simp only [f7] at CF;have CF':=n7 CF;have hiI:(i:Int)<(ns.length:Int):=by omega
 clear hp rX rV hi CF Kx DB Ep h1 sT hb;go_enter QB,Qr;go_wp2_with fail
 (with_reducible refine CF'.out.mono ?_);rintro en w1 ⟨rfl,e⟩
 subst w1;go_wp2_with fail
 (with_reducible refine CC.out.mono ?_);rintro en w1 ⟨p,rfl,rW,tX⟩
 have HB:=n7 (n8 rW tX);clear rW tX;go_wp2_with fail
 go_ret;exact qz.yes HT.out HB.out.1 (HB.out.2.weak fun _ h=>.inr h)
theorem meant_wd (F:Nat->Prop) (u:Bs) (ns:List Nm) (k:Ty) (tv lv:Value) (w:World) (hp:nf F (.wd u) ns k tv lv w):Calls No 57 #[tv,lv] w (qz F w (kg ns (.wd u))):=by
 obtain ⟨tb,kv,slv,rfl,_,rV,_,_,_⟩:=js hp.rt;simp only [xd,xf] at rV;have t0:w.cell? ⟨tb,0,none⟩=some (str u):=by simp [Li,rV]
 have rj:jP u=true:=hp.ok;simp only [jP,Bool.or_eq_true,beq_iff_eq] at rj;obtain ⟨la,lc,rfl,_,_⟩:=AtNms.of hp.rl;clear hp rV;rcases rj with (rfl | rfl) | rfl
 all_goals
  go_enter QB,Qr;go_wp2_with fail
  go_ret;exact qz.yes (by rw [kg];rfl) ((rZ _ _).alloc (n9 _) _) ((gI (zG _ _) (n9 _)).weak fun _ h=>.inr h)
theorem meant_lam (N:Nat) (ih:xh N) (F:Nat->Prop) (x:Bs) (k:Ty) (t:Tm) (ns:List Nm) (kt:Ty) (tv lv:Value) (w:World) (hN:zS (.lam x k t)<=N+1) (hp:nf F (.lam x k t) ns kt tv lv w):Calls No 57 #[tv,lv] w (qz F w (kg ns (.lam x k t))):=by
 obtain ⟨tb,kv,slv,rfl,_,rV,_,Bi,oQ⟩:=js hp.rt;have hk:=Bi k rfl;obtain ⟨kb,_,e,_⟩:=zc hk;subst e;obtain ⟨pa,pc,rfl,_,_,rX⟩:=zP oQ;simp only [xd,xf,jo] at rV;obtain ⟨iw,iu,Lc,Ld,EL,_,Ca,Bv,B1,oZ⟩:=rX 0 (by simp [kZ]);simp only [kZ,OU,Pz,OH,OE,Oz] at Bv;subst Bv;obtain ⟨Bt,e0⟩:=qF oZ;subst e0;subst EL;have t0:w.cell? ⟨tb,0,none⟩=some (str [108,97,109]):=by simp [Li,rV]
 have t1:w.cell? ⟨tb,1,none⟩=some (str x):=by simp [Li,rV]
 have t2:w.cell? ⟨tb,2,none⟩=some (.pointer (some ⟨kb,0,none⟩)):=by simp [Li,rV]
 have t3:w.cell? ⟨tb,3,none⟩=some (.slice (some ⟨iw,iu,none⟩) 1 pc):=by simp [Li,rV,kZ]
 have sK:=hp.room;have rj:=hp.ok;rw [zS] at sK hN;have hak:=ke k;have hlen:ns.length<=99:=by omega
 obtain ⟨rR,B2,Mw,_⟩:=cf hp.ty;obtain ⟨xs,Ao,sB⟩:∃ xs,zW F w (jt ns) xs/\∃ a c,lv=.slice a ns.length c/\uB 2 (.slice a ns.length ns.length) ns.length xs w:=by
  obtain ⟨a,c,e,_,_⟩:=AtNms.of hp.rl;have hr:=hp.rl;rw [e] at hr;obtain ⟨xs,h1,h2⟩:=uB.ofRep hr (oneNm ns);exact ⟨xs,h1,a,c,e,h2⟩
 obtain ⟨la,lc,rfl,sB⟩:=sB;have Kx:ns.length<=lc:=by obtain ⟨a,c,e,h,_⟩:=AtNms.of hp.rl;simp only [Value.slice.injEq] at e;obtain ⟨_,_,rfl⟩:=e;exact h
 have SX:Hid (∀ w',Below w.heap.size w w'->w'.cell? ⟨tb,1,none⟩=some (str x)/\w'.cell? ⟨tb,2,none⟩=some (.pointer (some ⟨kb,0,none⟩))/\w'.cell? ⟨tb,3,none⟩=some (.slice (some ⟨iw,iu,none⟩) 1 pc)/\w'.cell? ⟨iw,iu,none⟩=some (.pointer (some ⟨Bt,0,none⟩))):=by
  show ∀ w',_->_;intro w' rS;exact ⟨(rS.cell (n_ w _ t1)).trans t1,(rS.cell (n_ w _ t2)).trans t2,(rS.cell (n_ w _ t3)).trans t3,(rS.cell Ca).trans B1⟩
 have HX:=n7 (n8 Ao sB);have HP:=n7 (n8 hp (n8 hk (n8 oZ Mw)));have IH:=n7 ih;have HK:=n7 (n8 rR (n8 rj hN));have BU:ns.length+1<=maxLen:=by unfold maxLen;omega
 have tC:(ns.length+1)*24<=140737488355328:=by omega
 clear hp rX oQ hk Bi rV rR oZ Ao sB rj ih hN Mw;go_enter QB,Qr;go_wp2_with fail
 refine wp_region_noPanic ?_;refine zB (fun w'=>Below w.heap.size w w') (fun _=>false) (by kernel_rfl) ?_;have rU:(fun w'=>Below w.heap.size w w') w.drew:=Below.drew (rZ _ _);refine tk [0,1,2,3,4,5,6,7,8,9,10,11,12,13,14,15,16,17,18,19,20] rU ?_;(intro d hd;simp [tkD] at hd;subst hd;simp only [tks,pQ,pZ,pS]);iterate 21 (refine ⟨?_,?_,?_⟩;rotate_left;· (intro oi ho;simp at ho;subst ho;refine OO ⟨by rfl,fun w' rB=>?_⟩;obtain ⟨e0,e1,e2,e3⟩:=SX.out w' rB;go_simp;try with_reducible rfl))
 (refine on 21 ?_;intro o ho K' hK;simp at ho;subst ho;go_simp);(refine hK.out _ _ (fun _=>rU.alloc (n9 _) _) ?_;clear hK K';try simp only [pQ,pN,pZ,pS]);(refine on 22 ?_;intro o ho K' hK;simp at ho;subst ho);have Gq:zu 2 (.slice (some ⟨w.heap.size,0,none⟩) 1 1) 1 [str x,.pointer (some ⟨kb,0,none⟩)] (w.drew.alloc (.cells #[str x,.pointer (some ⟨kb,0,none⟩)] 99)):=zu.lit1 #[str x,.pointer (some ⟨kb,0,none⟩)] rfl (by simp [str,OR]) _ (by rfl)
 have iR:uB 2 (.slice la ns.length ns.length) ns.length xs (w.drew.alloc (.cells #[str x,.pointer (some ⟨kb,0,none⟩)] 99)):=HX.out.2.drew.alloc _;refine yO (by rfl) _ _ _ (by rfl) 99 (.agg #[str [],.pointer none]) 2 24 Tryz.underlying93 Tryz.infoBound rfl (.slice la ns.length ns.length) ns.length xs (by rfl) iR _ 1 _ (by rfl) Gq (by omega) BU tC ?_;intro c7 w7 r_ rP;have e8:(w.alloc (.cells #[str x,.pointer (some ⟨kb,0,none⟩)] 99)).drew.heap.size=w.heap.size+1:=by simp
 rw [e8] at r_;have tI:Below w.heap.size w w7:=(rU.alloc (n9 _) _).trans (rP.mono (rU.alloc (n9 _) _).size);(refine hK.out _ _ (fun _=>tI) ?_;clear hK K';try simp only [pQ,pN,pZ,pS]);(refine on 23 ?_;intro o ho K' hK;simp at ho;subst ho);have iq:Rep (fun i=>F i\/w.heap.size<=i) w7 (.sl 99 2 (ns++[(x,k)]).length (jt (ns++[(x,k)]))) (.slice (some ⟨w.heap.size+1,0,none⟩) (ns.length+1) c7):=by
  rw [Ov,cB];refine r_.rep (fun g hg=>.inr (by simp [OG] at hg;subst hg;exact Nat.le_succ _)) ?_;exact (zW.below tI (fun _ h=>.inl h) HX.out.1).append (zQ.2 ⟨_,_,rfl,zH.2 rfl,zQ.2 ⟨_,_,rfl,Rep.below tI (fun _ h=>.inl h) HP.out.2.1,zC.2 rfl⟩⟩)
 have CT:=n7 (IH.out (fun i=>F i\/w.heap.size<=i) t (ns++[(x,k)]) B2 (.pointer (some ⟨Bt,0,none⟩)) _ w7 (by have:=HK.out.2.2;omega) ⟨HP.out.1.glob.below tI,Rep.below tI (fun _ h=>.inl h) HP.out.2.2.1,iq,HK.out.2.1.2,(fun a ha=>by
  rw [jq] at ha;rcases O_.1 ha with ha | ha
  ·exact HP.out.1.n15 a ha
  ·simp at ha;subst ha;exact HK.out.1),by rw [Ov];simp;omega,HP.out.2.2.2⟩)
 have Ak:=n7 tI;clear iq r_ rP tI;go_simp;go_at_call 26;(with_reducible refine CT.out.mono ?_);rintro en w9 ⟨bv,rfl,sh,Cu,Cf⟩;have Ex:=n7 (zzT Ak.out sh);have HY:=n7 (n8 Cu Cf);have z7:=Ak.out.size;clear sh Cu Cf;(refine hK.out _ _ (fun _=>Ex.out) ?_;clear hK K';try simp only [pQ,pN,pZ,pS]);(refine on 24 ?_;intro o ho K' hK;simp at ho;subst ho;go_simp);(refine hK.out _ _ (fun _=>Ex.out) ?_;clear hK K';try simp only [pQ,pN,pZ,pS]);refine zX (by kernel_rfl) (Oy ?_) _;go_wp2_with fail
 go_ret;rw [kg];exact ⟨bv,rfl,Ex.out,HY.out.1,fun b h=>(HY.out.2 b h).weak fun i h=>by rcases h with h | h;exact h;exact .inr (by omega)⟩
theorem meant_app (N:Nat) (ih:xh N) (F:Nat->Prop) (m n:Tm) (ns:List Nm) (kt:Ty) (tv lv:Value) (w:World) (hN:zS (.app m n)<=N+1) (hp:nf F (.app m n) ns kt tv lv w):Calls No 57 #[tv,lv] w (qz F w (kg ns (.app m n))):=by
 obtain ⟨tb,kv,slv,rfl,_,rV,_,_,oQ⟩:=js hp.rt;obtain ⟨pa,pc,rfl,_,_,rX⟩:=zP oQ;simp only [xd,xf,vo] at rV;obtain ⟨iw,iu,Lc,Ld,EL,_,Ca,Bv,B1,oZ⟩:=rX 0 (by simp [kZ]);simp only [kZ,OU,Pz,OH,OE,Oz] at Bv;subst Bv;obtain ⟨Bt,e0⟩:=qF oZ;subst e0;subst EL;obtain ⟨rO,rI,pu1,AS,oP,_,tU,iv,iy,iW⟩:=rX 1 (by simp [kZ]);simp only [kZ,OU,Pz,OH,OE,Oz] at iv;subst iv;obtain ⟨ED,e1⟩:=qF iW;subst e1;simp only [Oz,Addr.mk.injEq,and_true] at oP;obtain ⟨rfl,rfl⟩:=oP;have t0:w.cell? ⟨tb,0,none⟩=some (str [97,112,112]):=by simp [Li,rV]
 have t3:w.cell? ⟨tb,3,none⟩=some (.slice (some ⟨iw,iu,none⟩) 2 pc):=by simp [Li,rV,kZ]
 have sK:=hp.room;have rj:=hp.ok;have lF:=hp.ty;have CT:=n7 (fun wz (hz:Below w.heap.size w wz)=>h_ (zS (.app m n)) F (.app m n) ns _ _ wz (n9 _) ⟨Rep.below hz (fun _ h=>h) hp.rt,Rep.below hz (fun _ h=>h) hp.rl,hp.ok,hp.n15,by omega⟩);rw [zS] at sK hN;obtain ⟨a,c,rest,Eu,oU,hts,rfl⟩:=ce lF;obtain ⟨la,lc,rfl,_,_⟩:=AtNms.of hp.rl;have SX:Hid (∀ w',Below w.heap.size w w'->w'.cell? ⟨tb,3,none⟩=some (.slice (some ⟨iw,iu,none⟩) 2 pc)/\w'.cell? ⟨iw,iu,none⟩=some (.pointer (some ⟨Bt,0,none⟩))/\w'.cell? ⟨iw,iu+1,none⟩=some (.pointer (some ⟨ED,0,none⟩))):=by
  show ∀ w',_->_;intro w' rS;exact ⟨(rS.cell (n_ w _ t3)).trans t3,(rS.cell Ca).trans B1,(rS.cell tU).trans iy⟩
 have C0:=n7 (fun wz (hz:Below w.heap.size w wz)=>ih F m ns _ (.pointer (some ⟨Bt,0,none⟩)) (.slice la ns.length lc) wz (by omega) ⟨hp.glob.below hz,Rep.below hz (fun _ h=>h) oZ,Rep.below hz (fun _ h=>h) hp.rl,rj.1,hp.n15,by omega,Eu⟩);have C1:=n7 (fun wz (hz:Below w.heap.size w wz)=>ih F n ns _ (.pointer (some ⟨ED,0,none⟩)) (.slice la ns.length lc) wz (by omega) ⟨hp.glob.below hz,Rep.below hz (fun _ h=>h) iW,Rep.below hz (fun _ h=>h) hp.rl,rj.2,hp.n15,by omega,oU⟩);have HP:=n7 (n8 hp rj);clear hp rX oQ rV rj hN ih oZ B1 Ca iW iy tU;go_enter QB,Qr;go_wp2_with fail
 refine wp_region_noPanic ?_;refine zB (fun w'=>Below w.heap.size w w') (fun _=>false) (by kernel_rfl) ?_;have rU:(fun w'=>Below w.heap.size w w') w.drew:=Below.drew (rZ _ _);refine tk [0,1,2,3,4,5,6,8,9,10,11,12,13,14] rU ?_;(intro d hd;simp [tkD] at hd;subst hd;simp only [tks,pQ,pZ,pS]);iterate 14 (refine ⟨?_,?_,?_⟩;rotate_left;· (intro oi ho;simp at ho;subst ho;refine OO ⟨by rfl,fun w' rB=>?_⟩;obtain ⟨e0,e1,e2⟩:=SX.out w' rB;go_simp;try with_reducible rfl))
 (refine on 7 ?_;intro o ho K' hK;simp at ho;subst ho;go_simp);go_at_call 26
 (with_reducible refine (C0.out _ rU).mono ?_);rintro en v0 ⟨x0,rfl,ru,lp,AW⟩
 have tw:Hid (Below w.heap.size w v0):=rU.trans ru;have FM:Hid ((zT ns m=none->x0=.pointer none)/\(∀ k,zT ns m=some k->Rep (fun i=>F i\/w.heap.size<=i) v0 (k_ k) x0)):=⟨lp,fun k h=>(AW k h).weak fun i h=>by rcases h with h | h;exact .inl h;exact .inr (h)⟩;have K6:=n7 ru;clear ru lp AW;(refine hK.out _ _ (fun _=>tw.out) ?_;clear hK K';try simp only [pQ,pN,pZ,pS]);have Ev:=tw.out;(refine on 15 ?_;intro o ho K' hK;simp at ho;subst ho;go_simp);go_at_call 26;(with_reducible refine (C1.out _ tw.out).mono ?_);rintro en v1 ⟨x1,rfl,rW,sU,sY⟩;have sZ:Hid (Below w.heap.size w v1):=zzT tw.out rW;have FL:Hid ((zT ns n=none->x1=.pointer none)/\(∀ k,zT ns n=some k->Rep (fun i=>F i\/w.heap.size<=i) v1 (k_ k) x1)):=⟨sU,fun k h=>(sY k h).weak fun i h=>by rcases h with h | h;exact .inl h;exact .inr (rJ tw.out.size h)⟩;have B_:=n7 rW;clear rW sU sY;(refine hK.out _ _ (fun _=>sZ.out) ?_;clear hK K';try simp only [pQ,pN,pZ,pS]);have FB:=sZ.out;refine tk [16,17] FB ?_;(intro d hd;simp [tkD] at hd;subst hd;simp only [tks,pQ,pZ,pS]);iterate 2 (refine ⟨?_,?_,?_⟩;rotate_left;· (intro oi ho;simp at ho;subst ho;refine OO ⟨by rfl,fun w' rB=>?_⟩;go_simp;try with_reducible rfl))
 refine zX (by kernel_rfl) (Oy ?_) _;clear t3 C0 C1;cases hm:zT ns m with
 | none =>
   obtain rfl:=FM.out.1 hm;have HQ:=n7 (show kg ns (.app m n)=none by rw [kg,zT,hm];rfl);clear hm;go_wp2_with fail
   go_ret;exact qz.no HQ.out sZ.out
 | some p =>
   have FY:=Rep.below (F':=fun i=>F i\/w.heap.size<=i) B_.out (fun _ h=>h) (FM.out.2 p hm);obtain ⟨pp,rfl⟩:=zd FY;cases hn:zT ns n with
   | none =>
     obtain rfl:=FL.out.1 hn;have HQ:=n7 (show kg ns (.app m n)=none by rw [kg,zT,hm,hn];rfl);clear hm hn FY;go_wp2_with fail
     go_ret;exact qz.no HQ.out sZ.out
   | some q =>
     have Dw:=FL.out.2 q hn;obtain ⟨qp,rfl⟩:=zd Dw;obtain ⟨f1,w1,s1⟩:=jf m ns a p HP.out.2.1 HP.out.1.n15 Eu hm;obtain ⟨f2,w2,s2⟩:=jf n ns c q HP.out.2.2 HP.out.1.n15 oU hn;rw [hts] at f1;have tR:=gb f2 f1;have tL:=qW m ns a HP.out.1.n15 Eu;have lV:=qW n ns c HP.out.1.n15 oU;have oM:∀ t∈rest,zJ t<=15:=fun t ht=>qw tL t (by rw [hts];simp [ht]);have Hr:rest.length<=100:=by have:=jH tL;rw [hts] at this;simp at this;omega
     have HT:=n7 (show kg ns (.app m n)=j_ p (zq (kinds ns) c q rest) ((kinds ns).length+rest.length) by
      rw [kg,zT,hm,hn,Lx,Lx,Eu,Lx,hts,qe])
     have CK:=n7 (kindsOf_any F ns _ v1 (by omega) (Rep.below sZ.out (fun _ h=>h) HP.out.1.rl));have HA:=n7 (n8 FY (n8 Dw (n8 tR (n8 lV oM))));have AG:ns.length<=100:=by omega
     clear hm hn FY Dw f1 f2 w1 w2 s1 s2 hts tR tL lV oM Eu oU;go_wp2_with fail
     (with_reducible refine CK.out.mono ?_);rintro en v2 ⟨ka,kc,rfl,rY,tx⟩
     have rh:=n7 (zzT sZ.out rY);have HK2:=n7 (n8 rY tx);have Br:=n7 (CT.out v2 rh.out);clear rY tx CK;go_wp2_with fail
     (with_reducible refine Br.out.mono ?_);rintro en v3 ⟨tv3,rfl,rE,Bg,An⟩
     have lw:=An _ lF;obtain ⟨rb,rk,rfl,_,tH,BB⟩:=zc lw;have BB:Rep (fun i=>F i\/v2.heap.size<=i) v3 (.sl 32 1 rest.length (qH rest)) rk:=BB;have q0:v3.cell? ⟨rb,0,none⟩=some rk:=by simp [Li,tH]
     obtain ⟨ra,rc,rfl,_,_,_⟩:=zP BB;have aZ:=n7 (zzT rh.out rE);have z1:=sZ.out.size;have z2:=rh.out.size;have CA:Hid (Calls No 80 #[.pointer (some ⟨pp,0,none⟩),.pointer (some ⟨qp,0,none⟩),.slice ka ns.length kc,.slice ra rest.length rc] v3 (qz (fun i=>F i\/w.heap.size<=i) v3 (j_ p (zq (kinds ns) c q rest) ((kinds ns).length+rest.length)))):=by
      have BM:=zzT HK2.out.1 rE;have e:ns.length=(kinds ns).length:=(qe ns).symm;have L0:Rep (fun i=>F i\/w.heap.size<=i) v3 (.sl 32 1 ns.length (qH (kinds ns))) (.slice ka ns.length kc):=(Rep.below rE (fun _ h=>h) HK2.out.2).weak fun i h=>by rcases h with h | h;exact .inl h;exact .inr (by omega)
      have hrr3:Rep (fun i=>F i\/w.heap.size<=i) v3 (.sl 32 1 rest.length (qH rest)) (.slice ra rest.length rc):=BB.weak fun i h=>by rcases h with h | h;exact .inl h;exact .inr (by omega)
      rw [e] at L0 ⊢;exact apply_any _ (kinds ns) rest c p q _ _ _ _ v3 ⟨HP.out.1.glob.below aZ.out,HA.out.2.2.1,HA.out.2.2.2.1,by rw [qe];exact AG,Hr,HP.out.1.n15,HA.out.2.2.2.2,Rep.below BM (fun _ h=>h) HA.out.1,Rep.below BM (fun _ h=>h) HA.out.2.1,L0,hrr3⟩
     clear lw tH BB Bg An rE Br;go_wp2_with fail
     (with_reducible refine CA.out.mono ?_);rintro en v4 ⟨bv,rfl,rq,hn4,hy4⟩
     have lS:=n7 (n8 (zzT aZ.out rq) (n8 hn4 hy4));have z3:=aZ.out.size;clear rq hn4 hy4;go_wp2_with fail
     go_ret;rw [HT.out];exact ⟨bv,rfl,lS.out.1,lS.out.2.1,fun b h=>(lS.out.2.2 b h).weak fun i h=>by rcases h with h | h;exact h;exact .inr (by omega)⟩
theorem meant_ite (N:Nat) (ih:xh N) (F:Nat->Prop) (l m n:Tm) (ns:List Nm) (kt:Ty) (tv lv:Value) (w:World) (hN:zS (.ite l m n)<=N+1) (hp:nf F (.ite l m n) ns kt tv lv w):Calls No 57 #[tv,lv] w (qz F w (kg ns (.ite l m n))):=by
 obtain ⟨tb,kv,slv,rfl,_,rV,_,_,oQ⟩:=js hp.rt;obtain ⟨pa,pc,rfl,_,_,rX⟩:=zP oQ;simp only [xd,xf,ifW] at rV;obtain ⟨iw,iu,Lc,Ld,EL,_,Ca,Bv,B1,oZ⟩:=rX 0 (by simp [kZ]);simp only [kZ,OU,Pz,OH,OE,Oz] at Bv;subst Bv;obtain ⟨Bt,e0⟩:=qF oZ;subst e0;subst EL;obtain ⟨rO,rI,pu1,AS,oP,_,tU,iv,iy,iW⟩:=rX 1 (by simp [kZ]);simp only [kZ,OU,Pz,OH,OE,Oz] at iv;subst iv;obtain ⟨ED,e1⟩:=qF iW;subst e1;simp only [Oz,Addr.mk.injEq,and_true] at oP;obtain ⟨rfl,rfl⟩:=oP;obtain ⟨IY,IW,pu2,AQ,oW,_,Bu,oX,oG,lB⟩:=rX 2 (by simp [kZ]);simp only [kZ,OU,Pz,OH,OE,Oz] at oX;subst oX;obtain ⟨K_,e2⟩:=qF lB;subst e2;simp only [Oz,Addr.mk.injEq,and_true] at oW;obtain ⟨rfl,rfl⟩:=oW;have t0:w.cell? ⟨tb,0,none⟩=some (str [105,102]):=by simp [Li,rV]
 have t3:w.cell? ⟨tb,3,none⟩=some (.slice (some ⟨iw,iu,none⟩) 3 pc):=by simp [Li,rV,kZ]
 have sK:=hp.room;have rj:=hp.ok;have lF:=hp.ty;have CT:=n7 (fun wz (hz:Below w.heap.size w wz)=>h_ (zS (.ite l m n)) F (.ite l m n) ns _ _ wz (n9 _) ⟨Rep.below hz (fun _ h=>h) hp.rt,Rep.below hz (fun _ h=>h) hp.rl,hp.ok,hp.n15,by omega⟩);rw [zS] at sK hN;obtain ⟨Eu,oU,Nx⟩:=cm lF;obtain ⟨la,lc,rfl,_,_⟩:=AtNms.of hp.rl;have SX:Hid (∀ w',Below w.heap.size w w'->w'.cell? ⟨tb,3,none⟩=some (.slice (some ⟨iw,iu,none⟩) 3 pc)/\w'.cell? ⟨iw,iu,none⟩=some (.pointer (some ⟨Bt,0,none⟩))/\w'.cell? ⟨iw,iu+1,none⟩=some (.pointer (some ⟨ED,0,none⟩))/\w'.cell? ⟨iw,iu+2,none⟩=some (.pointer (some ⟨K_,0,none⟩))):=by
  show ∀ w',_->_;intro w' rS;exact ⟨(rS.cell (n_ w _ t3)).trans t3,(rS.cell Ca).trans B1,(rS.cell tU).trans iy,(rS.cell Bu).trans oG⟩
 have C0:=n7 (fun wz (hz:Below w.heap.size w wz)=>ih F l ns _ (.pointer (some ⟨Bt,0,none⟩)) (.slice la ns.length lc) wz (by omega) ⟨hp.glob.below hz,Rep.below hz (fun _ h=>h) oZ,Rep.below hz (fun _ h=>h) hp.rl,rj.1,hp.n15,by omega,Eu⟩);have C1:=n7 (fun wz (hz:Below w.heap.size w wz)=>ih F m ns _ (.pointer (some ⟨ED,0,none⟩)) (.slice la ns.length lc) wz (by omega) ⟨hp.glob.below hz,Rep.below hz (fun _ h=>h) iW,Rep.below hz (fun _ h=>h) hp.rl,rj.2.1,hp.n15,by omega,oU⟩);have C2:=n7 (fun wz (hz:Below w.heap.size w wz)=>ih F n ns _ (.pointer (some ⟨K_,0,none⟩)) (.slice la ns.length lc) wz (by omega) ⟨hp.glob.below hz,Rep.below hz (fun _ h=>h) lB,Rep.below hz (fun _ h=>h) hp.rl,rj.2.2,hp.n15,by omega,Nx⟩);have HP:=n7 (n8 hp rj);clear hp rX oQ rV rj hN ih oZ B1 Ca iW iy tU lB oG Bu;go_enter QB,Qr;go_wp2_with fail
 refine wp_region_noPanic ?_;refine zB (fun w'=>Below w.heap.size w w') (fun _=>false) (by kernel_rfl) ?_;have rU:(fun w'=>Below w.heap.size w w') w.drew:=Below.drew (rZ _ _);refine tk [0,1,2,3,4,5,6,8,9,10,11,12,13,14,16,17,18,19,20,21,22] rU ?_;(intro d hd;simp [tkD] at hd;subst hd;simp only [tks,pQ,pZ,pS]);iterate 21 (refine ⟨?_,?_,?_⟩;rotate_left;· (intro oi ho;simp at ho;subst ho;refine OO ⟨by rfl,fun w' rB=>?_⟩;obtain ⟨e0,e1,e2,e3⟩:=SX.out w' rB;go_simp;try with_reducible rfl))
 (refine on 7 ?_;intro o ho K' hK;simp at ho;subst ho;go_simp);go_at_call 26
 (with_reducible refine (C0.out _ rU).mono ?_);rintro en v0 ⟨x0,rfl,ru,lp,AW⟩
 have tw:Hid (Below w.heap.size w v0):=rU.trans ru;have FM:Hid ((zT ns l=none->x0=.pointer none)/\(∀ k,zT ns l=some k->Rep (fun i=>F i\/w.heap.size<=i) v0 (k_ k) x0)):=⟨lp,fun k h=>(AW k h).weak fun i h=>by rcases h with h | h;exact .inl h;exact .inr (h)⟩;have K6:=n7 ru;clear ru lp AW;(refine hK.out _ _ (fun _=>tw.out) ?_;clear hK K';try simp only [pQ,pN,pZ,pS]);have Ev:=tw.out;(refine on 15 ?_;intro o ho K' hK;simp at ho;subst ho;go_simp);go_at_call 26;(with_reducible refine (C1.out _ tw.out).mono ?_);rintro en v1 ⟨x1,rfl,rW,sU,sY⟩;have sZ:Hid (Below w.heap.size w v1):=zzT tw.out rW;have FL:Hid ((zT ns m=none->x1=.pointer none)/\(∀ k,zT ns m=some k->Rep (fun i=>F i\/w.heap.size<=i) v1 (k_ k) x1)):=⟨sU,fun k h=>(sY k h).weak fun i h=>by rcases h with h | h;exact .inl h;exact .inr (rJ tw.out.size h)⟩;have B_:=n7 rW;clear rW sU sY;(refine hK.out _ _ (fun _=>sZ.out) ?_;clear hK K';try simp only [pQ,pN,pZ,pS]);have FB:=sZ.out;(refine on 23 ?_;intro o ho K' hK;simp at ho;subst ho;go_simp);go_at_call 26;(with_reducible refine (C2.out _ sZ.out).mono ?_);rintro en v2 ⟨x2,rfl,rY,iU,lD⟩;have rh:Hid (Below w.heap.size w v2):=zzT sZ.out rY;have Ik:Hid ((zT ns n=none->x2=.pointer none)/\(∀ k,zT ns n=some k->Rep (fun i=>F i\/w.heap.size<=i) v2 (k_ k) x2)):=⟨iU,fun k h=>(lD k h).weak fun i h=>by rcases h with h | h;exact .inl h;exact .inr (rJ sZ.out.size h)⟩;have Kc:=n7 rY;clear rY iU lD;(refine hK.out _ _ (fun _=>rh.out) ?_;clear hK K';try simp only [pQ,pN,pZ,pS]);have JT:=rh.out;refine tk [24,25,26] JT ?_;(intro d hd;simp [tkD] at hd;subst hd;simp only [tks,pQ,pZ,pS]);iterate 3 (refine ⟨?_,?_,?_⟩;rotate_left;· (intro oi ho;simp at ho;subst ho;refine OO ⟨by rfl,fun w' rB=>?_⟩;go_simp;try with_reducible rfl))
 refine zX (by kernel_rfl) (Oy ?_) _;clear t3 C0 C1 C2;cases hl:zT ns l with
 | none =>
   obtain rfl:=FM.out.1 hl;have HQ:=n7 (show kg ns (.ite l m n)=none by rw [kg,hl];rfl);clear hl;go_wp2_with fail
   go_ret;exact qz.no HQ.out rh.out
 | some p =>
   have FY:=Rep.below (F':=fun i=>F i\/w.heap.size<=i) Kc.out (fun _ h=>h) (Rep.below (F':=fun i=>F i\/w.heap.size<=i) B_.out (fun _ h=>h) (FM.out.2 p hl));obtain ⟨pp,rfl⟩:=zd FY;cases hm:zT ns m with
   | none =>
     obtain rfl:=FL.out.1 hm;have HQ:=n7 (show kg ns (.ite l m n)=none by rw [kg,hl,hm];rfl);clear hl hm FY;go_wp2_with fail
     go_ret;exact qz.no HQ.out rh.out
   | some q =>
     have Dw:=Rep.below (F':=fun i=>F i\/w.heap.size<=i) Kc.out (fun _ h=>h) (FL.out.2 q hm);obtain ⟨qp,rfl⟩:=zd Dw;cases hn:zT ns n with
     | none =>
       obtain rfl:=Ik.out.1 hn;have HQ:=n7 (show kg ns (.ite l m n)=none by rw [kg,hl,hm,hn];rfl);clear hl hm hn FY Dw;go_wp2_with fail
       go_ret;exact qz.no HQ.out rh.out
     | some r =>
       have BB:=Ik.out.2 r hn;obtain ⟨rp,rfl⟩:=zd BB;obtain ⟨f1,w1,s1⟩:=jf l ns _ p HP.out.2.1 HP.out.1.n15 Eu hl;have Cy:=qW m ns kt HP.out.1.n15 oU;have oI:=jH Cy;have th:lvB p:=fit_lv 200 p (kinds ns++(Ty.mk []).args) s1 f1 (fun t ht=>by
        rcases O_.1 ht with ht | ht
        ·exact HP.out.1.n15 t ht
        ·simp [Ty.args] at ht) (by rw [Ov,qe];simp [Ty.args];omega)
       have HT:=n7 (show kg ns (.ite l m n)=some (qV (kW p ns.length kt.args.length) q r) by
        rw [kg,hl,hm,hn,Lx,Lx,Lx,oU,Lx])
       have Br:=n7 (CT.out v2 rh.out);have HA:=n7 (n8 FY (n8 Dw (n8 BB (n8 th (n8 s1 w1)))));have AG:ns.length<=100:=by omega
       clear hl hm hn FY Dw BB f1 w1 s1 Cy Eu oU Nx th;go_wp2_with fail
       (with_reducible refine Br.out.mono ?_);rintro en v3 ⟨tv3,rfl,rE,Bg,An⟩
       have lw:=An _ lF;obtain ⟨rb,rk,rfl,_,tH,BB⟩:=zc lw;have q0:v3.cell? ⟨rb,0,none⟩=some rk:=by simp [Li,tH]
       obtain ⟨ra,rc,rfl,_,_,_⟩:=zP BB;have aZ:=n7 (zzT rh.out rE);have z2:=rh.out.size;have CR:=n7 (raised_any (zU p) (fun i=>F i\/w.heap.size<=i) p ns.length kt.args.length _ v3 (n9 _) (by have:=HA.out.2.2.2.2.1;omega) HA.out.2.2.2.1 (by omega) (by omega) (Rep.below rE (fun _ h=>h) HA.out.1));have HQ3:=n7 (n8 (Rep.below (F':=fun i=>F i\/w.heap.size<=i) rE (fun _ h=>h) HA.out.2.1) (Rep.below (F':=fun i=>F i\/w.heap.size<=i) rE (fun _ h=>h) HA.out.2.2.1));clear lw tH BB Bg An rE Br;go_wp2_with fail
       (with_reducible refine CR.out.mono ?_);rintro en v4 ⟨sp,rfl,rq,D0⟩
       have z3:=aZ.out.size;have lS:=n7 (zzT aZ.out rq);have L2:Rep (fun i=>F i\/w.heap.size<=i) v4 (k_ (kW p ns.length kt.args.length)) (.pointer (some ⟨sp,0,none⟩)):=D0.weak fun i h=>by rcases h with h | h;exact h;exact .inr (by omega)
       have CG:=n7 (answered_any _ (fun i=>F i\/w.heap.size<=i) (kW p ns.length kt.args.length) q r _ _ _ v4 (n9 _) (wk _ _ _ HA.out.2.2.2.2.2) L2 (Rep.below rq (fun _ h=>h) HQ3.out.1) (Rep.below rq (fun _ h=>h) HQ3.out.2));clear D0 L2 rq q0 CR;go_wp2_with fail
       (with_reducible refine CG.out.mono ?_);rintro en v5 ⟨gp,rfl,rx,E4⟩
       have z4:=lS.out.size;have i8:=n7 (n8 (zzT lS.out rx) E4);clear rx E4;go_wp2_with fail
       go_ret;exact qz.yes HT.out i8.out.1 (i8.out.2.weak fun i h=>by rcases h with h | h;exact h;exact .inr (by omega))
theorem meant_step (N:Nat) (ih:xh N):fH (N+1):=by
 intro F t ns k tv lv w h hp;cases t with
 | nm x=>exact meant_nm F x ns k tv lv w hp
 | wd u=>exact meant_wd F u ns k tv lv w hp
 | lam x k1 t=>exact meant_lam N ih F x k1 t ns k tv lv w h hp
 | app m n=>exact meant_app N ih F m n ns k tv lv w h hp
 | ite l m n=>exact meant_ite N ih F l m n ns k tv lv w h hp
theorem meant_any (N:Nat):fH N:=by
 induction N with
 | zero=>exact fun F t ns k tv lv w h=>by have:=mN t;omega
 | succ N ih=>exact meant_step N (mm N ih)
theorem means_any (N:Nat):xh N:=mm N (meant_any N)
def MofPost (w:World) (o:Option (Ty×Bd)) (en:Ending) (w':World):Prop :=
 ∃ kv bv,en=.returned (.tuple #[kv,bv])/\Below w.heap.size w w'/\(o=none->bv=.pointer none)/\∀ x,o=some x->Rep (w.heap.size<=·) w' (jA x.1) kv/\Rep (w.heap.size<=·) w' (k_ x.2) bv
theorem eS (F:Nat->Prop) (w:World):Rep F w (.sl 99 2 ([]:List Nm).length (jt [])) (.slice none 0 0) :=
 zh.2 ⟨rfl,none,0,rfl,n9 _,fun _=>rfl,.inl rfl⟩
theorem meaningOf_any (s:Bs) (w:World) (he:xR w) (hs:Lim s.length) :
 Calls No 12 #[str s] w (MofPost w (jy s)):=by
 have C0:=n7 (pH s w hs);have HE:=n7 he;clear he hs;go_enter Tryz.func12,Tryz.ntmps12;go_wp2_with fail
 (with_reducible refine C0.out.mono ?_)
 rintro en w1 ⟨v,rfl,rW,sU,sY⟩;cases ht:qC s with
 | none =>
   obtain rfl:=sU ht;have HM:=n7 (show jy s=none by unfold jy;rw [ht];rfl);have HB:=n7 rW;clear ht sU sY rW;go_wp2_with fail
   go_ret2
   exact ⟨_,_,rfl,HB.out,fun _=>rfl,fun x h=>by rw [HM.out] at h;simp at h⟩
 | some t =>
   have hr:=sY t ht;obtain ⟨tb,rfl⟩:=qF hr;obtain ⟨_,rj,i7⟩:=jh ht;have CT:=n7 (h_ (zS t) (w.heap.size<=·) t [] _ _ w1 (n9 _) ⟨hr,eS _ _,rj,by simp [kinds],by simp;omega⟩);have HT:=n7 (n8 hr (n8 rj i7));have HB:=n7 rW;have HM:=n7 (show jy s=(typeOf [] t).bind fun k=>(zT [] t).map fun b=>(k,b) by unfold jy;rw [ht];rfl);clear ht sU sY rW hr rj i7;go_wp2_with fail
   (with_reducible refine CT.out.mono ?_);rintro en w2 ⟨kv,rfl,rY,iU,lD⟩
   have rh:=n7 (zzT HB.out rY);cases hk:typeOf [] t with
   | none =>
     obtain rfl:=iU hk;have Ir:=n7 (show jy s=none by rw [HM.out,hk];rfl);clear hk iU lD rY;go_wp2_with fail
     go_ret2
     exact ⟨_,_,rfl,rh.out,fun _=>rfl,fun x h=>by rw [Ir.out] at h;simp at h⟩
   | some k =>
     have sT:Rep (w.heap.size<=·) w2 (jA k) kv:=(lD k hk).weak fun i h=>by rcases h with h | h;exact h;exact rJ HB.out.size h
     obtain ⟨kb,_,e,_⟩:=zc sT;subst e;have CM:=n7 (means_any (zS t) (w.heap.size<=·) t [] k _ _ w2 (n9 _) ⟨HE.out.below rh.out,Rep.below rY (fun _ h=>h) HT.out.1,eS _ _,HT.out.2.1,by simp [kinds],by have:=HT.out.2.2;simp;omega,hk⟩);have HK:=n7 sT;have Ir:=n7 (show jy s=(zT [] t).map fun b=>(k,b) by rw [HM.out,hk];rfl);clear hk iU lD rY sT;go_wp2_with fail
     (with_reducible refine CM.out.mono ?_);rintro en w3 ⟨bv,rfl,rE,Bg,An⟩
     have aZ:=n7 (n8 (zzT rh.out rE) (n8 (Rep.below (F':=(w.heap.size<=·)) rE (fun _ h=>h) HK.out) (n8 Bg An)));have z2:=rh.out.size;clear rE Bg An;go_wp2_with fail
     go_ret2
     refine ⟨_,_,rfl,aZ.out.1,fun h=>?_,fun x h=>?_⟩
     ·rw [Ir.out,Option.map_eq_none_iff] at h;exact aZ.out.2.2.1 h
     ·rw [Ir.out,OA] at h;obtain ⟨b,hb,rfl⟩:=h;exact ⟨aZ.out.2.1,(aZ.out.2.2.2 b hb).weak fun i h=>by rcases h with h | h;exact h;exact rJ z2 h⟩
def gJ (s:Bs):Option Bs:=(jy s).map fun x=>kC x.2
theorem uQ (s:Bs) (w:World) (hg:yF w) (he:xR w) (hs:Lim s.length) :
 Calls No 5 #[str s] w fun en w'=>en=.returned (.tuple #[str ((gJ s).getD []),.bool (gJ s).isSome])/\Below w.heap.size w w':=by
 have C0:=n7 (meaningOf_any s w he hs);have HG:=n7 hg;clear hg he hs;go_enter Tryz.func5,Tryz.ntmps5;go_wp2_with fail
 (with_reducible refine C0.out.mono ?_)
 rintro en w1 ⟨kv,bv,rfl,rW,sU,sY⟩;cases hq:jy s with
 | none =>
   obtain rfl:=sU hq;have HM:=n7 (show gJ s=none by unfold gJ;rw [hq];rfl);have HB:=n7 rW;clear hq sU sY rW;go_wp2_with fail
   go_ret2
   exact ⟨by rw [HM.out];rfl,HB.out⟩
 | some x =>
   obtain ⟨k,b⟩:=x;obtain ⟨rk,rb⟩:=sY _ hq;obtain ⟨_,iG⟩:=dF hq;obtain ⟨bb,rfl⟩:=zd rb;have CT:=n7 (text_any (zU b) b (n9 _) (by have:=iG.size;omega) iG.lv _ w1 _ (HG.out.below rW) rb);have HM:=n7 (show gJ s=some (kC b) by unfold gJ;rw [hq];rfl);have HB:=n7 rW;clear hq sU sY rW rk rb iG;go_wp2_with fail
   (with_reducible refine CT.out.mono ?_);rintro en w2 ⟨rfl,rY⟩
   have rh:=n7 (zzT HB.out rY);clear rY;go_wp2_with fail
   go_ret2
   exact ⟨by rw [HM.out];rfl,rh.out⟩
def dS (s:Bs):Option Bs:=(wA s).map zL
theorem eg (s:Bs) (w:World) (hs:Lim s.length) :
 Calls No 7 #[str s] w fun en w'=>en=.returned (.tuple #[str ((dS s).getD []),.bool (dS s).isSome])/\Below w.heap.size w w':=by
 have C0:=n7 (pH s w hs);clear hs;go_enter Tryz.func7,Tryz.ntmps7;go_wp2_with fail
 (with_reducible refine C0.out.mono ?_)
 rintro en w1 ⟨v,rfl,rW,sU,sY⟩;cases ht:qC s with
 | none =>
   obtain rfl:=sU ht;have HM:=n7 (show dS s=none by unfold dS wA;rw [ht];rfl);have HB:=n7 rW;clear ht sU sY rW;go_wp2_with fail
   go_ret2
   exact ⟨by rw [HM.out];rfl,HB.out⟩
 | some t =>
   have hr:=sY t ht;obtain ⟨tb,rfl⟩:=qF hr;obtain ⟨_,rj,i7⟩:=jh ht;have CT:=n7 (h_ (zS t) (w.heap.size<=·) t [] _ _ w1 (n9 _) ⟨hr,eS _ _,rj,by simp [kinds],by simp;omega⟩);have HB:=n7 rW;have HM:=n7 (show dS s=(typeOf [] t).map zL by unfold dS wA;rw [ht];rfl);clear ht sU sY rW hr rj i7;go_wp2_with fail
   (with_reducible refine CT.out.mono ?_);rintro en w2 ⟨kv,rfl,rY,iU,lD⟩
   have rh:=n7 (zzT HB.out rY);cases hk:typeOf [] t with
   | none =>
     obtain rfl:=iU hk;have Ir:=n7 (show dS s=none by rw [HM.out,hk];rfl);clear hk iU lD rY;go_wp2_with fail
     go_ret2
     exact ⟨by rw [Ir.out];rfl,rh.out⟩
   | some k =>
     have sT:=lD k hk;have rR:=qW t [] k (by simp [kinds]) hk;obtain ⟨kb,_,e,_⟩:=zc sT;subst e;have CK:=n7 (bJ 15 k rR (by omega) _ w2 _ sT);have Ir:=n7 (show dS s=some (zL k) by rw [HM.out,hk];rfl);clear hk iU lD rY sT rR;go_wp2_with fail
     (with_reducible refine CK.out.mono ?_);rintro en w3 ⟨rfl,rE⟩
     have aZ:=n7 (zzT rh.out rE);clear rE;go_wp2_with fail
     go_ret2
     exact ⟨by rw [Ir.out];rfl,aZ.out⟩
end Go.Proofs.YtdhaafoiokkbnabGreatDoor

/- Walks. -/
import Derived.Test.YtpgiohmcggllgaaGreatDoorQ8
set_option linter.unusedVariables false
set_option linter.unusedSimpArgs false
set_option maxHeartbeats 4000000
set_option maxRecDepth 100000
open Bool renaming and_eq_true->Oa,true_and->QZ
open Go.Lib renaming decDigits->OC,itoa->Pp,join->SG,joinTail->R4,join_cons->RR
open Go.NoPanic renaming normal->N0
open Go.Proofs.Tryz renaming func105->S_,func106->Q9,func13->TH,func64->P5,ntmps105->SH,ntmps106->QT,ntmps13->S9,ntmps64->PT,prog->KD,underlying77->Pq
open Go.Value renaming oneCell'->Of,ownBlock->N7,slice->Nq
open Go.World renaming cell?->GD,frozen?->N4,ownsRow_nil->OL
open Int renaming natCast_add->Pm
open List renaming getElem?_cons_succ->N8,getElem?_cons_zero->N9,getElem?_eq_some_iff->N6,getElem?_map->OY,length_append->NZ,length_cons->N5,map_cons->Ol,map_nil->OU,mem_append->Oy,mem_iff_getElem?->R3,mem_of_getElem?->Oc,take_add_one->OG,take_length->Oh
open Nat renaming add_mul->Qy,le_of_lt->TI,zero_le->Og
open Option renaming bind_eq_some_iff->No,bind_some->Mm,map_eq_some_iff->N3
open Option.some renaming inj->Ob,injEq->N1
namespace Go.Proofs.YtpgiohmcggllgaaGreatDoor
open Go.RowKit
theorem decNat (n:Nat):dec n=OC n:=by
 induction n using Nat.strongRecOn with
 | _ n ih =>
   by_cases h:n<10
   ·rw [jl h,OC,dif_pos h];rfl
   ·rw [vd h,OC,dif_neg h,ih (n / 10) (Nat.div_lt_self (by omega) (by omega))];rfl
theorem itoaNat (i:Nat):Pp (i:Int)=dec i:=by
 rw [decNat,Pp,if_neg (by omega)];rfl
theorem lvBs_of:∀ xs:List Bd,(∀ b∈xs,lvB b)->cJ xs
 | [],_=>by rw [cJ];trivial
 | b::bs,h=>by rw [cJ];exact ⟨h b (by simp),lvBs_of bs fun x hx=>h x (by simp [hx])⟩
theorem fit_lv (n:Nat):∀ (b:Bd) (h:List Ty),zX b<=n->jq h b->(∀ t∈h,zJ t<=15)->h.length+15*n<=10000->lvB b:=by
 induction n with
 | zero=>intro b h hs;have:=kW b;omega
 | succ n ih =>
   intro b h hs hf ha hl;cases b with
   | leaf c=>rw [lvB];trivial
   | ask v ss y no =>
     rw [jq] at hf;obtain ⟨t,ht,f1,f2,f3⟩:=hf;rw [zX] at hs;have hy:=kW y;have hn:=kW no;have hv:=(N6.1 ht).1;have oZ:=ha t (Oc ht);rw [lvB];refine ⟨by omega,lvBs_of ss fun b hb=>?_,ih y h (by omega) f2 ha (by omega),ih no h (by omega) f3 ha (by omega)⟩;have hsz:=vo hb;obtain ⟨k,hk⟩:=R3.1 hb;obtain ⟨x,hx,hxf⟩:=gP _ _ f1 k b hk;simp only [qC,OY,N3] at hx;obtain ⟨a,Bo,rfl⟩:=hx;have sN:=(kZ oZ).1 a (Oc Bo);have Af:=kZ sN;refine ih b (h++a.args) (by omega) hxf (fun t ht=>?_) (by rw [NZ];omega);rcases Oy.1 ht with h | h
     ·exact ha t h
     ·exact Af.1 t h
theorem Good.lv {t:Ty} {b:Bd} (h:Good t b):lvB b :=
 fit_lv 200 b t.args h.size h.fit (kZ h.atoms).1 (by have:=(kZ h.atoms).2;omega)
theorem xX:∀ bs:List Bd,R4 [32] (bs.map kI)=kq bs
 | []=>rfl
 | b::bs=>by
   have:=xX bs;simp only [R4,Ol,List.flatten_cons] at this ⊢;rw [this,kq]
theorem textB_join (v:Nat) (ss:List Bd) (y n:Bd):kI (.ask v ss y n)=[40]++SG (dec v::(ss++[y,n]).map kI) [32]++[41]:=by
 rw [RR,xX,vx,kI,kq,kq,kq];simp
def fH (b:Bd):Prop:=∀ (F:Nat->Prop) (w:World) (v:Value),yP w->Rep F w (k_ b) v ->
 Calls KD 13 #[v] w fun en w'=>en=.returned (str (kI b))/\Below w.heap.size w w'
theorem Tryz.infoStrA:(KD.info? 9).map (fun i=>(i.zero,i.size,i.bytes))=some (some (str []),1,16):=by kernel_rfl
theorem Own.strings {w:World} {e:TypeId} {v:Value} {n:Nat} {ts:List Bs} (h:Own w e 1 v n (ts.map str)) (hn:0<n) :
 ∃ g cap,v=.slice (some ⟨g,0,none⟩) n cap/\n<=cap/\g<w.heap.size/\ts.length=n/\∀ (j:Nat) (x:ByteArray),(ts.map fun t=>(⟨t.toArray⟩:ByteArray))[j]? = some x->w.cell? ⟨g,0+j,none⟩=some (.string x):=by
 have hl:=h.1;rcases h.2 with ⟨_,h0⟩ | ⟨g,cap,cur,rfl,_,hg,lh,_,hcs,ht⟩
 ·omega
 ·refine ⟨g,cap,rfl,lh,zZ hg,by simpa using hl,fun j x hj=>?_⟩;rw [OY,N3] at hj;obtain ⟨t,ht1,rfl⟩:=hj;have h1:(ts.map str)[j]? = some (str t):=by rw [OY,ht1];rfl
  rw [<- ht,List.getElem?_take] at h1;split at h1
  ·rw [Nat.zero_add];simp only [GD,hg];simpa using h1
  ·simp at h1
structure TInv (lv:Nat) (ps:List Bd) (w w2 w4:World) (k:Nat) (v:Value) (wr:World):Prop where
 own:Own wr 9 1 v (k+1) ((dec lv::(ps.take k).map kI).map str)
 bel:Below w.heap.size w wr
 but:But (· = w2.heap.size) w4 wr
 fr:∀ g,v.ownBlock=some g->g=w2.heap.size\/w4.heap.size<=g
theorem text_step (b:Bd) (hl:zX b<=100000) (sO:lvB b) (ih:∀ t,zX t<zX b->lvB t->fH t):fH b:=by
 intro F w v hg hv;have IH:=mj ih;clear ih;cases b with
 | leaf c =>
   obtain ⟨a0,sl,rfl,_,mm,_⟩:=wI hv;have r0:w.cell? ⟨a0,0,none⟩=some (str [c]):=by simp [GD,mm]
   have CL:=mj (y_ F w c _ hv);clear mm hv;go_enter TH,S9;go_wp2_with fail
   (with_reducible refine CL.out.mono ?_);rintro en w3 ⟨rfl,rfl⟩
   go_wp2_with fail
   go_ret;exact ⟨by rw [kI];rfl,mw _ _⟩
 | ask lv ss y no =>
   obtain ⟨a0,sl,yv,nv,rfl,_,mm,_⟩:=yX hv;have r1:w.cell? ⟨a0,1,none⟩=some (.int .i64 (lv:Nat)):=by simp [GD,mm]
   have EU:=zZ mm;have CL:=mj (xq F w lv ss y no _ hv);have ie:=sO;rw [lvB] at ie;have hlv1:=ie.1;have C1:Calls KD 23 #[.int .i64 (lv:Nat)] w fun en w'=>en=.returned (str (dec lv))/\Below w.heap.size w w':=by
    have:=fo (lv:Nat) w hg (by omega) (by omega);rwa [itoaNat] at this
   have C1:=mj C1;have HP:=mj (mu hv (mu hg (mu sO hl)));clear hv hg sO hl mm ie;go_enter TH,S9;go_wp2_with fail
   (with_reducible refine CL.out.mono ?_);rintro en w1 ⟨rfl,e⟩
   subst w1;go_wp2_with fail
   (with_reducible refine C1.out.mono ?_);rintro en w2 ⟨rfl,me⟩
   have tY:Below w.heap.size w (w2.alloc (.cells #[str (dec lv)] 9)):=me.alloc me.size _;have sI:=me.size;have hvA:Rep (fun i=>F i/\i<w.heap.size) (w2.alloc (.cells #[str (dec lv)] 9)) (k_ (.ask lv ss y no)) (.pointer (some ⟨a0,0,none⟩)):=Rep.below tY (fun _ h=>h) (Rep.low HP.out.1);have CP:=mj (dw _ _ _ _ hvA (by have:=HP.out.2.2.2;unfold Lim;omega));have hp:kh (.ask lv ss y no)=ss++[y,no]:=rfl;unfold bU at CP;rw [hp] at CP;have hsz:zR (ss++[y,no])+1=zX (.ask lv ss y no):=by rw [jy,zX,zR,zR,zR];omega
   have sx:∀ b∈ss++[y,no],lvB b:=by
    have:=HP.out.2.2.1;rw [lvB] at this;intro b hb;rcases Oy.1 hb with h | h
    ·obtain ⟨k,hk⟩:=R3.1 h;exact e_ _ this.2.1 k b hk
    ·simp at h;rcases h with rfl | rfl
     ·exact this.2.2.1
     ·exact this.2.2.2
   have G0:=textB_join lv ss y no;have i8:kq (ss++[y,no])=R4 [32] ((ss++[y,no]).map kI):=(xX _).symm;have LT:=yu (ss++[y,no]) (lvBs_of _ sx);have J3:(dec lv).length<=5:=vU 4 lv (by omega);have hb100:=HP.out.2.2.2;have GW:=Own.litAt (w:=w2) (e:=9) (size:=1) #[str (dec lv)] 1 _ rfl (by decide) rfl;generalize hpp:ss++[y,no]=ps at *;have HQ:=mj (mu hsz (mu sx (mu G0 (mu i8 (mu LT (mu tY GW))))));clear hsz sx G0 i8 LT tY hvA me GW hp hpp;go_wp2_with fail
   (with_reducible refine CP.out.mono ?_);rintro en w4 ⟨pv,rfl,nS,hp4⟩
   obtain ⟨pa,pc,e,_,_,ml⟩:=zP hp4;subst e;have hz4:=nS.size;rw [zK] at hz4;have JP:=HQ.out.1;have Lz:=qL ps;have oR:=mj (mu nS ml);clear nS hp4 ml JP;have GV:ps.length<=100000:=by have:=HQ.out.1;omega
   clear Lz;go_wp2_with fail
   go_loopw [3,22] (fun o i wr=>∃ k:Nat,k<=ps.length/\i=.int .i64 k/\TInv lv ps w w2 w4 k o wr) (fun _ i _=>ps.length-(intOf i).toNat)
   case atStart =>
    refine ⟨0,Og _,rfl,?_,HQ.out.2.2.2.2.2.1.trans (oR.out.1.mono (by rw [zK];omega)),But.refl _ _,fun g hg=>.inl ?_⟩
    ·exact HQ.out.2.2.2.2.2.2.keep fun g o hg hh=>by rw [oR.out.1.block g (zZ hh)];exact hh
    ·simp [N7] at hg;omega
   case round =>
    rename_i wr;obtain ⟨k,hk,rfl,nQ⟩:=hrel;obtain ⟨sa,sc,e⟩:=nQ.own.slice;subst e;have HI:=mj nQ;clear nQ;by_cases m_:k<ps.length
    ·obtain ⟨ba,oa,u,d,ea,M9,Jb,hd,hu,hr⟩:=oR.out.2 k m_;subst ea;rw [xv,N3] at hd;obtain ⟨t,ht,rfl⟩:=hd;obtain ⟨ta,eu⟩:=za hr;subst eu;have hne:ba≠w2.heap.size:=by
      rcases M9 with h | h
      ·have:=h.2;omega
      ·rw [zK] at h;omega
     have hc:wr.cell? ⟨ba,oa+k,none⟩=some (.pointer (some ⟨ta,0,none⟩)):=(HI.out.but.cell Jb hne).trans hu;have aH:Rep (fun _=>True) wr (k_ t) (.pointer (some ⟨ta,0,none⟩)):=by
      refine (Rep.keep fun b o hf hh=>⟨trivial,?_⟩).1 _ _ hr;rw [HI.out.but.block b (zZ hh) (fun e=>?_)]
      ·exact hh
      ·have e:b=w2.heap.size:=e;rcases hf with h | h
       ·have:=h.2;omega
       ·rw [zK] at h;omega
     have rj:=Oc ht;have od:zX t<zX (.ask lv ss y no):=by have:=vo rj;have:=HQ.out.1;omega
     have IH':=mj (IH.out t od (HQ.out.2.1 t rj) _ wr _ (HP.out.2.1.below HI.out.bel) aH);have HT:=mj ht;clear ht hu hr aH rj;go_wp2_with fail
     (with_reducible refine IH'.out.mono ?_);rintro en w5 ⟨rfl,nR⟩
     have oM:=mj nR;clear nR;go_wp2_with (at_builtin;refine zE rfl _ _ 50 rfl 9 (str []) 1 16 Tryz.underlying50 Tryz.infoStrA rfl (by decide) (.slice sa (k+1) sc) (k+1) ((dec lv::(ps.take k).map kI).map str) rfl ?c1 _ 1 [str (kI t)] rfl ?c2 ?c3 ?c4 ?_)
     case c1=>exact (HI.out.own.keep fun g o hg hh=>by rw [oM.out.block g (zZ hh)];exact hh).alloc _
     case c2=>exact zq.lit1 #[str (kI t)] rfl (by simp [Of,str]) _ (by simp)
     case c3=>unfold maxLen;omega
     case c4=>omega
     intro a7 c7 w7 nL mo nG;have hz5:=oM.out.size;have hzb:=HI.out.bel.size;have KJ:=HI.out.but.size;have hN:TInv lv ps w w2 w4 (k+1) (.slice a7 (k+1+1) c7) w7:=by
      have hfr:∀ g,(Nq sa (k+1) sc).ownBlock=some g->w.heap.size<=g/\(g=w2.heap.size\/w4.heap.size<=g):=fun g hg=>by
       have:=HI.out.fr g hg;exact ⟨by omega,this⟩
      refine ⟨?_,?_,?_,fun g hg=>?_⟩
      ·have:=nL;simpa [OG,HT.out,List.map_take] using this
      ·exact ((HI.out.bel.trans (oM.out.mono hzb)).alloc (by omega) _).trans (mo.toBelow (by rw [zK];omega) fun i hi e=>by have:=hfr i e;omega)
      ·refine But.trans' ((HI.out.but.trans (But.ofBelow oM.out)).alloc _) mo fun i hi e=>?_;have h1:=(hfr i e).2;rcases h1 with h | h
       ·exact h
       ·omega
      ·rcases nG g hg with h | h
       ·exact (hfr g h).2
       ·exact .inr (by omega)
     have HN:=mj hN;clear hN nL mo nG;go_wp2_with fail
     go_roundw
     case rel=>exact ⟨k+1,by omega,by go_num,HN.out⟩
     case measure=>simp [intOf];omega
    ·obtain rfl:k=ps.length:=by omega
     have ho:=HI.out.own;rw [Oh] at ho;obtain ⟨g,cap,e,hcap,hglt,hlen,hcells⟩:=ho.strings (by omega);simp only [Value.slice.injEq] at e;obtain ⟨rfl,_,rfl⟩:=e;have hxl:((dec lv::ps.map kI).map fun t=>(⟨t.toArray⟩:ByteArray)).length=ps.length+1:=by simp
     have hxm:(((dec lv::ps.map kI).map fun t=>(⟨t.toArray⟩:ByteArray)).map (·.data.toList))=dec lv::ps.map kI:=by simp [Function.comp_def]
     have IC:(⟨#[32]⟩:ByteArray).data.toList=[32]:=rfl
     have CJ:=Tryz.strings_Join g 0 sc ((dec lv::ps.map kI).map fun t=>(⟨t.toArray⟩:ByteArray)) ⟨#[32]⟩ wr hcells hglt (by rw [hxl];omega) (by rw [hxl];omega) (by
      rw [hxm,IC,RR,NZ,<- HQ.out.2.2.2.1];have:=HQ.out.2.2.2.2.1;have:=HQ.out.1;omega)
     rw [hxl,hxm,IC] at CJ;have CJ:=mj CJ;have HJ:=mj HQ.out.2.2.1;have Cq:(SG (dec lv::ps.map kI) [32]).length<=2000000:=by
      rw [RR,NZ,<- HQ.out.2.2.2.1];have:=HQ.out.2.2.2.2.1;have:=HQ.out.1;omega
     clear ho hcells hxl hxm IC;generalize hjn:SG (dec lv::ps.map kI) [32]=jn at *;go_wp2_with fail
     (with_reducible refine CJ.out.mono ?_);rintro en w8 ⟨rfl,rK⟩
     have HB8:=mj (zzT HI.out.bel rK);clear rK;go_wp2_with fail
     go_ret;refine ⟨?_,HB8.out⟩;rw [HJ.out];have e1:=str_add [40] jn;have e2:=str_add ([40]++jn) [41];show Ending.returned (.string ((⟨([40]:Bs).toArray⟩++⟨jn.toArray⟩)++⟨([41]:Bs).toArray⟩))=_;rw [e1,e2]
theorem text_any (n:Nat):∀ b,zX b<=n->n<=100000->lvB b->fH b:=by
 induction n with
 | zero=>intro b h _;have:=kW b;omega
 | succ n ih=>exact fun b h hn sO=>text_step b (by omega) sO (fun t h' iU=>ih t (by omega) (by omega) iU)
structure Grow (w:World) (P:Nat) (o:Value->Obj) (e:TypeId) (sz k:Nat) (cs:List DV) (sv:Value) (us:List Value) (wr:World):Prop where
 below:Below P w wr
 blk:wr.heap[P]? = some (o sv)
 own:Own wr e sz sv k us
 rep:zW (fun i=>P<i/\sv.ownBlock≠some i) wr cs us
 fr:∀ g,sv.ownBlock=some g->P<g
theorem Grow.start {w:World} {P:Nat} {o:Value->Obj} {e:TypeId} {sz:Nat} (h:w.heap[P]? = some (o (.slice none 0 0))):Grow w P o e sz 0 [] (.slice none 0 0) [] w :=
 ⟨mw _ _,h,OL _ _ _ _,by rw [zC],fun g hg=>by simp [N7] at hg⟩
theorem Grow.slice {w:World} {P:Nat} {o:Value->Obj} {e:TypeId} {sz k:Nat} {cs:List DV} {sv:Value} {us:List Value} {wr:World} (h:Grow w P o e sz k cs sv us wr):∃ a c,sv=.slice a k c:=h.own.slice
theorem Grow.next {w:World} {P:Nat} {o:Value->Obj} {e:TypeId} {sz k:Nat} {cs:List DV} {sv:Value} {us:List Value} {wr:World} (h:Grow w P o e sz k cs sv us wr)
 {w6 w7 w8:World} {ob:Obj} {ds:List DV} {news:List Value} {sv':Value} (nJ:Below wr.heap.size wr w6) (sX:zW (fun i=>wr.heap.size<=i) w6 ds news)
 (nL:Own w7 e sz sv' (k+1) (us++news)) (mo:But (fun b=>sv.ownBlock=some b) (w6.alloc ob) w7) (nG:∀ g,sv'.ownBlock=some g->sv.ownBlock=some g\/g=(w6.alloc ob).heap.size)
 (h8:w8.heap[P]? = some (o sv')) (rK:But (fun b=>b=P) w7 w8):Grow w P o e sz (k+1) (cs++ds) sv' (us++news) w8:=by
 have hz6:=nJ.size;have JM:=mo.size;rw [zK] at JM;have Jn:=zZ h.blk;have hsv:∀ i,sv.ownBlock=some i->P<i/\i<wr.heap.size:=fun i e=>⟨h.fr i e,h.own.lt e⟩;have past:∀ (i:Nat) (x:Obj),i≠P->sv.ownBlock≠some i->w6.heap[i]? = some x->w8.heap[i]? = some x:=fun i x h1 h2 hx=>by
  have hl:=zZ hx;rw [rK.block i (by omega) h1,mo.block i (by rw [zK];omega) h2,Below.heap_alloc _ _ _ hl];exact hx
 have sZ:∀ g,sv'.ownBlock=some g->sv.ownBlock=some g\/w6.heap.size<g:=fun g hg=>by
  rcases nG g hg with e | e
  ·exact .inl e
  ·rw [zK] at e;exact .inr (by omega)
 refine ⟨?_,h8,nL.keep fun g x hg hx=>?_,zW.append ?_ ?_,fun g hg=>?_⟩
 ·have h1:Below P w (w6.alloc ob):=(h.below.trans (nJ.mono (TI Jn))).alloc (by omega) _;have h2:Below P w w7:=h1.trans (mo.toBelow (by rw [zK];omega) fun i hi e=>by have:=hsv i e;omega);exact h2.trans (rK.toBelow (by omega) fun i hi e=>by omega)
 ·rw [rK.block g (zZ hx) (fun e=>by rcases sZ g hg with e' | e';· have:=hsv g e';omega
                                    ·omega)];exact hx
 ·have hk:∀ i x,(P<i/\sv.ownBlock≠some i)->wr.heap[i]? = some x->(P<i/\sv'.ownBlock≠some i)/\w8.heap[i]? = some x:=fun i x hi hx=>by
   refine ⟨⟨hi.1,fun e2=>?_⟩,past i x (by omega) hi.2 (by rw [nJ.block i (zZ hx)];exact hx)⟩;rcases sZ i e2 with e' | e'
   ·exact hi.2 e'
   ·have:=zZ hx;omega
  exact (Rep.keep hk).2 _ _ h.rep
 ·have hk:∀ i x,wr.heap.size<=i->w6.heap[i]? = some x->(P<i/\sv'.ownBlock≠some i)/\w8.heap[i]? = some x:=fun i x hi hx=>by
   refine ⟨⟨by omega,fun e2=>?_⟩,past i x (by omega) (fun e2=>by have:=hsv i e2;omega) hx⟩;rcases sZ i e2 with e' | e'
   ·have:=hsv i e';omega
   ·have:=zZ hx;omega
  exact (Rep.keep hk).2 _ _ sX
 ·rcases sZ g hg with e' | e'
  ·exact h.fr g e'
  ·omega
theorem Grow.own6 {w:World} {P:Nat} {o:Value->Obj} {e:TypeId} {sz k:Nat} {cs:List DV} {sv:Value} {us:List Value} {wr:World} (h:Grow w P o e sz k cs sv us wr) {w6:World} (nJ:Below wr.heap.size wr w6) (ob:Obj):Own (w6.alloc ob) e sz sv k us :=
 (h.own.keep (w':=w6) fun g _ _ hx=>by rw [nJ.block g (zZ hx)];exact hx).alloc ob
theorem Grow.not {w:World} {P:Nat} {o:Value->Obj} {e:TypeId} {sz k:Nat} {cs:List DV} {sv:Value} {us:List Value} {wr:World} (h:Grow w P o e sz k cs sv us wr):¬ sv.ownBlock=some P:=fun e=>by have:=h.fr P e;omega
theorem Grow.sl {w:World} {P:Nat} {o:Value->Obj} {e:TypeId} {sz k:Nat} {cs:List DV} {sv:Value} {us:List Value} {wr:World} (h:Grow w P o e sz k cs sv us wr):Rep (fun i=>P<i) wr (.sl e sz k cs) sv :=
 h.own.rep (fun g hg=>h.fr g hg) ((Rep.keep fun _ _ hi hx=>⟨hi.1,hx⟩).2 _ _ h.rep)
theorem uP (w:World) (P f:Nat) (u:Value):But (fun b=>b=P) w (w.setCell ⟨P,f,none⟩ u):=(But.refl (fun b=>b=P) w).setCell (p:=⟨P,f,none⟩) (.inl rfl) u
theorem Grow.cell7 {w:World} {P:Nat} {o:Value->Obj} {e:TypeId} {sz k:Nat} {cs:List DV} {sv:Value} {us:List Value} {wr:World} (h:Grow w P o e sz k cs sv us wr) {w6 w7:World} {ob:Obj} (nJ:Below wr.heap.size wr w6) (mo:But (fun b=>sv.ownBlock=some b) (w6.alloc ob) w7) :
 w7.heap[P]? = some (o sv):=by
 have Jn:=zZ h.blk;have:=nJ.size;rw [mo.block P (by rw [zK];omega) h.not,Below.heap_alloc _ _ _ (by omega),nJ.block P Jn];exact h.blk
theorem etas_take {ts:List Ty} {k:Nat} {t:Ty} (h:ts[k]? = some t) (v n:Nat):ux (ts.take (k+1)) v n=ux (ts.take k) v n++[eta t (v+k) n]:=by
 induction ts generalizing k v with
 | nil=>simp at h
 | cons a ts ih =>
   cases k with
   | zero=>simp at h;subst h;simp [ux]
   | succ k =>
     simp only [N8] at h;simp only [List.take_succ_cons,ux,List.cons_append];rw [ih h,show v+1+k=v+(k+1) from by omega]
theorem arg_atoms {t a:Ty} {k:Nat} (h:t.args[k]? = some a):1+zJ a<=zJ t:=by
 have key:∀ (ts:List Ty) (k:Nat),ts[k]? = some a->1+zJ a<=zc ts:=by
  intro ts
  induction ts with
  | nil=>intro k h;simp at h
  | cons x xs ih =>
    intro k h;rw [zc];cases k with
    | zero=>simp at h;subst h;omega
    | succ k=>have:=ih k (by simpa using h);omega
 cases t with
 | mk ts=>rw [zJ];have:=key ts k h;omega
theorem gV {B b:Nat} {w:World} {c:UInt8} (h:w.heap[b]? = some (.cells #[str [c],.int .i64 0,.slice none 0 0,.pointer none,.pointer none] 79 (0,0))) (hB:B<=b):Rep (fun i=>B<=i) w (k_ (.leaf c)) (.pointer (some ⟨b,0,none⟩)):=by
 rw [k_,jv];refine ⟨_,_,rfl,hB,h,?_⟩;exact zQ.2 ⟨_,_,rfl,zH.2 rfl,zQ.2 ⟨_,_,rfl,zH.2 rfl,zQ.2 ⟨_,_,rfl,zg.2 ⟨rfl,none,0,rfl,my _,fun _=>rfl,.inl rfl⟩,zQ.2 ⟨_,_,rfl,zH.2 rfl,zQ.2 ⟨_,_,rfl,zH.2 rfl,zC.2 rfl⟩⟩⟩⟩⟩
def wU (v:Nat) (yv nv sv:Value):Obj:=.cells #[str [],.int .i64 (v:Nat),sv,yv,nv] 79 (0,0)
theorem copyOf_any (m:Nat):∀ (t:Ty),zJ t<=m->zJ t<=15->∀ (F:Nat->Prop) (kv:Value) (v n:Nat) (w:World),Rep F w (jT t) kv->v<=1000000->n+16*zJ t<=1000000 ->
 Calls KD 102 #[kv,.int .i64 (v:Nat),.int .i64 (n:Nat)] w fun en w'=>∃ b,en=.returned (.pointer (some ⟨b,0,none⟩))/\Below w.heap.size w w'/\Rep (fun i=>w.heap.size<=i) w' (k_ (eta t v n)) (.pointer (some ⟨b,0,none⟩)):=by
 induction m with
 | zero=>intro t h;cases t;rw [zJ] at h;omega
 | succ m ih =>
 intro t hm nX F kv v n w hk hv hn;have IH:=mj ih;obtain ⟨kb,ks,e,hkF,aL,Fq⟩:=zi hk;subst e;obtain ⟨ka,kc,e,_,_,AM⟩:=zP Fq;subst e;have IV:=(kZ nX).2;have ml:=mj (kZ nX).1;have tH:=zZ aL;have Cp:w.cell? ⟨kb,0,none⟩=some (.slice ka t.args.length kc):=by simp [GD,aL]
 have HA:=mj AM;obtain ⟨W,hW⟩:=zzN (((w.alloc (.cells #[str [116],.int .i64 0,.slice none 0 0,.pointer none,.pointer none] 79)).alloc (.cells #[str [102],.int .i64 0,.slice none 0 0,.pointer none,.pointer none] 79)).alloc (.cells #[str [],.int .i64 (v:Nat),.slice none 0 0,.pointer (some ⟨w.heap.size,0,none⟩),.pointer (some ⟨w.heap.size+1,0,none⟩)] 79));have th:W.heap.size=w.heap.size+3:=by rw [<- hW];simp only [zK]
 have nV:Below w.heap.size w W:=by rw [<- hW];exact (((mw _ _).alloc (my _) _).alloc (by simp only [zK];omega) _).alloc (by simp only [zK];omega) _
 have bT:W.heap[w.heap.size]? = some (.cells #[str [116],.int .i64 0,.slice none 0 0,.pointer none,.pointer none] 79 (0,0)):=by rw [<- hW];exact zU (zU (zG _ _))
 have bF:W.heap[w.heap.size+1]? = some (.cells #[str [102],.int .i64 0,.slice none 0 0,.pointer none,.pointer none] 79 (0,0)):=by
  rw [<- hW];refine zU ?_;have:=zG (w.alloc (.cells #[str [116],.int .i64 0,.slice none 0 0,.pointer none,.pointer none] 79)) (.cells #[str [102],.int .i64 0,.slice none 0 0,.pointer none,.pointer none] 79);rwa [zK] at this
 have bO:W.heap[w.heap.size+2]? = some (wU v (.pointer (some ⟨w.heap.size,0,none⟩)) (.pointer (some ⟨w.heap.size+1,0,none⟩)) (.slice none 0 0)):=by
  rw [<- hW];have:=zG ((w.alloc (.cells #[str [116],.int .i64 0,.slice none 0 0,.pointer none,.pointer none] 79)).alloc (.cells #[str [102],.int .i64 0,.slice none 0 0,.pointer none,.pointer none] 79)) (.cells #[str [],.int .i64 (v:Nat),.slice none 0 0,.pointer (some ⟨w.heap.size,0,none⟩),.pointer (some ⟨w.heap.size+1,0,none⟩)] 79);simp only [zK] at this;exact this
 have HW:=mj (mu hW (mu th (mu nV (mu bT (mu bF bO)))));clear hW th nV bT bF bO Fq aL AM ih hk;go_enter Tryz.func102,Tryz.ntmps102;go_upto_region 2 with (fail)
 rw [HW.out.1];have hk0W:W.cell? ⟨kb,0,none⟩=some (.slice ka t.args.length kc):=(HW.out.2.2.1.cell tH).trans Cp;go_wp2_with fail
 go_loopw [22] (fun i wr=>∃ (k:Nat) (sv:Value) (us:List Value),k<=t.args.length/\i=.int .i64 k/\Grow W (w.heap.size+2) (wU v (.pointer (some ⟨w.heap.size,0,none⟩)) (.pointer (some ⟨w.heap.size+1,0,none⟩))) 33 1 k (jV (ux (t.args.take k) n (n+t.args.length))) sv us wr) (fun i _=>t.args.length-(intOf i).toNat)
 case atStart=>exact ⟨0,_,_,Og _,rfl,by simpa [ux,jV] using Grow.start HW.out.2.2.2.2.2⟩
 case round =>
  rename_i wr;obtain ⟨k,sv,us,hk,rfl,nQ⟩:=hrel;obtain ⟨sa,sc,e⟩:=nQ.slice;subst e;have mm:wr.heap[w.heap.size+2]? = some (.cells #[str [],.int .i64 (v:Nat),.slice sa k sc,.pointer (some ⟨w.heap.size,0,none⟩),.pointer (some ⟨w.heap.size+1,0,none⟩)] 79 (0,0)):=nQ.blk;have th:=HW.out.2.1;have nw:Below w.heap.size w wr:=HW.out.2.2.1.trans (nQ.below.mono (by omega));obtain ⟨y0,y1,y2,y3,y4,yf⟩:=pG mm;have oT:wr.cell? ⟨kb,0,none⟩=some (.slice ka t.args.length kc):=(nw.cell tH).trans Cp;have HI:=mj (mu nQ (mu mm nw));clear nQ mm nw;by_cases m_:k<t.args.length
  ·have rF:(k:Int)<(t.args.length:Int):=by omega
   obtain ⟨Be,De,u2,d2,e,E2,GC,Ct,tf,rD⟩:=HA.out k m_;subst e;rw [xj,N3] at Ct;obtain ⟨a,ha,rfl⟩:=Ct;obtain ⟨kab,s2,rfl,_,_,_⟩:=zi rD;have Bo:zJ a<=15:=ml.out a (Oc ha);have Af:1+zJ a<=zJ t:=arg_atoms ha;have q2:wr.cell? ⟨Be,De+k,none⟩=some (.pointer (some ⟨kab,0,none⟩)):=(HI.out.2.2.cell GC).trans tf;have CC:=IH.out a (by omega) Bo F (.pointer (some ⟨kab,0,none⟩)) (n+k) (n+t.args.length) wr.drew ((Rep.below HI.out.2.2 (fun _ h=>h) rD).drew) (by omega) (by omega);rw [Pm,Pm] at CC;have CC:=mj CC;have An:=etas_take ha n (n+t.args.length);have HK:=mj (mu ha An);clear ha rD An tf;have Hi:=mj (mu (show IntKind.i64.wrap ((n:Int)+(k:Int))=(n:Int)+(k:Int) from IntWalk.i64_in _ (by omega)) (show IntKind.i64.wrap ((n:Int)+(t.args.length:Int))=(n:Int)+(t.args.length:Int) from IntWalk.i64_in _ (by omega)));have SX:Hid (∀ w',But (fun i=>(Nq sa k sc).ownBlock=some i) wr w'->w'.cell? ⟨w.heap.size+2,2,none⟩=some (.slice sa k sc)/\w'.cell? ⟨kb,0,none⟩=some (.slice (some ⟨Be,De,none⟩) t.args.length kc)):=by
    show ∀ w',_->_;intro w' nW;exact ⟨(nW.cell (mx wr _ y2) HI.out.1.not).trans y2,(nW.cell (mx wr _ oT) (fun e=>by have h1:=HI.out.1.fr _ e;have h1:w.heap.size+2<kb:=h1;omega)).trans oT⟩
   have iv:k+1<=maxLen:=by unfold maxLen;omega
   have sT:(k+1)*8<=140737488355328:=by omega
   clear y0 y1 y3 y4 yf;go_wp2_with fail
   refine wp_region_noPanic ?_;refine zB (fun w'=>But (fun i=>(Nq sa k sc).ownBlock=some i) wr w') (fun i=>i == 21) (by kernel_rfl) ?_;have mt:(fun w'=>But (fun i=>(Nq sa k sc).ownBlock=some i) wr w') wr.drew:=(But.refl _ wr).drew;refine tk [0,1,2,3,4,5,6,7,8,9,10,11,12,13,14] mt ?_;(intro d hd;simp [tkD] at hd;subst hd;simp only [tks,pQ,pZ,pS]);iterate 15 (refine ⟨?_,?_,?_⟩;rotate_left;· (intro oi ho;simp at ho;subst ho;refine Or.inl ⟨by rfl,fun w' nP=>?_⟩;obtain ⟨e0,e1⟩:=SX.out w' nP;have Fi:=Hi.out.1;go_simp;try with_reducible rfl))
   refine tC [15] mt ?_;refine tl (fun w' nP=>Hi.out.2) ?_;refine tz ?_;(refine on 16 ?_;intro o ho K' hK;simp at ho;subst ho;go_simp);go_at_call 102;(with_reducible refine CC.out.mono ?_);rintro C8 w6 ⟨vb,rfl,nJ,sX⟩;have sP:Below wr.heap.size wr w6:=(Below.drew (mw _ _)).trans nJ;have rY:Hid (But (fun i=>(Nq sa k sc).ownBlock=some i) wr w6):=But.ofBelow sP;have rZ:=HI.out.1.own6 sP (.cells #[.pointer (some ⟨vb,0,none⟩)] 33);have H6:=mj (mu sP sX);clear nJ sX sP;(refine hK.out _ _ (fun _=>rY.out) ?_;clear hK K';try simp only [pQ,pN,pZ,pS]);refine oC 17 (rY.out.alloc _) ?_;(refine on 18 ?_;intro o ho K' hK;simp at ho;subst ho);refine zS (by rfl) _ _ _ (by rfl) 33 (.pointer none) 1 8 Pq Tryz.infoB rfl (by decide) (.slice sa k sc) k us (by rfl) rZ _ 1 [.pointer (some ⟨vb,0,none⟩)] (by rfl) (zq.lit1 #[.pointer (some ⟨vb,0,none⟩)] rfl (by simp [Of]) _ (by rfl)) iv sT ?_;intro a' c' w7 nL mo nG;(refine hK.out _ _ (fun _=>(rY.out.alloc _).trans mo) ?_;clear hK K';try simp only [pQ,pN,pZ,pS]);have ru:=HI.out.1.cell7 H6.out.1 mo;have tD:w7.cell? ⟨w.heap.size+2,2,none⟩=some (.slice sa k sc)/\w7.frozen? ⟨w.heap.size+2,2,none⟩=false:=by rw [wU] at ru;exact ⟨by simp [GD,ru],by simp [N4,ru]⟩
   obtain ⟨Ad,aD⟩:=tD;have Ak:=mj ru;clear ru;refine oC 19 ((rY.out.alloc _).trans mo) ?_;refine oC 20 ((rY.out.alloc _).trans mo) ?_;refine oB 21 (fun h=>by simp at h) ?_;refine zY (by kernel_rfl) (N0 ?_) _;have hX:=HI.out.1.next (w8:=w7.setCell ⟨w.heap.size+2,2,none⟩ (.slice a' (k+1) c')) H6.out.1 (zW.one H6.out.2) nL mo nG (by rw [zy Ak.out];rfl) (uP _ _ _ _);have tP:jV (ux (t.args.take k) n (n+t.args.length))++[k_ (eta a (n+k) (n+t.args.length))]=jV (ux (t.args.take (k+1)) n (n+t.args.length)):=by rw [HK.out.2,pY]
   rw [tP] at hX;have HN:=mj hX;clear hX tP nL mo nG mt rZ Ad aD;go_wp2_with fail
   go_roundw
   case rel=>exact ⟨k+1,_,_,by omega,by go_num,HN.out⟩
   case measure=>simp [intOf];omega
  ·obtain rfl:k=t.args.length:=by omega
   clear y0 y1 y2 y3 y4 yf;go_wp2_with fail
   go_ret;refine ⟨w.heap.size+2,rfl,HI.out.2.2,?_⟩;have sB:=HI.out.1.sl;rw [Oh] at sB;rw [eta_eq,k_,x5,jv];have bT:=(HI.out.1.below.block w.heap.size (by omega)).trans HW.out.2.2.2.1;have bF:=(HI.out.1.below.block (w.heap.size+1) (by omega)).trans HW.out.2.2.2.2.1;refine ⟨_,_,rfl,by show w.heap.size<=w.heap.size+2;omega,HI.out.2.1,?_⟩;refine zQ.2 ⟨_,_,rfl,zH.2 rfl,zQ.2 ⟨_,_,rfl,zH.2 rfl,zQ.2 ⟨_,_,rfl,sB.weak fun i (h:w.heap.size+2<i)=>by show w.heap.size<=i;omega,zQ.2 ⟨_,_,rfl,gV bT (my _),zQ.2 ⟨_,_,rfl,gV bF (by omega),zC.2 rfl⟩⟩⟩⟩⟩
structure jt (F0:Nat->Prop) (w:World) (P:Nat) (o:Value->Obj) (e:TypeId) (sz k:Nat) (cs:List DV) (sv:Value) (us:List Value) (wr:World):Prop where
 below:Below P w wr
 blk:wr.heap[P]? = some (o sv)
 own:Own wr e sz sv k us
 rep:zW (fun i=>(F0 i\/P<i)/\sv.ownBlock≠some i) wr cs us
 fr:∀ g,sv.ownBlock=some g->P<g
theorem jt.start {F0:Nat->Prop} {w:World} {P:Nat} {o:Value->Obj} {e:TypeId} {sz:Nat} (h:w.heap[P]? = some (o (.slice none 0 0))):jt F0 w P o e sz 0 [] (.slice none 0 0) [] w :=
 ⟨mw _ _,h,OL _ _ _ _,by rw [zC],fun g hg=>by simp [N7] at hg⟩
theorem jt.slice {F0:Nat->Prop} {w:World} {P:Nat} {o:Value->Obj} {e:TypeId} {sz k:Nat} {cs:List DV} {sv:Value} {us:List Value} {wr:World} (h:jt F0 w P o e sz k cs sv us wr):∃ a c,sv=.slice a k c:=h.own.slice
theorem jt.next {F0:Nat->Prop} {w:World} {P:Nat} {o:Value->Obj} {e:TypeId} {sz k:Nat} {cs:List DV} {sv:Value} {us:List Value} {wr:World} (h:jt F0 w P o e sz k cs sv us wr) (hF0:∀ i,F0 i->i<P)
 {w6 w7 w8:World} {ob:Obj} {ds:List DV} {news:List Value} {sv':Value} (nJ:Below wr.heap.size wr w6) (sX:zW (fun i=>F0 i\/wr.heap.size<=i) w6 ds news)
 (nL:Own w7 e sz sv' (k+1) (us++news)) (mo:But (fun b=>sv.ownBlock=some b) (w6.alloc ob) w7) (nG:∀ g,sv'.ownBlock=some g->sv.ownBlock=some g\/g=(w6.alloc ob).heap.size)
 (h8:w8.heap[P]? = some (o sv')) (rK:But (fun b=>b=P) w7 w8):jt F0 w P o e sz (k+1) (cs++ds) sv' (us++news) w8:=by
 have hz6:=nJ.size;have JM:=mo.size;rw [zK] at JM;have Jn:=zZ h.blk;have hsv:∀ i,sv.ownBlock=some i->P<i/\i<wr.heap.size:=fun i e=>⟨h.fr i e,h.own.lt e⟩;have past:∀ (i:Nat) (x:Obj),i≠P->sv.ownBlock≠some i->w6.heap[i]? = some x->w8.heap[i]? = some x:=fun i x h1 h2 hx=>by
  have hl:=zZ hx;rw [rK.block i (by omega) h1,mo.block i (by rw [zK];omega) h2,Below.heap_alloc _ _ _ hl];exact hx
 have sZ:∀ g,sv'.ownBlock=some g->sv.ownBlock=some g\/w6.heap.size<g:=fun g hg=>by
  rcases nG g hg with e | e
  ·exact .inl e
  ·rw [zK] at e;exact .inr (by omega)
 refine ⟨?_,h8,nL.keep fun g x hg hx=>?_,zW.append ?_ ?_,fun g hg=>?_⟩
 ·have h1:Below P w (w6.alloc ob):=(h.below.trans (nJ.mono (TI Jn))).alloc (by omega) _;have h2:Below P w w7:=h1.trans (mo.toBelow (by rw [zK];omega) fun i hi e=>by have:=hsv i e;omega);exact h2.trans (rK.toBelow (by omega) fun i hi e=>by omega)
 ·rw [rK.block g (zZ hx) (fun e=>by rcases sZ g hg with e' | e';· have:=hsv g e';omega
                                    ·omega)];exact hx
 ·have hk:∀ i x,((F0 i\/P<i)/\sv.ownBlock≠some i)->wr.heap[i]? = some x->((F0 i\/P<i)/\sv'.ownBlock≠some i)/\w8.heap[i]? = some x:=fun i x hi hx=>by
   refine ⟨⟨hi.1,fun e2=>?_⟩,past i x (by rcases hi.1 with h | h;have:=hF0 i h;omega;omega) hi.2 (by rw [nJ.block i (zZ hx)];exact hx)⟩;rcases sZ i e2 with e' | e'
   ·exact hi.2 e'
   ·have:=zZ hx;omega
  exact (Rep.keep hk).2 _ _ h.rep
 ·have hk:∀ i x,(F0 i\/wr.heap.size<=i)->w6.heap[i]? = some x->((F0 i\/P<i)/\sv'.ownBlock≠some i)/\w8.heap[i]? = some x:=fun i x hi0 hx=>by
   have hi:F0 i/\i<P\/wr.heap.size<=i:=hi0.elim (fun h=>.inl ⟨h,hF0 i h⟩) .inr;refine ⟨⟨hi0.elim .inl (fun h=>.inr (by omega)),fun e2=>?_⟩,past i x (by rcases hi with h | h;have:=h.2;omega;omega) (fun e2=>by have:=hsv i e2;rcases hi with h | h;have:=h.2;omega;omega) hx⟩;rcases sZ i e2 with e' | e'
   ·have:=hsv i e';rcases hi with h | h;have:=h.2;omega;omega
   ·have:=zZ hx;omega
  exact (Rep.keep hk).2 _ _ sX
 ·rcases sZ g hg with e' | e'
  ·exact h.fr g e'
  ·omega
theorem jt.own6 {F0:Nat->Prop} {w:World} {P:Nat} {o:Value->Obj} {e:TypeId} {sz k:Nat} {cs:List DV} {sv:Value} {us:List Value} {wr:World} (h:jt F0 w P o e sz k cs sv us wr) {w6:World} (nJ:Below wr.heap.size wr w6) (ob:Obj):Own (w6.alloc ob) e sz sv k us :=
 (h.own.keep (w':=w6) fun g _ _ hx=>by rw [nJ.block g (zZ hx)];exact hx).alloc ob
theorem jt.not {F0:Nat->Prop} {w:World} {P:Nat} {o:Value->Obj} {e:TypeId} {sz k:Nat} {cs:List DV} {sv:Value} {us:List Value} {wr:World} (h:jt F0 w P o e sz k cs sv us wr):¬ sv.ownBlock=some P:=fun e=>by have:=h.fr P e;omega
theorem jt.sl {F0:Nat->Prop} {w:World} {P:Nat} {o:Value->Obj} {e:TypeId} {sz k:Nat} {cs:List DV} {sv:Value} {us:List Value} {wr:World} (h:jt F0 w P o e sz k cs sv us wr):Rep (fun i=>F0 i\/P<i) wr (.sl e sz k cs) sv :=
 h.own.rep (fun g hg=>.inr (h.fr g hg)) ((Rep.keep fun _ _ hi hx=>⟨hi.1,hx⟩).2 _ _ h.rep)
theorem jt.cell7 {F0:Nat->Prop} {w:World} {P:Nat} {o:Value->Obj} {e:TypeId} {sz k:Nat} {cs:List DV} {sv:Value} {us:List Value} {wr:World} (h:jt F0 w P o e sz k cs sv us wr) {w6 w7:World} {ob:Obj} (nJ:Below wr.heap.size wr w6) (mo:But (fun b=>sv.ownBlock=some b) (w6.alloc ob) w7) :
 w7.heap[P]? = some (o sv):=by
 have Jn:=zZ h.blk;have:=nJ.size;rw [mo.block P (by rw [zK];omega) h.not,Below.heap_alloc _ _ _ (by omega),nJ.block P Jn];exact h.blk
def PtrPost (F:Nat->Prop) (w:World) (b:Bd) (en:Ending) (w':World):Prop :=
 ∃ p,en=.returned (.pointer (some ⟨p,0,none⟩))/\Below w.heap.size w w'/\Rep (fun i=>F i\/w.heap.size<=i) w' (k_ b) (.pointer (some ⟨p,0,none⟩))
theorem ask_new {F:Nat->Prop} {w:World} {v:Nat} {ss:List Bd} {y n:Bd} {b:Nat} {sv yv nv:Value} (hb:F b) (hc:w.heap[b]? = some (.cells #[str [],.int .i64 (v:Nat),sv,yv,nv] 79 (0,0)))
 (hs:Rep F w (.sl 33 1 ss.length (jV ss)) sv) (hy:Rep F w (k_ y) yv) (hn:Rep F w (k_ n) nv):Rep F w (k_ (.ask v ss y n)) (.pointer (some ⟨b,0,none⟩)):=by
 rw [k_,jv];exact ⟨_,_,rfl,hb,hc,zQ.2 ⟨_,_,rfl,zH.2 rfl,zQ.2 ⟨_,_,rfl,zH.2 rfl,zQ.2 ⟨_,_,rfl,hs,zQ.2 ⟨_,_,rfl,hy,zQ.2 ⟨_,_,rfl,hn,zC.2 rfl⟩⟩⟩⟩⟩⟩
theorem fits2_any (F:Nat->Prop) (w:World) (b:Bd) (v:Value) (hv:Rep F w (k_ b) v) (hn:zX b<=100000) :
 Calls KD 65 #[v] w fun en w'=>en=.returned (.bool (decide (zX b<=200/\kz b<=100)))/\Below w.heap.size w w':=by
 obtain ⟨vb,rfl⟩:=za hv;have hL:Lim 100000:=by unfold Lim;omega
 have C1:=mj (fM 100000 b hn hL F w _ hv);go_enter Tryz.func65,Tryz.ntmps65;go_wp2_with fail
 (with_reducible refine C1.out.mono ?_)
 rintro en w1 ⟨rfl,mi⟩;have C2:=mj (depth_any 100000 b hn hL F w1 _ (Rep.below mi (fun _ h=>h) hv));have HB:=mj mi;clear mi;by_cases aQ:zX b<=200
 ·have h1:decide ((zX b:Int)<=200)=true:=decide_eq_true (by omega);go_wp2_with fail
  (with_reducible refine C2.out.mono ?_);rintro en w2 ⟨rfl,me⟩
  have hb:=zzT HB.out me;clear me;by_cases i1:kz b<=100
  focus
   have h2:decide ((kz b:Int)<=100)=true:=decide_eq_true (by omega);have HE:=mj (mu (show decide (zX b<=200/\kz b<=100)=true from decide_eq_true ⟨aQ,i1⟩) hb);clear hb
  rotate_left
  focus
   have h2:decide ((kz b:Int)<=100)=false:=decide_eq_false (by omega);have HE:=mj (mu (show decide (zX b<=200/\kz b<=100)=false from decide_eq_false (by omega)) hb);clear hb
  all_goals
   go_wp2_with fail
   go_ret;rw [HE.out.1];exact ⟨rfl,HE.out.2⟩
 ·have h1:decide ((zX b:Int)<=200)=false:=decide_eq_false (by omega);have HE:=mj (show decide (zX b<=200/\kz b<=100)=false from decide_eq_false (by omega));go_wp2_with fail
  go_ret;rw [HE.out];exact ⟨rfl,HB.out⟩
theorem kindsOf_any (F:Nat->Prop) (ns:List Nm) (lv:Value) (w:World) (hn:ns.length<=1000) (hr:Rep F w (.sl 109 2 ns.length (jm ns)) lv) :
 Calls KD 104 #[lv] w fun en w'=>∃ a c,en=.returned (.slice a ns.length c)/\Below w.heap.size w w'/\Rep (fun i=>F i\/w.heap.size<=i) w' (.sl 32 1 ns.length (qg (kinds ns))) (.slice a ns.length c):=by
 obtain ⟨la,lc,rfl,_,ml⟩:=AtNms.of hr;have AT:=mj ml;clear ml hr;go_enter Tryz.func104,Tryz.ntmps104;go_wp2_with fail
 go_loopw [3,8] (fun ov i wr=>∃ k:Nat,k<=ns.length/\i=.int .i64 k/\∃ a c us,ov=.slice a k c/\Own wr 32 1 (.slice a k c) k us/\zW F w (qg (kinds (ns.take k))) us/\Below w.heap.size w wr/\(∀ g,(Nq a k c).ownBlock=some g->w.heap.size<=g)) (fun _ i _=>ns.length-(intOf i).toNat)
 case atStart=>exact ⟨0,Og _,rfl,none,0,[],rfl,OL _ _ _ _,by simp [kinds,qg,zC],mw _ _,fun g h=>by simp [N7] at h⟩
 case round =>
  rename_i wr;obtain ⟨k,hk,rfl,a,c,us,rfl,ho,hus,hb,hf⟩:=hrel;have HO:=mj ho;have HF:=mj hf;have HB:=mj hb;have HU:=mj hus;clear ho hf hb hus;by_cases m_:k<ns.length
  ·have rF:(k:Int)<(ns.length:Int):=by omega
   obtain ⟨b,o,x,t,kb,e,nw,hp,h1,h2,rD⟩:=AT.out k m_;subst e;have q0:=(HB.out.cell (p:=⟨b,o+k*2,none⟩) nw).trans h1;have q1:=(HB.out.cell (p:=⟨b,o+k*2+1,none⟩) nw).trans h2;have HP:=mj (mu hp rD);clear hp rD h1 h2;go_wp2_with (at_builtin;refine zE rfl _ _ 110 rfl 32 (.pointer none) 1 8 Tryz.underlying110 Tryz.infoK rfl (by decide) (.slice a k c) k us rfl ?c1 _ 1 [.pointer (some ⟨kb,0,none⟩)] rfl ?c2 ?c3 ?c4 ?_)
   case c1=>exact (HO.out.alloc _).alloc _
   case c2=>exact zq.lit1 #[.pointer (some ⟨kb,0,none⟩)] rfl (by simp [Of]) _ (by simp)
   case c3=>unfold maxLen;omega
   case c4=>omega
   intro a' c' w7 nL mo nG;have hsz:w.heap.size<=wr.heap.size:=HB.out.size;have tY:Below w.heap.size w ((wr.alloc (.cells #[str x,.pointer (some ⟨kb,0,none⟩)] 109)).alloc (.cells #[.pointer (some ⟨kb,0,none⟩)] 32)):=(HB.out.alloc HB.out.size _).alloc (by rw [zK];omega) _;have tX:Below w.heap.size w w7:=tY.trans (mo.toBelow (by rw [zK,zK];omega) fun i hi e=>by have:=HF.out i e;omega);have oY:∀ g,(Nq a' (k+1) c').ownBlock=some g->w.heap.size<=g:=by
    intro g h;rcases nG g h with h | h
    ·exact HF.out g h
    ·omega
   have hu7:zW F w (qg (kinds (ns.take (k+1)))) (us++[.pointer (some ⟨kb,0,none⟩)]):=by
    have e:kinds (ns.take (k+1))=kinds (ns.take k)++[t]:=by
     rw [OG,HP.out.1];simp [kinds]
    rw [e,dW];exact HU.out.append (zQ.2 ⟨_,_,rfl,HP.out.2,zC.2 rfl⟩)
   have HA:=mj (mu nL (mu tX (mu oY hu7)));clear nL tX oY mo nG hu7 tY;go_wp2_with fail
   go_roundw
   case rel=>exact ⟨k+1,by omega,by go_num,a',c',_,rfl,HA.out.1,HA.out.2.2.2,HA.out.2.1,HA.out.2.2.1⟩
   case measure=>simp [intOf];omega
  ·obtain rfl:k=ns.length:=by omega
   go_wp2_with fail
   refine bodyPost_ret (v:=.slice a ns.length c) (by simp [results,Tryz.results104,go_sem]) rfl ?_;have hU:=HU.out;rw [Oh] at hU;exact ⟨a,c,rfl,HB.out,HO.out.rep (fun g hg=>.inr (HF.out g hg)) (zW.below HB.out (fun _ h=>.inl h) hU)⟩
def AnsSaid (N:Nat):Prop:=∀ (F:Nat->Prop) (b y n:Bd) (bv yv nv:Value) (w:World),zX b<=N->wfB b->Rep F w (k_ b) bv->Rep F w (k_ y) yv->Rep F w (k_ n) nv ->
 Calls KD 106 #[bv,yv,nv] w (PtrPost F w (qW b y n))
theorem ans_step (N:Nat) (ih:AnsSaid N):AnsSaid (N+1):=by
 intro F b y n bv yv nv w hsz Am hb hy hn;obtain ⟨yb,rfl⟩:=za hy;obtain ⟨nb,rfl⟩:=za hn;cases b with
 | leaf c =>
   obtain ⟨a0,sl,rfl,_,mm,_⟩:=wI hb;have r0:w.cell? ⟨a0,0,none⟩=some (str [c]):=by simp [GD,mm]
   rw [wfB] at Am;have HY:=mj hy;have HN:=mj hn;have HB:=mj hb;clear mm ih hy hn hb;rcases Am with rfl | rfl | rfl
   ·go_enter Q9,QT;go_wp2_with fail
    go_ret;exact ⟨_,rfl,mw _ _,by rw [qW];simpa using HY.out.weak fun _ h=>.inl h⟩
   ·go_enter Q9,QT;go_wp2_with fail
    go_ret;exact ⟨_,rfl,mw _ _,by rw [qW];simpa using HN.out.weak fun _ h=>.inl h⟩
   ·go_enter Q9,QT;go_wp2_with fail
    go_ret;exact ⟨_,rfl,mw _ _,by rw [qW];simpa using HB.out.weak fun _ h=>.inl h⟩
 | ask v ss yy nn =>
   obtain ⟨a0,sl,y0,n0,rfl,_,mm,Ao,oh,hn0⟩:=yX hb;obtain ⟨sa,sc,rfl,_,_,_⟩:=zP Ao;obtain ⟨yp,rfl⟩:=za oh;obtain ⟨np,rfl⟩:=za hn0;have r0:w.cell? ⟨a0,0,none⟩=some (str []):=by simp [GD,mm]
   have r1:w.cell? ⟨a0,1,none⟩=some (.int .i64 (v:Nat)):=by simp [GD,mm]
   have r2:w.cell? ⟨a0,2,none⟩=some (.slice sa ss.length sc):=by simp [GD,mm]
   have r3:w.cell? ⟨a0,3,none⟩=some (.pointer (some ⟨yp,0,none⟩)):=by simp [GD,mm]
   have r4:w.cell? ⟨a0,4,none⟩=some (.pointer (some ⟨np,0,none⟩)):=by simp [GD,mm]
   have EU:=zZ mm;have SX:Hid (∀ w',Below w.heap.size w w'->w'.cell? ⟨a0,1,none⟩=some (.int .i64 (v:Nat))/\w'.cell? ⟨a0,2,none⟩=some (.slice sa ss.length sc)/\w'.cell? ⟨a0,3,none⟩=some (.pointer (some ⟨yp,0,none⟩))/\w'.cell? ⟨a0,4,none⟩=some (.pointer (some ⟨np,0,none⟩))):=by
    show ∀ w',_->_;intro w' h;exact ⟨(h.cell EU).trans r1,(h.cell EU).trans r2,(h.cell EU).trans r3,(h.cell EU).trans r4⟩
   rw [zX] at hsz;rw [wfB] at Am;have C0:=mj (fun wz (h:Below w.heap.size w wz)=>ih F yy y n _ _ _ wz (by omega) Am.2.1 (Rep.below h (fun _ h=>h) oh) (Rep.below h (fun _ h=>h) hy) (Rep.below h (fun _ h=>h) hn));have C1:=mj (fun wz (h:Below w.heap.size w wz)=>ih F nn y n _ _ _ wz (by omega) Am.2.2 (Rep.below h (fun _ h=>h) hn0) (Rep.below h (fun _ h=>h) hy) (Rep.below h (fun _ h=>h) hn));have HS:=mj Ao;clear ih mm Ao oh hn0 hb hy hn Am r1 r2 r3 r4;go_enter Q9,QT;go_wp2_with fail
   refine wp_region_noPanic ?_;refine zB (fun w'=>Below w.heap.size w w') (fun _=>false) (by kernel_rfl) ?_;have mt:(fun w'=>Below w.heap.size w w') w.drew:=Below.drew (mw _ _);refine tC [0,1,2,3,4,5,6,7,8,9,10,11,12,13,15,16,17,18,19,20] mt ?_;iterate 20 (refine tl (fun w' nP=>SX.out w' nP) ?_)
   refine tz ?_;(refine on 14 ?_;intro o ho K' hK;simp at ho;subst ho;go_simp);go_at_call 106;(with_reducible refine (C0.out _ mt).mono ?_);rintro en v0 ⟨p0,rfl,nN,Fl⟩;have sA:Hid (Below w.heap.size w v0):=mt.trans nN;have HR0:Hid (Rep (fun i=>F i\/w.heap.size<=i) v0 (k_ (qW yy y n)) (.pointer (some ⟨p0,0,none⟩))):=Fl.weak fun i h=>by rcases h with h | h;exact .inl h;exact .inr (h)
   have Kq:=mj nN;clear nN Fl;(refine hK.out _ _ (fun _=>sA.out) ?_;clear hK K';try simp only [pQ,pN,pZ,pS]);have hS14:=sA.out;(refine on 21 ?_;intro o ho K' hK;simp at ho;subst ho;go_simp);go_at_call 106;(with_reducible refine (C1.out _ sA.out).mono ?_);rintro en v1 ⟨p1,rfl,mi,sJ⟩;have nE:Hid (Below w.heap.size w v1):=zzT sA.out mi;have Hm:Hid (Rep (fun i=>F i\/w.heap.size<=i) v1 (k_ (qW nn y n)) (.pointer (some ⟨p1,0,none⟩))):=sJ.weak fun i h=>by rcases h with h | h;exact .inl h;exact .inr (mh sA.out.size h)
   have DR:=mj mi;clear mi sJ;(refine hK.out _ _ (fun _=>nE.out) ?_;clear hK K';try simp only [pQ,pN,pZ,pS]);have hS21:=nE.out;refine tC [22] hS21 ?_;refine tx ?_;refine tz ?_;refine oC 23 (nE.out.alloc nE.out.size _) ?_;refine oC 24 (nE.out.alloc nE.out.size _) ?_;refine zY (by kernel_rfl) (N0 ?_) _;go_wp2_with fail
   go_ret;refine ⟨v1.heap.size,rfl,nE.out.alloc nE.out.size _,?_⟩;rw [qW];have k1:∀ i x,(F i\/w.heap.size<=i)->v1.heap[i]? = some x->(F i\/w.heap.size<=i)/\(v1.alloc (.cells #[str [],.int .i64 (v:Nat),.slice sa ss.length sc,.pointer (some ⟨p0,0,none⟩),.pointer (some ⟨p1,0,none⟩)] 79)).heap[i]? = some x:=fun i x h hx=>⟨h,zU hx⟩;exact ask_new (.inr nE.out.size) (zG _ _) ((Rep.keep k1).1 _ _ (Rep.below nE.out (fun _ h=>.inl h) HS.out)) ((Rep.keep k1).1 _ _ (Rep.below DR.out (fun _ h=>h) HR0.out)) ((Rep.keep k1).1 _ _ Hm.out)
theorem answered_any (N:Nat):AnsSaid N:=by
 induction N with
 | zero=>exact fun F b y n bv yv nv w h=>by have:=kW b;omega
 | succ N ih=>exact ans_step N ih
theorem uh (n k:Nat):∀ ss:List Bd,ze ss n k=ss.map fun b=>kH b n k
 | []=>by rw [ze];rfl
 | b::bs=>by rw [ze,uh n k bs];rfl
theorem jo {ss:List Bd} {j:Nat} {s:Bd} (h:ss[j]? = some s) (n k:Nat):ze (ss.take (j+1)) n k=ze (ss.take j) n k++[kH s n k]:=by
 rw [uh,uh,OG,h];simp
theorem cw:∀ (bs:List Bd),cJ bs->∀ (k:Nat) (b:Bd),bs[k]? = some b->lvB b
 | [],_,k,b,h=>by simp at h
 | p::ps,ho,0,b,h=>by simp at h;subst h;rw [cJ] at ho;exact ho.1
 | p::ps,ho,k+1,b,h=>by rw [cJ] at ho;exact cw ps ho.2 k b (by simpa using h)
def RaSaid (N:Nat):Prop:=∀ (F:Nat->Prop) (b:Bd) (n k:Nat) (bv:Value) (w:World),zX b<=N->zX b<=1000000->lvB b->n<=10000->k<=10000->Rep F w (k_ b) bv ->
 Calls KD 105 #[bv,.int .i64 (n:Nat),.int .i64 (k:Nat)] w (PtrPost F w (kH b n k))
theorem ra_step (N:Nat) (ih:RaSaid N):RaSaid (N+1):=by
 intro F b n k bv w hN hM sO hn hk hb;cases b with
 | leaf c =>
   obtain ⟨bb,rfl⟩:=za hb;have CL:=mj (y_ F w c _ hb);have HB:=mj hb;clear hb ih;go_enter S_,SH;go_wp2_with fail
   (with_reducible refine CL.out.mono ?_);rintro en w1 ⟨rfl,e⟩
   subst w1;go_wp2_with fail
   go_ret;exact ⟨_,rfl,mw _ _,by rw [kH];exact HB.out.weak fun _ h=>.inl h⟩
 | ask v ss yy nn =>
   obtain ⟨a0,sl,y0,n0,rfl,_,mm,Ao,oh,hn0⟩:=yX hb;obtain ⟨sa,sc,rfl,_,_,MU⟩:=zP Ao;obtain ⟨yp,rfl⟩:=za oh;obtain ⟨np,rfl⟩:=za hn0;have r1:w.cell? ⟨a0,1,none⟩=some (.int .i64 (v:Nat)):=by simp [GD,mm]
   have r2:w.cell? ⟨a0,2,none⟩=some (.slice sa ss.length sc):=by simp [GD,mm]
   have r3:w.cell? ⟨a0,3,none⟩=some (.pointer (some ⟨yp,0,none⟩)):=by simp [GD,mm]
   have r4:w.cell? ⟨a0,4,none⟩=some (.pointer (some ⟨np,0,none⟩)):=by simp [GD,mm]
   have EU:=zZ mm;have SX:Hid (∀ w',Below w.heap.size w w'->w'.cell? ⟨a0,1,none⟩=some (.int .i64 (v:Nat))/\w'.cell? ⟨a0,3,none⟩=some (.pointer (some ⟨yp,0,none⟩))/\w'.cell? ⟨a0,4,none⟩=some (.pointer (some ⟨np,0,none⟩))):=by
    show ∀ w',_->_;intro w' h;exact ⟨(h.cell EU).trans r1,(h.cell EU).trans r3,(h.cell EU).trans r4⟩
   rw [zX] at hN hM;rw [lvB] at sO;have CL:=mj (xq F w v ss yy nn _ hb);have C0:=mj (fun wz (h:Below w.heap.size w wz)=>ih F yy n k _ wz (by omega) (by omega) sO.2.2.1 hn hk (Rep.below h (fun _ h=>h) oh));have C1:=mj (fun wz (h:Below w.heap.size w wz)=>ih F nn n k _ wz (by omega) (by omega) sO.2.2.2 hn hk (Rep.below h (fun _ h=>h) hn0));have HS:=mj MU;have HQ:=mj (mu hN (mu hM sO));have IH:=mj ih;have hvb:v<=10000:=sO.1;have sB:ss.length<=1000000:=by have:=qL ss;omega
   clear ih mm Ao oh hn0 hb r1 r3 r4 MU hN hM sO;go_enter S_,SH;go_wp2_with fail
   (with_reducible refine CL.out.mono ?_);rintro en w1 ⟨rfl,e⟩
   subst w1;go_wp2_with fail
   refine wp_region_noPanic ?_;refine zB (fun w'=>Below w.heap.size w w') (fun _=>false) (by kernel_rfl) ?_;have mt:(fun w'=>Below w.heap.size w w') w.drew:=Below.drew (mw _ _);refine tC [0,1,2,3,4,5,6,7,8,9,11,12,13,14,15,16] mt ?_;iterate 16 (refine tl (fun w' nP=>SX.out w' nP) ?_)
   refine tz ?_;(refine on 10 ?_;intro o ho K' hK;simp at ho;subst ho;go_simp);go_at_call 105;(with_reducible refine (C0.out _ mt).mono ?_);rintro en v0 ⟨p0,rfl,nN,Fl⟩;have sA:Hid (Below w.heap.size w v0):=mt.trans nN;have HR0:Hid (Rep (fun i=>F i\/w.heap.size<=i) v0 (k_ (kH yy n k)) (.pointer (some ⟨p0,0,none⟩))):=Fl.weak fun i h=>by rcases h with h | h;exact .inl h;exact .inr (h)
   have Kq:=mj nN;clear nN Fl;(refine hK.out _ _ (fun _=>sA.out) ?_;clear hK K';try simp only [pQ,pN,pZ,pS]);have Jm:=sA.out;(refine on 17 ?_;intro o ho K' hK;simp at ho;subst ho;go_simp);go_at_call 105;(with_reducible refine (C1.out _ sA.out).mono ?_);rintro en v1 ⟨p1,rfl,mi,sJ⟩;have nE:Hid (Below w.heap.size w v1):=zzT sA.out mi;have Hm:Hid (Rep (fun i=>F i\/w.heap.size<=i) v1 (k_ (kH nn n k)) (.pointer (some ⟨p1,0,none⟩))):=sJ.weak fun i h=>by rcases h with h | h;exact .inl h;exact .inr (mh sA.out.size h)
   have DR:=mj mi;clear mi sJ;(refine hK.out _ _ (fun _=>nE.out) ?_;clear hK K';try simp only [pQ,pN,pZ,pS]);have Gk:=nE.out;refine tC [18] Gk ?_;refine tx ?_;refine tz ?_;refine oC 19 (nE.out.alloc nE.out.size _) ?_;refine oC 20 (nE.out.alloc nE.out.size _) ?_;refine zY (by kernel_rfl) (N0 ?_) _;have blkP:(v1.alloc (.cells #[str [],.int .i64 (v:Nat),.slice none 0 0,.pointer (some ⟨p0,0,none⟩),.pointer (some ⟨p1,0,none⟩)] 79)).heap[v1.heap.size]? = some (.cells #[str [],.int .i64 (v:Nat),.slice none 0 0,.pointer (some ⟨p0,0,none⟩),.pointer (some ⟨p1,0,none⟩)] 79 (0,0)):=zG _ _;have Cx:Below v1.heap.size v1 (v1.alloc (.cells #[str [],.int .i64 (v:Nat),.slice none 0 0,.pointer (some ⟨p0,0,none⟩),.pointer (some ⟨p1,0,none⟩)] 79)):=(mw _ _).alloc (my _) _;obtain ⟨V,hV⟩:=zzN (v1.alloc (.cells #[str [],.int .i64 (v:Nat),.slice none 0 0,.pointer (some ⟨p0,0,none⟩),.pointer (some ⟨p1,0,none⟩)] 79));rw [hV] at blkP Cx ⊢;obtain ⟨P,hP⟩:=zzN (v1.heap.size);rw [hP] at blkP Cx ⊢;have GA:w.heap.size<=P:=by rw [<- hP];exact nE.out.size
   have NH:=mj (Rep.below (F':=fun i=>F i\/w.heap.size<=i) DR.out (fun _ h=>h) HR0.out);clear hV HR0 DR Kq CL C0 C1;obtain ⟨z0,z1,z2,z3,z4,zf⟩:=pG blkP;have B3:=zf 1;clear zf;have HP:=mj (mu blkP Cx);clear blkP Cx;by_cases hv:n<=v
   ·have hvI:(n:Int)<=(v:Int):=by omega
    have tL:IntKind.i64.wrap ((v:Int)+(k:Int))=(v:Int)+(k:Int):=IntWalk.i64_in _ (by omega);go_upto_region 6 with (fail)
    obtain ⟨W,hW⟩:=zzN (V.setCell ⟨P,1,none⟩ (.int .i64 ((v:Int)+(k:Int))));rw [hW];have M2:W.heap[P]? = some (wU (v+k) (.pointer (some ⟨p0,0,none⟩)) (.pointer (some ⟨p1,0,none⟩)) (.slice none 0 0)):=by
     rw [<- hW];rw [zy HP.out.1,wU,Pm];rfl
    have Is:Below P v1 W:=by rw [<- hW];exact HP.out.2.setCell (p:=⟨P,1,none⟩) (my _) _
    have BA:Below w.heap.size w W:=nE.out.trans (Is.mono GA);have q2:=(BA.cell (p:=⟨a0,2,none⟩) EU).trans r2;have HW:=mj (mu M2 (mu Is BA));clear hW M2 Is BA z0 z1 z2 z3 z4 B3 r2;go_wp2_with fail
    go_loopw [53] (fun i wr=>∃ (j:Nat) (sv:Value) (us:List Value),j<=ss.length/\i=.int .i64 j/\jt (fun i=>F i/\i<w.heap.size) W P (wU (v+k) (.pointer (some ⟨p0,0,none⟩)) (.pointer (some ⟨p1,0,none⟩))) 33 1 j (jV (ze (ss.take j) n k)) sv us wr) (fun i _=>ss.length-(intOf i).toNat)
    case atStart=>exact ⟨0,_,_,Og _,rfl,by simpa [ze,jV] using jt.start HW.out.1⟩
    case round =>
     rename_i wr;obtain ⟨j,sv,us,hj,rfl,nQ⟩:=hrel;obtain ⟨ga,gc,e⟩:=nQ.slice;subst e;have mm:wr.heap[P]? = some (.cells #[str [],.int .i64 ((v+k:Nat):Int),.slice ga j gc,.pointer (some ⟨p0,0,none⟩),.pointer (some ⟨p1,0,none⟩)] 79 (0,0)):=nQ.blk;have nw:Below w.heap.size w wr:=HW.out.2.2.trans (nQ.below.mono GA);obtain ⟨y0,y1,y2,y3,y4,yf⟩:=pG mm;have HI:=mj (mu nQ (mu mm nw));clear nQ mm nw;clear y0 y1 y3 y4 yf q2;by_cases m_:j<ss.length
     ·have rF:(j:Int)<(ss.length:Int):=by omega
      obtain ⟨sb,so,su,sd,e,_,K_,oK,AF,Ea⟩:=HS.out j m_;subst e;rw [xv,N3] at oK;obtain ⟨s,hs,rfl⟩:=oK;obtain ⟨sp,rfl⟩:=za Ea;have KZ:=vo (Oc hs);have q3:wr.cell? ⟨sb,so+j,none⟩=some (.pointer (some ⟨sp,0,none⟩)):=(HI.out.2.2.cell (p:=⟨sb,so+j,none⟩) K_).trans AF;have D_:Rep (fun i=>F i/\i<w.heap.size) w (k_ s) (.pointer (some ⟨sp,0,none⟩)):=(Rep.keep fun i x h hx=>⟨⟨h,zZ hx⟩,hx⟩).1 _ _ Ea;have CC:=mj (IH.out (fun i=>F i/\i<w.heap.size) s n k (.pointer (some ⟨sp,0,none⟩)) wr.drew (by have:=HQ.out.1;omega) (by have:=HQ.out.2.1;omega) (cw ss HQ.out.2.2.2.1 j s hs) hn hk (Rep.below HI.out.2.2 (fun _ h=>h) D_).drew);have HK:=mj (jo hs n k);have SY:Hid (∀ w',But (fun i=>(Nq ga j gc).ownBlock=some i) wr w'->w'.cell? ⟨P,2,none⟩=some (.slice ga j gc)/\True):=by
       show ∀ w',_->_;intro w' nW;exact ⟨(nW.cell (mx wr _ y2) HI.out.1.not).trans y2,trivial⟩
      have iv:j+1<=maxLen:=by unfold maxLen;omega
      have sT:(j+1)*8<=140737488355328:=by omega
      clear Ea D_ hs AF;go_wp2_with fail
      refine wp_region_noPanic ?_;refine zB (fun w'=>But (fun i=>(Nq ga j gc).ownBlock=some i) wr w') (fun i=>i == 13) (by kernel_rfl) ?_;have mt:(fun w'=>But (fun i=>(Nq ga j gc).ownBlock=some i) wr w') wr.drew:=(But.refl _ wr).drew;refine tC [0,1,2,3,4,5,6,7] mt ?_;iterate 8 (refine tl (fun w' nP=>SY.out w' nP) ?_)
      refine tz ?_;(refine on 8 ?_;intro o ho K' hK;simp at ho;subst ho;go_simp);go_at_call 105;(with_reducible refine CC.out.mono ?_);rintro C8 w6 ⟨vb,rfl,nJ,sX⟩;have sP:Below wr.heap.size wr w6:=(Below.drew (mw _ _)).trans nJ;have rY:Hid (But (fun i=>(Nq ga j gc).ownBlock=some i) wr w6):=But.ofBelow sP;have rZ:=HI.out.1.own6 sP (.cells #[.pointer (some ⟨vb,0,none⟩)] 33);have H6:=mj (mu sP sX);clear nJ sX sP;(refine hK.out _ _ (fun _=>rY.out) ?_;clear hK K';try simp only [pQ,pN,pZ,pS]);refine oC 9 (rY.out.alloc _) ?_;(refine on 10 ?_;intro o ho K' hK;simp at ho;subst ho);refine zS (by rfl) _ _ _ (by rfl) 33 (.pointer none) 1 8 Pq Tryz.infoB rfl (by decide) (.slice ga j gc) j us (by rfl) rZ _ 1 [.pointer (some ⟨vb,0,none⟩)] (by rfl) (zq.lit1 #[.pointer (some ⟨vb,0,none⟩)] rfl (by simp [Of]) _ (by rfl)) iv sT ?_;intro a' c' w7 nL mo nG;(refine hK.out _ _ (fun _=>(rY.out.alloc _).trans mo) ?_;clear hK K';try simp only [pQ,pN,pZ,pS]);have ru:=HI.out.1.cell7 H6.out.1 mo;have tD:w7.cell? ⟨P,2,none⟩=some (.slice ga j gc)/\w7.frozen? ⟨P,2,none⟩=false:=by rw [wU] at ru;exact ⟨by simp [GD,ru],by simp [N4,ru]⟩
      obtain ⟨Ad,aD⟩:=tD;have Ak:=mj ru;clear ru;refine oC 11 ((rY.out.alloc _).trans mo) ?_;refine oC 12 ((rY.out.alloc _).trans mo) ?_;refine oB 13 (fun h=>by simp at h) ?_;refine zY (by kernel_rfl) (N0 ?_) _;have hX:=HI.out.1.next (fun i h=>mg h.2 GA) (w8:=w7.setCell ⟨P,2,none⟩ (.slice a' (j+1) c')) H6.out.1 (zW.one H6.out.2) nL mo nG (by rw [zy Ak.out];rfl) (uP _ _ _ _);have tP:jV (ze (ss.take j) n k)++[k_ (kH s n k)]=jV (ze (ss.take (j+1)) n k):=by rw [HK.out,pY]
      rw [tP] at hX;have HN:=mj hX;clear hX tP nL mo nG mt rZ Ad aD;go_wp2_with fail
      go_roundw
      case rel=>exact ⟨j+1,_,_,by omega,by go_num,HN.out⟩
      case measure=>simp [intOf];omega
     ·obtain rfl:j=ss.length:=by omega
      clear y2;go_wp2_with fail
      go_ret;refine ⟨P,rfl,HI.out.2.2,?_⟩;have sB:=HI.out.1.sl;rw [Oh] at sB;have Cc:Below P v1 wr:=HW.out.2.1.trans HI.out.1.below;rw [<- hP] at Cc;have hL:(ze ss n k).length=ss.length:=by rw [uh];simp
      rw [kH,if_pos hv];refine ask_new (.inr GA) HI.out.2.1 ?_ (Rep.below Cc (fun _ h=>h) NH.out) (Rep.below Cc (fun _ h=>h) Hm.out);rw [hL];exact sB.weak fun i h=>by rcases h with h | h;exact .inl h.1;exact .inr (by omega)
   ·have hvI:¬ (n:Int)<=(v:Int):=by omega
    go_upto_region 6 with (fail)
    obtain ⟨W,hW⟩:=zzN (V);rw [hW];have M2:W.heap[P]? = some (wU (v) (.pointer (some ⟨p0,0,none⟩)) (.pointer (some ⟨p1,0,none⟩)) (.slice none 0 0)):=by
     rw [<- hW];exact HP.out.1
    have Is:Below P v1 W:=by rw [<- hW];exact HP.out.2
    have BA:Below w.heap.size w W:=nE.out.trans (Is.mono GA);have q2:=(BA.cell (p:=⟨a0,2,none⟩) EU).trans r2;have HW:=mj (mu M2 (mu Is BA));clear hW M2 Is BA z0 z1 z2 z3 z4 B3 r2;go_wp2_with fail
    go_loopw [53] (fun i wr=>∃ (j:Nat) (sv:Value) (us:List Value),j<=ss.length/\i=.int .i64 j/\jt (fun i=>F i/\i<w.heap.size) W P (wU (v) (.pointer (some ⟨p0,0,none⟩)) (.pointer (some ⟨p1,0,none⟩))) 33 1 j (jV (ze (ss.take j) n k)) sv us wr) (fun i _=>ss.length-(intOf i).toNat)
    case atStart=>exact ⟨0,_,_,Og _,rfl,by simpa [ze,jV] using jt.start HW.out.1⟩
    case round =>
     rename_i wr;obtain ⟨j,sv,us,hj,rfl,nQ⟩:=hrel;obtain ⟨ga,gc,e⟩:=nQ.slice;subst e;have mm:wr.heap[P]? = some (.cells #[str [],.int .i64 ((v:Nat):Int),.slice ga j gc,.pointer (some ⟨p0,0,none⟩),.pointer (some ⟨p1,0,none⟩)] 79 (0,0)):=nQ.blk;have nw:Below w.heap.size w wr:=HW.out.2.2.trans (nQ.below.mono GA);obtain ⟨y0,y1,y2,y3,y4,yf⟩:=pG mm;have HI:=mj (mu nQ (mu mm nw));clear nQ mm nw;clear y0 y1 y3 y4 yf q2;by_cases m_:j<ss.length
     ·have rF:(j:Int)<(ss.length:Int):=by omega
      obtain ⟨sb,so,su,sd,e,_,K_,oK,AF,Ea⟩:=HS.out j m_;subst e;rw [xv,N3] at oK;obtain ⟨s,hs,rfl⟩:=oK;obtain ⟨sp,rfl⟩:=za Ea;have KZ:=vo (Oc hs);have q3:wr.cell? ⟨sb,so+j,none⟩=some (.pointer (some ⟨sp,0,none⟩)):=(HI.out.2.2.cell (p:=⟨sb,so+j,none⟩) K_).trans AF;have D_:Rep (fun i=>F i/\i<w.heap.size) w (k_ s) (.pointer (some ⟨sp,0,none⟩)):=(Rep.keep fun i x h hx=>⟨⟨h,zZ hx⟩,hx⟩).1 _ _ Ea;have CC:=mj (IH.out (fun i=>F i/\i<w.heap.size) s n k (.pointer (some ⟨sp,0,none⟩)) wr.drew (by have:=HQ.out.1;omega) (by have:=HQ.out.2.1;omega) (cw ss HQ.out.2.2.2.1 j s hs) hn hk (Rep.below HI.out.2.2 (fun _ h=>h) D_).drew);have HK:=mj (jo hs n k);have SY:Hid (∀ w',But (fun i=>(Nq ga j gc).ownBlock=some i) wr w'->w'.cell? ⟨P,2,none⟩=some (.slice ga j gc)/\True):=by
       show ∀ w',_->_;intro w' nW;exact ⟨(nW.cell (mx wr _ y2) HI.out.1.not).trans y2,trivial⟩
      have iv:j+1<=maxLen:=by unfold maxLen;omega
      have sT:(j+1)*8<=140737488355328:=by omega
      clear Ea D_ hs AF;go_wp2_with fail
      refine wp_region_noPanic ?_;refine zB (fun w'=>But (fun i=>(Nq ga j gc).ownBlock=some i) wr w') (fun i=>i == 13) (by kernel_rfl) ?_;have mt:(fun w'=>But (fun i=>(Nq ga j gc).ownBlock=some i) wr w') wr.drew:=(But.refl _ wr).drew;refine tC [0,1,2,3,4,5,6,7] mt ?_;iterate 8 (refine tl (fun w' nP=>SY.out w' nP) ?_)
      refine tz ?_;(refine on 8 ?_;intro o ho K' hK;simp at ho;subst ho;go_simp);go_at_call 105;(with_reducible refine CC.out.mono ?_);rintro C8 w6 ⟨vb,rfl,nJ,sX⟩;have sP:Below wr.heap.size wr w6:=(Below.drew (mw _ _)).trans nJ;have rY:Hid (But (fun i=>(Nq ga j gc).ownBlock=some i) wr w6):=But.ofBelow sP;have rZ:=HI.out.1.own6 sP (.cells #[.pointer (some ⟨vb,0,none⟩)] 33);have H6:=mj (mu sP sX);clear nJ sX sP;(refine hK.out _ _ (fun _=>rY.out) ?_;clear hK K';try simp only [pQ,pN,pZ,pS]);refine oC 9 (rY.out.alloc _) ?_;(refine on 10 ?_;intro o ho K' hK;simp at ho;subst ho);refine zS (by rfl) _ _ _ (by rfl) 33 (.pointer none) 1 8 Pq Tryz.infoB rfl (by decide) (.slice ga j gc) j us (by rfl) rZ _ 1 [.pointer (some ⟨vb,0,none⟩)] (by rfl) (zq.lit1 #[.pointer (some ⟨vb,0,none⟩)] rfl (by simp [Of]) _ (by rfl)) iv sT ?_;intro a' c' w7 nL mo nG;(refine hK.out _ _ (fun _=>(rY.out.alloc _).trans mo) ?_;clear hK K';try simp only [pQ,pN,pZ,pS]);have ru:=HI.out.1.cell7 H6.out.1 mo;have tD:w7.cell? ⟨P,2,none⟩=some (.slice ga j gc)/\w7.frozen? ⟨P,2,none⟩=false:=by rw [wU] at ru;exact ⟨by simp [GD,ru],by simp [N4,ru]⟩
      obtain ⟨Ad,aD⟩:=tD;have Ak:=mj ru;clear ru;refine oC 11 ((rY.out.alloc _).trans mo) ?_;refine oC 12 ((rY.out.alloc _).trans mo) ?_;refine oB 13 (fun h=>by simp at h) ?_;refine zY (by kernel_rfl) (N0 ?_) _;have hX:=HI.out.1.next (fun i h=>mg h.2 GA) (w8:=w7.setCell ⟨P,2,none⟩ (.slice a' (j+1) c')) H6.out.1 (zW.one H6.out.2) nL mo nG (by rw [zy Ak.out];rfl) (uP _ _ _ _);have tP:jV (ze (ss.take j) n k)++[k_ (kH s n k)]=jV (ze (ss.take (j+1)) n k):=by rw [HK.out,pY]
      rw [tP] at hX;have HN:=mj hX;clear hX tP nL mo nG mt rZ Ad aD;go_wp2_with fail
      go_roundw
      case rel=>exact ⟨j+1,_,_,by omega,by go_num,HN.out⟩
      case measure=>simp [intOf];omega
     ·obtain rfl:j=ss.length:=by omega
      clear y2;go_wp2_with fail
      go_ret;refine ⟨P,rfl,HI.out.2.2,?_⟩;have sB:=HI.out.1.sl;rw [Oh] at sB;have Cc:Below P v1 wr:=HW.out.2.1.trans HI.out.1.below;rw [<- hP] at Cc;have hL:(ze ss n k).length=ss.length:=by rw [uh];simp
      rw [kH,if_neg hv];refine ask_new (.inr GA) HI.out.2.1 ?_ (Rep.below Cc (fun _ h=>h) NH.out) (Rep.below Cc (fun _ h=>h) Hm.out);rw [hL];exact sB.weak fun i h=>by rcases h with h | h;exact .inl h.1;exact .inr (by omega)
theorem raised_any (N:Nat):RaSaid N:=by
 induction N with
 | zero=>exact fun F b n k bv w h=>by have:=kW b;omega
 | succ N ih=>exact ra_step N ih
def zt (ns:List Nm):Tm->Ty×Bool
 | .nm x=>match (jw ns x).bind fun i=>ns[i]?.map Prod.snd with
   | some k=>(k,true)
   | none=>(.mk [],false)
 | .wd _=>(.mk [],true)
 | .lam x k t=>(z_ k (zt (ns++[(x,k)]) t).1,(zt (ns++[(x,k)]) t).2 && decide (zJ (z_ k (zt (ns++[(x,k)]) t).1)<=15))
 | .app m n=>if (zt ns m).2=false\/(zt ns n).2=false then ((zt ns m).1,false) else match (zt ns m).1.args with
   | []=>((zt ns m).1,false)
   | c::cs=>if zN c=zN (zt ns n).1 then (.mk cs,true) else ((zt ns m).1,false)
 | .ite l m n=>((zt ns m).1,(zt ns l).2 && (zt ns m).2 && (zt ns n).2 && decide ((zt ns l).1.args=[]) && decide (zN (zt ns m).1=zN (zt ns n).1))
theorem yK:∀ (t:Tm) (ns:List Nm),kP t=true->typeOf ns t=if (zt ns t).2=true then some (zt ns t).1 else none
 | .nm x,ns,_=>by
   rw [typeOf,zt];cases (jw ns x).bind fun i=>ns[i]?.map Prod.snd <;> rfl
 | .wd w,ns,_=>by rw [typeOf,zt];rfl
 | .lam x k t,ns,h=>by
   rw [kP,Oa,decide_eq_true_eq] at h;rw [typeOf,if_neg (by omega),yK t _ h.2,zt];cases (zt (ns++[(x,k)]) t).2 with
   | false=>rfl
   | true =>
     simp only [if_true,Mm,QZ,decide_eq_true_eq];by_cases nX:zJ (z_ k (zt (ns++[(x,k)]) t).1)<=15
     ·rw [if_neg (by omega),if_pos nX]
     ·rw [if_pos (by omega),if_neg nX]
 | .app m n,ns,h=>by
   rw [kP,Oa] at h;rw [typeOf,yK m ns h.1,yK n ns h.2,zt];cases hm:(zt ns m).2 with
   | false=>simp
   | true =>
     cases hn:(zt ns n).2 with
     | false=>simp
     | true =>
       simp only [if_true,Mm,Bool.true_eq_false,or_self,if_false];cases ha:(zt ns m).1.args with
       | nil=>rfl
       | cons c cs =>
         simp only;by_cases he:zN c=zN (zt ns n).1
         ·rw [if_pos he,if_pos he];rfl
         ·rw [if_neg he,if_neg he];rfl
 | .ite l m n,ns,h=>by
   rw [kP,Oa,Oa] at h;rw [typeOf,yK l ns h.1.1,yK m ns h.1.2,yK n ns h.2,zt];cases hl:(zt ns l).2 with
   | false=>simp
   | true =>
     cases hm:(zt ns m).2 with
     | false=>simp
     | true =>
       cases hn:(zt ns n).2 with
       | false=>simp
       | true =>
         simp only [if_true,Mm,QZ,Oa,decide_eq_true_eq]
theorem yO {t:Tm} {ns:List Nm} (hs:kP t=true) (h:(zt ns t).2=true):typeOf ns t=some (zt ns t).1:=by
 rw [yK t ns hs,if_pos h]
theorem kindR_of {t:Tm} {ns:List Nm} {k:Ty} (h:typeOf ns t=some k):zt ns t=(k,true):=by
 have hs:=yd t ns k h;rw [yK t ns hs] at h;split at h
 ·rename_i hq;exact Prod.ext (Ob h) hq
 ·simp at h
theorem ge:∀ (t:Tm) (ns:List Nm),(∀ a∈kinds ns,a.args.length<=15)->kP t=true->(zt ns t).1.args.length<=15+zT t
 | .nm x,ns,hn,_=>by
   rw [zt];cases hq:(jw ns x).bind fun i=>ns[i]?.map Prod.snd with
   | none=>simp [Ty.args]
   | some k =>
     rw [No] at hq;obtain ⟨i,_,h2⟩:=hq;rw [N3] at h2;obtain ⟨⟨y,a⟩,h3,rfl⟩:=h2;have:=hn a (Oc (yZ h3));simp only;omega
 | .wd w,ns,_,_=>by rw [zt];simp [Ty.args]
 | .lam x k t,ns,hn,h=>by
   rw [kP,Oa,decide_eq_true_eq] at h
   have:=ge t (ns++[(x,k)]) (fun a ha=>by
    rw [jS] at ha;rcases Oy.1 ha with ha | ha
    ·exact hn a ha
    ·simp at ha;subst ha;have:=qB a.args;have:=qi a;omega) h.2
   have e:(z_ k (zt (ns++[(x,k)]) t).1).args.length=(zt (ns++[(x,k)]) t).1.args.length+1:=rfl;rw [zt,zT];simp only;rw [e];omega
 | .app m n,ns,hn,h=>by
   rw [kP,Oa] at h;have h1:=ge m ns hn h.1;rw [zt,zT];split
   ·simp only;omega
   ·cases ha:(zt ns m).1.args with
    | nil=>simp only [ha];simp
    | cons c cs =>
      rw [ha] at h1;simp only [N5] at h1;simp only;split
      ·simp only [Ty.args];omega
      ·rw [ha];simp only [N5];omega
 | .ite l m n,ns,hn,h=>by
   rw [kP,Oa,Oa] at h;have h1:=ge m ns hn h.1.2;rw [zt,zT];simp only;omega
mutual
theorem y5:∀ (b:Bd) (n k:Nat),zX (kH b n k)=zX b
 | .leaf c,n,k=>by rw [kH]
 | .ask v ss y no,n,k=>by rw [kH,zX,zX,cS ss n k,y5 y n k,y5 no n k]
theorem cS:∀ (bs:List Bd) (n k:Nat),zR (ze bs n k)=zR bs
 | [],n,k=>by rw [ze]
 | b::bs,n,k=>by rw [ze,zR,zR,y5 b n k,cS bs n k]
end
theorem xo:∀ (b y n:Bd),zX (qW b y n)<=zX b*(zX y+zX n)
 | .leaf c,y,n=>by
   have hy:=kW y;have hn:=kW n;have e:zX (.leaf c)=1:=by rw [zX]
   rw [e,Nat.one_mul,qW];split
   ·omega
   ·split
    ·omega
    ·rw [e];omega
 | .ask v ss a c,y,n=>by
   have hy:=kW y;have h1:=xo a y n;have h2:=xo c y n;rw [qW,zX,zX];have h3:1+zR ss<=(1+zR ss)*(zX y+zX n):=Nat.le_mul_of_pos_right _ (by omega);have e:(1+(zR ss+(zX a+zX c)))*(zX y+zX n)=(1+zR ss)*(zX y+zX n)+zX a*(zX y+zX n)+zX c*(zX y+zX n):=by rw [<- Qy,<- Qy];congr 1;omega
   omega
theorem cR {b:Bd} (h:zX b<=200):ue b=some b:=by unfold ue;rw [if_pos h]
theorem become_small {b:Bd} {env:List Mn} {n:Nat} {c:Bd} (h:vj b env n=some c):zX c<=200:=by
 unfold vj at h;cases hv:ev 20000 20000 b env n [] with
 | none=>rw [hv] at h;simp at h
 | some x =>
   obtain ⟨o,l⟩:=x;rw [hv] at h;simp only at h;split at h
   ·rename_i hs;obtain rfl:=Ob h;exact hs.1
   ·simp at h
theorem vJ:∀ (t:Tm) (ns:List Nm) (b:Bd),zL ns t=some b->zX b<=200
 | .nm x,ns,b,h=>by
   rw [zL,No] at h;obtain ⟨i,_,h⟩:=h;rw [No] at h;obtain ⟨p,_,h⟩:=h;obtain ⟨rfl,hs⟩:=we h;exact hs
 | .wd w,ns,b,h=>by
   rw [zL] at h;obtain rfl:=Ob h;simp [zX]
 | .lam x k t,ns,b,h=>by rw [zL] at h;exact vJ t _ b h
 | .app m n,ns,b,h=>by
   rw [zL,No] at h;obtain ⟨p,_,h⟩:=h;rw [No] at h;obtain ⟨q,_,h⟩:=h;rw [No] at h;obtain ⟨t,_,h⟩:=h;split at h
   ·simp at h
   ·exact become_small h
 | .ite l m n,ns,b,h=>by
   rw [zL,No] at h;obtain ⟨p,_,h⟩:=h;rw [No] at h;obtain ⟨q,_,h⟩:=h;rw [No] at h;obtain ⟨r,_,h⟩:=h;rw [No] at h;obtain ⟨t,_,h⟩:=h;obtain ⟨rfl,hs⟩:=we h;exact hs
def kO (ns:List Nm):Tm->Option Bd
 | .nm x=>(jw ns x).bind fun i=>ns[i]?.map fun p=>eta p.2 i ns.length
 | .wd w=>some (.leaf (w.headD 0))
 | .lam x k t=>zL (ns++[(x,k)]) t
 | .app m n=>zL ns (.app m n)
 | .ite l m n=>(zL ns l).bind fun a=>(zL ns m).bind fun b=>(zL ns n).bind fun c=>(typeOf ns m).bind fun t=>some (qW (kH a ns.length t.args.length) b c)
theorem cG {o:Option Bd} (h:∀ b,o=some b->zX b<=200):o.bind ue=o:=by
 cases o with
 | none=>rfl
 | some b=>rw [Mm,cR (h b rfl)]
theorem mean_meant (t:Tm) (ns:List Nm):zL ns t=(kO ns t).bind ue:=by
 cases t with
 | nm x =>
   rw [zL,kO];cases jw ns x with
   | none=>rfl
   | some i =>
     rw [Mm,Mm];cases ns[i]? <;> rfl
 | wd w=>rw [zL,kO,cG (fun b h=>by obtain rfl:=Ob h;simp [zX])]
 | lam x k t=>rw [kO,cG (fun b h=>vJ _ _ b h),zL]
 | app m n=>rw [kO,cG (fun b h=>vJ _ _ b h)]
 | ite l m n =>
   rw [zL,kO];cases zL ns l with
   | none=>rfl
   | some a =>
     cases zL ns m with
     | none=>rfl
     | some b =>
       cases zL ns n with
       | none=>rfl
       | some c =>
         cases typeOf ns m <;> rfl
theorem meant_size (t:Tm) (ns:List Nm) (b:Bd) (hn:∀ a∈kinds ns,zJ a<=15) (h:kO ns t=some b):zX b<=100000:=by
 cases t with
 | nm x =>
   rw [kO,No] at h;obtain ⟨i,_,h⟩:=h;rw [N3] at h;obtain ⟨⟨y,k⟩,hp,rfl⟩:=h;have:=(mU k i ns.length).1;have:=hn k (Oc (yZ hp));simp only;omega
 | wd w=>rw [kO] at h;obtain rfl:=Ob h;simp [zX]
 | lam x k t=>rw [kO] at h;have:=vJ _ _ b h;omega
 | app m n=>rw [kO] at h;have:=vJ _ _ b h;omega
 | ite l m n =>
   rw [kO,No] at h;obtain ⟨p,hp,h⟩:=h;rw [No] at h;obtain ⟨q,hq,h⟩:=h;rw [No] at h;obtain ⟨r,hr,h⟩:=h;rw [No] at h;obtain ⟨t,_,h⟩:=h;obtain rfl:=Ob h;have h1:=vJ _ _ _ hp;have h2:=vJ _ _ _ hq;have h3:=vJ _ _ _ hr;have h4:=xo (kH p ns.length t.args.length) q r;rw [y5] at h4;have h5:zX p*(zX q+zX r)<=200*400:=Nat.mul_le_mul h1 (by omega);omega
theorem small_fits {b:Bd}:decide (zX b<=200/\kz b<=100)=decide (zX b<=200):=by
 by_cases h:zX b<=200
 ·rw [decide_eq_true ⟨h,mY h⟩,decide_eq_true h]
 ·rw [decide_eq_false (fun hx=>h hx.1),decide_eq_false h]
structure mI (F:Nat->Prop) (t:Tm) (ns:List Nm) (k:Ty) (tv lv:Value) (w:World):Prop where
 glob:yW w
 rt:Rep F w (jM t) tv
 rl:Rep F w (.sl 109 2 ns.length (jm ns)) lv
 ok:xY t
 n15:∀ a∈kinds ns,zJ a<=15
 room:ns.length+zT t<=100
 ty:typeOf ns t=some k
def xN (N:Nat):Prop:=∀ (F:Nat->Prop) (t:Tm) (ns:List Nm) (k:Ty) (tv lv:Value) (w:World),zT t<=N->mI F t ns k tv lv w->Calls KD 31 #[tv,lv] w (qO F w (zL ns t))
def eW (N:Nat):Prop:=∀ (F:Nat->Prop) (t:Tm) (ns:List Nm) (k:Ty) (tv lv:Value) (w:World),zT t<=N->mI F t ns k tv lv w->Calls KD 64 #[tv,lv] w (qO F w (kO ns t))
theorem qO.no {F:Nat->Prop} {w w':World} {o:Option Bd} (ho:o=none) (hb:Below w.heap.size w w'):qO F w o (.returned (.pointer none)) w' :=
 ⟨_,rfl,hb,fun _=>rfl,fun k h=>by rw [ho] at h;simp at h⟩
theorem qO.yes {F:Nat->Prop} {w w':World} {o:Option Bd} {k:Bd} {v:Value} (ho:o=some k) (hb:Below w.heap.size w w') (hr:Rep (fun i=>F i\/w.heap.size<=i) w' (k_ k) v):qO F w o (.returned v) w' :=
 ⟨_,rfl,hb,fun h=>by rw [ho] at h;simp at h,fun k' h=>by rw [ho] at h;obtain rfl:=Ob h;exact hr⟩
theorem fc (N:Nat) (ih:eW N):xN N:=by
 intro F t ns k tv lv w hN hp;have C0:=mj (ih F t ns k tv lv w hN hp);have HM:=mj (mean_meant t ns);have HP:=mj hp.n15;obtain ⟨tb,rfl⟩:=qM hp.rt;obtain ⟨la,lc,rfl,_,_⟩:=AtNms.of hp.rl;clear hp ih;go_enter Tryz.func31,Tryz.ntmps31;go_wp2_with fail
 (with_reducible refine C0.out.mono ?_);rintro en w1 ⟨v,rfl,mi,nh,nf⟩
 cases hq:kO ns t with
 | none =>
   obtain rfl:=nh hq;have HQ:=mj (show zL ns t=none by rw [HM.out,hq];rfl);have HB:=mj mi;clear hq nh nf mi;go_wp2_with fail
   go_ret;exact qO.no HQ.out HB.out
 | some b =>
   have sY:=nf b hq;obtain ⟨bb,rfl⟩:=za sY;have hsz:=meant_size t ns b HP.out hq;have CF:=mj (fits2_any _ w1 b _ sY hsz);have HR:=mj sY;have HB:=mj mi;have HQ:=mj (show zL ns t=ue b by rw [HM.out,hq];rfl);clear hq nh nf mi sY hsz;rw [small_fits] at CF;by_cases h2:zX b<=200
   ·have HE:=mj (show zL ns t=some b by rw [HQ.out,cR h2]);rw [decide_eq_true h2] at CF;clear h2;go_wp2_with fail
    (with_reducible refine CF.out.mono ?_);rintro en w2 ⟨rfl,me⟩
    have nF:=mj (zzT HB.out me);have lO:=mj (Rep.below (F':=fun i=>F i\/w.heap.size<=i) me (fun _ h=>h) HR.out);clear me;go_wp2_with fail
    go_ret;exact qO.yes HE.out nF.out lO.out
   ·have HE:=mj (show zL ns t=none by rw [HQ.out];unfold ue;rw [if_neg h2]);rw [decide_eq_false h2] at CF;clear h2;go_wp2_with fail
    (with_reducible refine CF.out.mono ?_);rintro en w2 ⟨rfl,me⟩
    have nF:=mj (zzT HB.out me);clear me;go_wp2_with fail
    go_ret;exact qO.no HE.out nF.out
theorem meant_nm (F:Nat->Prop) (x:Bs) (ns:List Nm) (k:Ty) (tv lv:Value) (w:World) (hp:mI F (.nm x) ns k tv lv w):Calls KD 64 #[tv,lv] w (qO F w (kO ns (.nm x))):=by
 obtain ⟨tb,kv,slv,rfl,_,mm,_,_,_⟩:=jf hp.rt;simp only [xS,xT] at mm;have t0:w.cell? ⟨tb,0,none⟩=some (str []):=by simp [GD,mm]
 have t1:w.cell? ⟨tb,1,none⟩=some (str x):=by simp [GD,mm]
 have hn:ns.length<=100:=by have:=hp.room;omega
 have CF:=find_any F ns x lv w (by omega) hp.rl;obtain ⟨la,lc,rfl,JW,ml⟩:=AtNms.of hp.rl;have ik:=hp.ty;rw [typeOf,No] at ik;obtain ⟨i,hi,hik⟩:=ik;rw [N3] at hik;obtain ⟨⟨y0,k0⟩,Cp,_⟩:=hik;have m_:i<ns.length:=(N6.1 Cp).1;obtain ⟨b,o,y,t,kb,e,hb,hp',h1,h2,rD⟩:=ml i m_;subst e;have nX:=hp.n15 t (Oc (yZ hp'));have HT:=mj (show kO ns (.nm x)=some (eta t i ns.length) by rw [kO,hi,Mm,hp'];rfl);have CC:=mj (copyOf_any 15 t nX nX F _ i ns.length w rD (by omega) (by omega));rw [hi] at CF;simp only [fZ] at CF;have CF':=mj CF;have hiI:(i:Int)<(ns.length:Int):=by omega
 clear hp ml mm hi CF JW Cp hp' h1 rD hb;go_enter P5,PT;go_wp2_with fail
 (with_reducible refine CF'.out.mono ?_);rintro en w1 ⟨rfl,e⟩
 subst w1;go_wp2_with fail
 (with_reducible refine CC.out.mono ?_);rintro en w1 ⟨p,rfl,mi,sJ⟩
 have HB:=mj (mu mi sJ);clear mi sJ;go_wp2_with fail
 go_ret;exact qO.yes HT.out HB.out.1 (HB.out.2.weak fun _ h=>.inr h)
theorem meant_wd (F:Nat->Prop) (u:Bs) (ns:List Nm) (k:Ty) (tv lv:Value) (w:World) (hp:mI F (.wd u) ns k tv lv w):Calls KD 64 #[tv,lv] w (qO F w (kO ns (.wd u))):=by
 obtain ⟨tb,kv,slv,rfl,_,mm,_,_,_⟩:=jf hp.rt;simp only [xS,xT] at mm;have t0:w.cell? ⟨tb,0,none⟩=some (str u):=by simp [GD,mm]
 have nC:jO u=true:=hp.ok;simp only [jO,Bool.or_eq_true,beq_iff_eq] at nC;obtain ⟨la,lc,rfl,_,_⟩:=AtNms.of hp.rl;clear hp mm;rcases nC with (rfl | rfl) | rfl
 all_goals
  go_enter P5,PT;go_wp2_with fail
  go_ret;exact qO.yes (by rw [kO];rfl) ((mw _ _).alloc (my _) _) ((gV (zG _ _) (my _)).weak fun _ h=>.inr h)
theorem meant_lam (N:Nat) (ih:xN N) (F:Nat->Prop) (x:Bs) (k:Ty) (t:Tm) (ns:List Nm) (kt:Ty) (tv lv:Value) (w:World) (hN:zT (.lam x k t)<=N+1) (hp:mI F (.lam x k t) ns kt tv lv w):Calls KD 64 #[tv,lv] w (qO F w (kO ns (.lam x k t))):=by
 obtain ⟨tb,kv,slv,rfl,_,mm,_,Aq,i8⟩:=jf hp.rt;have hk:=Aq k rfl;obtain ⟨kb,_,e,_⟩:=zi hk;subst e;obtain ⟨pa,pc,rfl,_,_,ml⟩:=zP i8;simp only [xS,xT,j_] at mm;obtain ⟨aj,aO,Kw,Kx,D6,_,Br,Az,Bc,i7⟩:=ml 0 (by simp [zo]);simp only [zo,Ol,OU,N9,N8,N1] at Az;subst Az;obtain ⟨Ax,e0⟩:=qM i7;subst e0;subst D6;have t0:w.cell? ⟨tb,0,none⟩=some (str [108,97,109]):=by simp [GD,mm]
 have t1:w.cell? ⟨tb,1,none⟩=some (str x):=by simp [GD,mm]
 have t2:w.cell? ⟨tb,2,none⟩=some (.pointer (some ⟨kb,0,none⟩)):=by simp [GD,mm]
 have t3:w.cell? ⟨tb,3,none⟩=some (.slice (some ⟨aj,aO,none⟩) 1 pc):=by simp [GD,mm,zo]
 have nz:=hp.room;have nC:=hp.ok;rw [zT] at nz hN;have hak:=kg k;have hlen:ns.length<=99:=by omega
 obtain ⟨nX,Be,L2,_⟩:=cB hp.ty;obtain ⟨xs,Al,rM⟩:∃ xs,zW F w (jm ns) xs/\∃ a c,lv=.slice a ns.length c/\uM 2 (.slice a ns.length ns.length) ns.length xs w:=by
  obtain ⟨a,c,e,_,_⟩:=AtNms.of hp.rl;have hr:=hp.rl;rw [e] at hr;obtain ⟨xs,h1,h2⟩:=uM.ofRep hr (oneNm ns);exact ⟨xs,h1,a,c,e,h2⟩
 obtain ⟨la,lc,rfl,rM⟩:=rM;have JW:ns.length<=lc:=by obtain ⟨a,c,e,h,_⟩:=AtNms.of hp.rl;simp only [Value.slice.injEq] at e;obtain ⟨_,_,rfl⟩:=e;exact h
 have SX:Hid (∀ w',Below w.heap.size w w'->w'.cell? ⟨tb,1,none⟩=some (str x)/\w'.cell? ⟨tb,2,none⟩=some (.pointer (some ⟨kb,0,none⟩))/\w'.cell? ⟨tb,3,none⟩=some (.slice (some ⟨aj,aO,none⟩) 1 pc)/\w'.cell? ⟨aj,aO,none⟩=some (.pointer (some ⟨Ax,0,none⟩))):=by
  show ∀ w',_->_;intro w' nW;exact ⟨(nW.cell (mx w _ t1)).trans t1,(nW.cell (mx w _ t2)).trans t2,(nW.cell (mx w _ t3)).trans t3,(nW.cell Br).trans Bc⟩
 have HX:=mj (mu Al rM);have HP:=mj (mu hp (mu hk (mu i7 L2)));have IH:=mj ih;have HK:=mj (mu nX (mu nC hN));have A6:ns.length+1<=maxLen:=by unfold maxLen;omega
 have sT:(ns.length+1)*24<=140737488355328:=by omega
 clear hp ml i8 hk Aq mm nX i7 Al rM nC ih hN L2;go_enter P5,PT;go_wp2_with fail
 refine wp_region_noPanic ?_;refine zB (fun w'=>Below w.heap.size w w') (fun _=>false) (by kernel_rfl) ?_;have mt:(fun w'=>Below w.heap.size w w') w.drew:=Below.drew (mw _ _);refine tC [0,1,2,3,4,5,6,7,8,9,10,11,12,13,14,15,16,17,18,19,20] mt ?_;iterate 21 (refine tl (fun w' nP=>SX.out w' nP) ?_)
 refine tz ?_;refine oC 21 (mt.alloc (my _) _) ?_;(refine on 22 ?_;intro o ho K' hK;simp at ho;subst ho);have FQ:zq 2 (.slice (some ⟨w.heap.size,0,none⟩) 1 1) 1 [str x,.pointer (some ⟨kb,0,none⟩)] (w.drew.alloc (.cells #[str x,.pointer (some ⟨kb,0,none⟩)] 109)):=zq.lit1 #[str x,.pointer (some ⟨kb,0,none⟩)] rfl (by simp [str,Of]) _ (by rfl);have aD:uM 2 (.slice la ns.length ns.length) ns.length xs (w.drew.alloc (.cells #[str x,.pointer (some ⟨kb,0,none⟩)] 109)):=HX.out.2.drew.alloc _;refine wC (by rfl) _ _ _ (by rfl) 109 (.agg #[str [],.pointer none]) 2 24 Tryz.underlying103 Tryz.infoBound rfl (.slice la ns.length ns.length) ns.length xs (by rfl) aD _ 1 _ (by rfl) FQ (by omega) A6 sT ?_;intro c7 w7 nL mo;have e8:(w.alloc (.cells #[str x,.pointer (some ⟨kb,0,none⟩)] 109)).drew.heap.size=w.heap.size+1:=by simp
 rw [e8] at nL;have sf:Below w.heap.size w w7:=(mt.alloc (my _) _).trans (mo.mono (mt.alloc (my _) _).size);(refine hK.out _ _ (fun _=>sf) ?_;clear hK K';try simp only [pQ,pN,pZ,pS]);(refine on 23 ?_;intro o ho K' hK;simp at ho;subst ho);have iH:Rep (fun i=>F i\/w.heap.size<=i) w7 (.sl 109 2 (ns++[(x,k)]).length (jm (ns++[(x,k)]))) (.slice (some ⟨w.heap.size+1,0,none⟩) (ns.length+1) c7):=by
  rw [NZ,be];refine nL.rep (fun g hg=>.inr (by simp [N7] at hg;subst hg;exact Nat.le_succ _)) ?_;exact (zW.below sf (fun _ h=>.inl h) HX.out.1).append (zQ.2 ⟨_,_,rfl,zH.2 rfl,zQ.2 ⟨_,_,rfl,Rep.below sf (fun _ h=>.inl h) HP.out.2.1,zC.2 rfl⟩⟩)
 have CT:=mj (IH.out (fun i=>F i\/w.heap.size<=i) t (ns++[(x,k)]) Be (.pointer (some ⟨Ax,0,none⟩)) _ w7 (by have:=HK.out.2.2;omega) ⟨HP.out.1.glob.below sf,Rep.below sf (fun _ h=>.inl h) HP.out.2.2.1,iH,HK.out.2.1.2,(fun a ha=>by
  rw [jS] at ha;rcases Oy.1 ha with ha | ha
  ·exact HP.out.1.n15 a ha
  ·simp at ha;subst ha;exact HK.out.1),by rw [NZ];simp;omega,HP.out.2.2.2⟩)
 have DI:=mj sf;clear iH nL mo sf;go_simp;go_at_call 31;(with_reducible refine CT.out.mono ?_);rintro en w9 ⟨bv,rfl,rR,BK,Bx⟩;have Db:=mj (zzT DI.out rR);have HY:=mj (mu BK Bx);have z7:=DI.out.size;clear rR BK Bx;(refine hK.out _ _ (fun _=>Db.out) ?_;clear hK K';try simp only [pQ,pN,pZ,pS]);refine oC 24 Db.out ?_;refine zY (by kernel_rfl) (N0 ?_) _;go_wp2_with fail
 go_ret;rw [kO];exact ⟨bv,rfl,Db.out,HY.out.1,fun b h=>(HY.out.2 b h).weak fun i h=>by rcases h with h | h;exact h;exact .inr (by omega)⟩
theorem meant_app (N:Nat) (ih:xN N) (F:Nat->Prop) (m n:Tm) (ns:List Nm) (kt:Ty) (tv lv:Value) (w:World) (hN:zT (.app m n)<=N+1) (hp:mI F (.app m n) ns kt tv lv w):Calls KD 64 #[tv,lv] w (qO F w (kO ns (.app m n))):=by
 obtain ⟨tb,kv,slv,rfl,_,mm,_,_,i8⟩:=jf hp.rt;obtain ⟨pa,pc,rfl,_,_,ml⟩:=zP i8;simp only [xS,xT,vi] at mm;obtain ⟨aj,aO,Kw,Kx,D6,_,Br,Az,Bc,i7⟩:=ml 0 (by simp [zo]);simp only [zo,Ol,OU,N9,N8,N1] at Az;subst Az;obtain ⟨Ax,e0⟩:=qM i7;subst e0;subst D6;obtain ⟨nB,nH,pu1,ox,lJ,_,sK,aI,az,aV⟩:=ml 1 (by simp [zo]);simp only [zo,Ol,OU,N9,N8,N1] at aI;subst aI;obtain ⟨DY,e1⟩:=qM aV;subst e1;simp only [N1,Addr.mk.injEq,and_true] at lJ;obtain ⟨rfl,rfl⟩:=lJ;have t0:w.cell? ⟨tb,0,none⟩=some (str [97,112,112]):=by simp [GD,mm]
 have t3:w.cell? ⟨tb,3,none⟩=some (.slice (some ⟨aj,aO,none⟩) 2 pc):=by simp [GD,mm,zo]
 have nz:=hp.room;have nC:=hp.ok;have ik:=hp.ty;have CT:=mj (fun wz (hz:Below w.heap.size w wz)=>gz (zT (.app m n)) F (.app m n) ns _ _ wz (my _) ⟨Rep.below hz (fun _ h=>h) hp.rt,Rep.below hz (fun _ h=>h) hp.rl,hp.ok,hp.n15,by omega⟩);rw [zT] at nz hN;obtain ⟨a,c,rest,DO,i_,rC,rfl⟩:=cD ik;obtain ⟨la,lc,rfl,_,_⟩:=AtNms.of hp.rl;have SX:Hid (∀ w',Below w.heap.size w w'->w'.cell? ⟨tb,3,none⟩=some (.slice (some ⟨aj,aO,none⟩) 2 pc)/\w'.cell? ⟨aj,aO,none⟩=some (.pointer (some ⟨Ax,0,none⟩))/\w'.cell? ⟨aj,aO+1,none⟩=some (.pointer (some ⟨DY,0,none⟩))):=by
  show ∀ w',_->_;intro w' nW;exact ⟨(nW.cell (mx w _ t3)).trans t3,(nW.cell Br).trans Bc,(nW.cell sK).trans az⟩
 have C0:=mj (fun wz (hz:Below w.heap.size w wz)=>ih F m ns _ (.pointer (some ⟨Ax,0,none⟩)) (.slice la ns.length lc) wz (by omega) ⟨hp.glob.below hz,Rep.below hz (fun _ h=>h) i7,Rep.below hz (fun _ h=>h) hp.rl,nC.1,hp.n15,by omega,DO⟩);have C1:=mj (fun wz (hz:Below w.heap.size w wz)=>ih F n ns _ (.pointer (some ⟨DY,0,none⟩)) (.slice la ns.length lc) wz (by omega) ⟨hp.glob.below hz,Rep.below hz (fun _ h=>h) aV,Rep.below hz (fun _ h=>h) hp.rl,nC.2,hp.n15,by omega,i_⟩);have HP:=mj (mu hp nC);clear hp ml i8 mm nC hN ih i7 Bc Br aV az sK;go_enter P5,PT;go_wp2_with fail
 refine wp_region_noPanic ?_;refine zB (fun w'=>Below w.heap.size w w') (fun _=>false) (by kernel_rfl) ?_;have mt:(fun w'=>Below w.heap.size w w') w.drew:=Below.drew (mw _ _);refine tC [0,1,2,3,4,5,6,8,9,10,11,12,13,14] mt ?_;iterate 14 (refine tl (fun w' nP=>SX.out w' nP) ?_)
 refine tz ?_;(refine on 7 ?_;intro o ho K' hK;simp at ho;subst ho;go_simp);go_at_call 31;(with_reducible refine (C0.out _ mt).mono ?_);rintro en v0 ⟨x0,rfl,nN,hn0,oh⟩;have sA:Hid (Below w.heap.size w v0):=mt.trans nN;have E9:Hid ((zL ns m=none->x0=.pointer none)/\(∀ k,zL ns m=some k->Rep (fun i=>F i\/w.heap.size<=i) v0 (k_ k) x0)):=⟨hn0,fun k h=>(oh k h).weak fun i h=>by rcases h with h | h;exact .inl h;exact .inr (h)⟩;have Kq:=mj nN;clear nN hn0 oh;(refine hK.out _ _ (fun _=>sA.out) ?_;clear hK K';try simp only [pQ,pN,pZ,pS]);have DP:=sA.out;(refine on 15 ?_;intro o ho K' hK;simp at ho;subst ho;go_simp);go_at_call 31;(with_reducible refine (C1.out _ sA.out).mono ?_);rintro en v1 ⟨x1,rfl,mi,nh,nf⟩;have nE:Hid (Below w.heap.size w v1):=zzT sA.out mi;have E8:Hid ((zL ns n=none->x1=.pointer none)/\(∀ k,zL ns n=some k->Rep (fun i=>F i\/w.heap.size<=i) v1 (k_ k) x1)):=⟨nh,fun k h=>(nf k h).weak fun i h=>by rcases h with h | h;exact .inl h;exact .inr (mh sA.out.size h)⟩;have DR:=mj mi;clear mi nh nf;(refine hK.out _ _ (fun _=>nE.out) ?_;clear hK K';try simp only [pQ,pN,pZ,pS]);have EX:=nE.out;refine tC [16,17] EX ?_;iterate 2 (refine tx ?_)
 refine tz ?_;refine zY (by kernel_rfl) (N0 ?_) _;clear t3 C0 C1;cases hm:zL ns m with
 | none =>
   obtain rfl:=E9.out.1 hm;have HQ:=mj (show kO ns (.app m n)=none by rw [kO,zL,hm];rfl);clear hm;go_wp2_with fail
   go_ret;exact qO.no HQ.out nE.out
 | some p =>
   have Fk:=Rep.below (F':=fun i=>F i\/w.heap.size<=i) DR.out (fun _ h=>h) (E9.out.2 p hm);obtain ⟨pp,rfl⟩:=za Fk;cases hn:zL ns n with
   | none =>
     obtain rfl:=E8.out.1 hn;have HQ:=mj (show kO ns (.app m n)=none by rw [kO,zL,hm,hn];rfl);clear hm hn Fk;go_wp2_with fail
     go_ret;exact qO.no HQ.out nE.out
   | some q =>
     have Cg:=E8.out.2 q hn;obtain ⟨qp,rfl⟩:=za Cg;obtain ⟨f1,w1,s1⟩:=jp m ns a p HP.out.2.1 HP.out.1.n15 DO hm;obtain ⟨f2,w2,s2⟩:=jp n ns c q HP.out.2.2 HP.out.1.n15 i_ hn;rw [rC] at f1;have tV:=gN f2 f1;have sN:=qV m ns a HP.out.1.n15 DO;have iD:=qV n ns c HP.out.1.n15 i_;have lH:∀ t∈rest,zJ t<=15:=fun t ht=>eQ sN t (by rw [rC];simp [ht]);have Eg:rest.length<=100:=by have:=um sN;rw [rC] at this;simp at this;omega
     have HT:=mj (show kO ns (.app m n)=vj p (zp (kinds ns) c q rest) ((kinds ns).length+rest.length) by
      rw [kO,zL,hm,hn,Mm,Mm,DO,Mm,rC,jQ])
     have CK:=mj (kindsOf_any F ns _ v1 (by omega) (Rep.below nE.out (fun _ h=>h) HP.out.1.rl));have HA:=mj (mu Fk (mu Cg (mu tV (mu iD lH))));have ia:ns.length<=100:=by omega
     clear hm hn Fk Cg f1 f2 w1 w2 s1 s2 rC tV sN iD lH DO i_;go_wp2_with fail
     (with_reducible refine CK.out.mono ?_);rintro en v2 ⟨ka,kc,rfl,me,sS⟩
     have nF:=mj (zzT nE.out me);have HK2:=mj (mu me sS);have Aw:=mj (CT.out v2 nF.out);clear me sS CK;go_wp2_with fail
     (with_reducible refine Aw.out.mono ?_);rintro en v3 ⟨tv3,rfl,nZ,Ck,AD⟩
     have ib:=AD _ ik;obtain ⟨rb,rk,rfl,_,sY,AG⟩:=zi ib;have AG:Rep (fun i=>F i\/v2.heap.size<=i) v3 (.sl 32 1 rest.length (qg rest)) rk:=AG;have q0:v3.cell? ⟨rb,0,none⟩=some rk:=by simp [GD,sY]
     obtain ⟨ra,rc,rfl,_,_,_⟩:=zP AG;have sg:=mj (zzT nF.out nZ);have z1:=nE.out.size;have z2:=nF.out.size;have CA:Hid (Calls KD 103 #[.pointer (some ⟨pp,0,none⟩),.pointer (some ⟨qp,0,none⟩),.slice ka ns.length kc,.slice ra rest.length rc] v3 (qO (fun i=>F i\/w.heap.size<=i) v3 (vj p (zp (kinds ns) c q rest) ((kinds ns).length+rest.length)))):=by
      have AV:=zzT HK2.out.1 nZ;have e:ns.length=(kinds ns).length:=(jQ ns).symm;have Lw:Rep (fun i=>F i\/w.heap.size<=i) v3 (.sl 32 1 ns.length (qg (kinds ns))) (.slice ka ns.length kc):=(Rep.below nZ (fun _ h=>h) HK2.out.2).weak fun i h=>by rcases h with h | h;exact .inl h;exact .inr (by omega)
      have hrr3:Rep (fun i=>F i\/w.heap.size<=i) v3 (.sl 32 1 rest.length (qg rest)) (.slice ra rest.length rc):=AG.weak fun i h=>by rcases h with h | h;exact .inl h;exact .inr (by omega)
      rw [e] at Lw ⊢;exact apply_any _ (kinds ns) rest c p q _ _ _ _ v3 ⟨HP.out.1.glob.below sg.out,HA.out.2.2.1,HA.out.2.2.2.1,by rw [jQ];exact ia,Eg,HP.out.1.n15,HA.out.2.2.2.2,Rep.below AV (fun _ h=>h) HA.out.1,Rep.below AV (fun _ h=>h) HA.out.2.1,Lw,hrr3⟩
     clear ib sY AG Ck AD nZ Aw;go_wp2_with fail
     (with_reducible refine CA.out.mono ?_);rintro en v4 ⟨bv,rfl,nS,hn4,hy4⟩
     have oR:=mj (mu (zzT sg.out nS) (mu hn4 hy4));have z3:=sg.out.size;clear nS hn4 hy4;go_wp2_with fail
     go_ret;rw [HT.out];exact ⟨bv,rfl,oR.out.1,oR.out.2.1,fun b h=>(oR.out.2.2 b h).weak fun i h=>by rcases h with h | h;exact h;exact .inr (by omega)⟩
theorem meant_ite (N:Nat) (ih:xN N) (F:Nat->Prop) (l m n:Tm) (ns:List Nm) (kt:Ty) (tv lv:Value) (w:World) (hN:zT (.ite l m n)<=N+1) (hp:mI F (.ite l m n) ns kt tv lv w):Calls KD 64 #[tv,lv] w (qO F w (kO ns (.ite l m n))):=by
 obtain ⟨tb,kv,slv,rfl,_,mm,_,_,i8⟩:=jf hp.rt;obtain ⟨pa,pc,rfl,_,_,ml⟩:=zP i8;simp only [xS,xT,ifW] at mm;obtain ⟨aj,aO,Kw,Kx,D6,_,Br,Az,Bc,i7⟩:=ml 0 (by simp [zo]);simp only [zo,Ol,OU,N9,N8,N1] at Az;subst Az;obtain ⟨Ax,e0⟩:=qM i7;subst e0;subst D6;obtain ⟨nB,nH,pu1,ox,lJ,_,sK,aI,az,aV⟩:=ml 1 (by simp [zo]);simp only [zo,Ol,OU,N9,N8,N1] at aI;subst aI;obtain ⟨DY,e1⟩:=qM aV;subst e1;simp only [N1,Addr.mk.injEq,and_true] at lJ;obtain ⟨rfl,rfl⟩:=lJ;obtain ⟨Ip,In,pu2,oy,lQ,_,Ay,lK,lV,iL⟩:=ml 2 (by simp [zo]);simp only [zo,Ol,OU,N9,N8,N1] at lK;subst lK;obtain ⟨Kt,e2⟩:=qM iL;subst e2;simp only [N1,Addr.mk.injEq,and_true] at lQ;obtain ⟨rfl,rfl⟩:=lQ;have t0:w.cell? ⟨tb,0,none⟩=some (str [105,102]):=by simp [GD,mm]
 have t3:w.cell? ⟨tb,3,none⟩=some (.slice (some ⟨aj,aO,none⟩) 3 pc):=by simp [GD,mm,zo]
 have nz:=hp.room;have nC:=hp.ok;have ik:=hp.ty;have CT:=mj (fun wz (hz:Below w.heap.size w wz)=>gz (zT (.ite l m n)) F (.ite l m n) ns _ _ wz (my _) ⟨Rep.below hz (fun _ h=>h) hp.rt,Rep.below hz (fun _ h=>h) hp.rl,hp.ok,hp.n15,by omega⟩);rw [zT] at nz hN;obtain ⟨DO,i_,M0⟩:=cC ik;obtain ⟨la,lc,rfl,_,_⟩:=AtNms.of hp.rl;have SX:Hid (∀ w',Below w.heap.size w w'->w'.cell? ⟨tb,3,none⟩=some (.slice (some ⟨aj,aO,none⟩) 3 pc)/\w'.cell? ⟨aj,aO,none⟩=some (.pointer (some ⟨Ax,0,none⟩))/\w'.cell? ⟨aj,aO+1,none⟩=some (.pointer (some ⟨DY,0,none⟩))/\w'.cell? ⟨aj,aO+2,none⟩=some (.pointer (some ⟨Kt,0,none⟩))):=by
  show ∀ w',_->_;intro w' nW;exact ⟨(nW.cell (mx w _ t3)).trans t3,(nW.cell Br).trans Bc,(nW.cell sK).trans az,(nW.cell Ay).trans lV⟩
 have C0:=mj (fun wz (hz:Below w.heap.size w wz)=>ih F l ns _ (.pointer (some ⟨Ax,0,none⟩)) (.slice la ns.length lc) wz (by omega) ⟨hp.glob.below hz,Rep.below hz (fun _ h=>h) i7,Rep.below hz (fun _ h=>h) hp.rl,nC.1,hp.n15,by omega,DO⟩);have C1:=mj (fun wz (hz:Below w.heap.size w wz)=>ih F m ns _ (.pointer (some ⟨DY,0,none⟩)) (.slice la ns.length lc) wz (by omega) ⟨hp.glob.below hz,Rep.below hz (fun _ h=>h) aV,Rep.below hz (fun _ h=>h) hp.rl,nC.2.1,hp.n15,by omega,i_⟩);have C2:=mj (fun wz (hz:Below w.heap.size w wz)=>ih F n ns _ (.pointer (some ⟨Kt,0,none⟩)) (.slice la ns.length lc) wz (by omega) ⟨hp.glob.below hz,Rep.below hz (fun _ h=>h) iL,Rep.below hz (fun _ h=>h) hp.rl,nC.2.2,hp.n15,by omega,M0⟩);have HP:=mj (mu hp nC);clear hp ml i8 mm nC hN ih i7 Bc Br aV az sK iL lV Ay;go_enter P5,PT;go_wp2_with fail
 refine wp_region_noPanic ?_;refine zB (fun w'=>Below w.heap.size w w') (fun _=>false) (by kernel_rfl) ?_;have mt:(fun w'=>Below w.heap.size w w') w.drew:=Below.drew (mw _ _);refine tC [0,1,2,3,4,5,6,8,9,10,11,12,13,14,16,17,18,19,20,21,22] mt ?_;iterate 21 (refine tl (fun w' nP=>SX.out w' nP) ?_)
 refine tz ?_;(refine on 7 ?_;intro o ho K' hK;simp at ho;subst ho;go_simp);go_at_call 31;(with_reducible refine (C0.out _ mt).mono ?_);rintro en v0 ⟨x0,rfl,nN,hn0,oh⟩;have sA:Hid (Below w.heap.size w v0):=mt.trans nN;have E9:Hid ((zL ns l=none->x0=.pointer none)/\(∀ k,zL ns l=some k->Rep (fun i=>F i\/w.heap.size<=i) v0 (k_ k) x0)):=⟨hn0,fun k h=>(oh k h).weak fun i h=>by rcases h with h | h;exact .inl h;exact .inr (h)⟩;have Kq:=mj nN;clear nN hn0 oh;(refine hK.out _ _ (fun _=>sA.out) ?_;clear hK K';try simp only [pQ,pN,pZ,pS]);have DP:=sA.out;(refine on 15 ?_;intro o ho K' hK;simp at ho;subst ho;go_simp);go_at_call 31;(with_reducible refine (C1.out _ sA.out).mono ?_);rintro en v1 ⟨x1,rfl,mi,nh,nf⟩;have nE:Hid (Below w.heap.size w v1):=zzT sA.out mi;have E8:Hid ((zL ns m=none->x1=.pointer none)/\(∀ k,zL ns m=some k->Rep (fun i=>F i\/w.heap.size<=i) v1 (k_ k) x1)):=⟨nh,fun k h=>(nf k h).weak fun i h=>by rcases h with h | h;exact .inl h;exact .inr (mh sA.out.size h)⟩;have DR:=mj mi;clear mi nh nf;(refine hK.out _ _ (fun _=>nE.out) ?_;clear hK K';try simp only [pQ,pN,pZ,pS]);have EX:=nE.out;(refine on 23 ?_;intro o ho K' hK;simp at ho;subst ho;go_simp);go_at_call 31;(with_reducible refine (C2.out _ nE.out).mono ?_);rintro en v2 ⟨x2,rfl,me,aK,iO⟩;have nF:Hid (Below w.heap.size w v2):=zzT nE.out me;have Hg:Hid ((zL ns n=none->x2=.pointer none)/\(∀ k,zL ns n=some k->Rep (fun i=>F i\/w.heap.size<=i) v2 (k_ k) x2)):=⟨aK,fun k h=>(iO k h).weak fun i h=>by rcases h with h | h;exact .inl h;exact .inr (mh nE.out.size h)⟩;have NQ:=mj me;clear me aK iO;(refine hK.out _ _ (fun _=>nF.out) ?_;clear hK K';try simp only [pQ,pN,pZ,pS]);have Jk:=nF.out;refine tC [24,25,26] Jk ?_;iterate 3 (refine tx ?_)
 refine tz ?_;refine zY (by kernel_rfl) (N0 ?_) _;clear t3 C0 C1 C2;cases hl:zL ns l with
 | none =>
   obtain rfl:=E9.out.1 hl;have HQ:=mj (show kO ns (.ite l m n)=none by rw [kO,hl];rfl);clear hl;go_wp2_with fail
   go_ret;exact qO.no HQ.out nF.out
 | some p =>
   have Fk:=Rep.below (F':=fun i=>F i\/w.heap.size<=i) NQ.out (fun _ h=>h) (Rep.below (F':=fun i=>F i\/w.heap.size<=i) DR.out (fun _ h=>h) (E9.out.2 p hl));obtain ⟨pp,rfl⟩:=za Fk;cases hm:zL ns m with
   | none =>
     obtain rfl:=E8.out.1 hm;have HQ:=mj (show kO ns (.ite l m n)=none by rw [kO,hl,hm];rfl);clear hl hm Fk;go_wp2_with fail
     go_ret;exact qO.no HQ.out nF.out
   | some q =>
     have Cg:=Rep.below (F':=fun i=>F i\/w.heap.size<=i) NQ.out (fun _ h=>h) (E8.out.2 q hm);obtain ⟨qp,rfl⟩:=za Cg;cases hn:zL ns n with
     | none =>
       obtain rfl:=Hg.out.1 hn;have HQ:=mj (show kO ns (.ite l m n)=none by rw [kO,hl,hm,hn];rfl);clear hl hm hn Fk Cg;go_wp2_with fail
       go_ret;exact qO.no HQ.out nF.out
     | some r =>
       have AG:=Hg.out.2 r hn;obtain ⟨rp,rfl⟩:=za AG;obtain ⟨f1,w1,s1⟩:=jp l ns _ p HP.out.2.1 HP.out.1.n15 DO hl;have EA:=qV m ns kt HP.out.1.n15 i_;have iu:=um EA
       have sO:lvB p:=fit_lv 200 p (kinds ns++(Ty.mk []).args) s1 f1 (fun t ht=>by
        rcases Oy.1 ht with ht | ht
        ·exact HP.out.1.n15 t ht
        ·simp [Ty.args] at ht) (by rw [NZ,jQ];simp [Ty.args];omega)
       have HT:=mj (show kO ns (.ite l m n)=some (qW (kH p ns.length kt.args.length) q r) by
        rw [kO,hl,hm,hn,Mm,Mm,Mm,i_,Mm])
       have Aw:=mj (CT.out v2 nF.out);have HA:=mj (mu Fk (mu Cg (mu AG (mu sO (mu s1 w1)))));have ia:ns.length<=100:=by omega
       clear hl hm hn Fk Cg AG f1 w1 s1 EA DO i_ M0 sO;go_wp2_with fail
       (with_reducible refine Aw.out.mono ?_);rintro en v3 ⟨tv3,rfl,nZ,Ck,AD⟩
       have ib:=AD _ ik;obtain ⟨rb,rk,rfl,_,sY,AG⟩:=zi ib;have q0:v3.cell? ⟨rb,0,none⟩=some rk:=by simp [GD,sY]
       obtain ⟨ra,rc,rfl,_,_,_⟩:=zP AG;have sg:=mj (zzT nF.out nZ);have z2:=nF.out.size;have CR:=mj (raised_any (zX p) (fun i=>F i\/w.heap.size<=i) p ns.length kt.args.length _ v3 (my _) (by have:=HA.out.2.2.2.2.1;omega) HA.out.2.2.2.1 (by omega) (by omega) (Rep.below nZ (fun _ h=>h) HA.out.1));have HQ3:=mj (mu (Rep.below (F':=fun i=>F i\/w.heap.size<=i) nZ (fun _ h=>h) HA.out.2.1) (Rep.below (F':=fun i=>F i\/w.heap.size<=i) nZ (fun _ h=>h) HA.out.2.2.1));clear ib sY AG Ck AD nZ Aw;go_wp2_with fail
       (with_reducible refine CR.out.mono ?_);rintro en v4 ⟨sp,rfl,nS,Dk⟩
       have z3:=sg.out.size;have oR:=mj (zzT sg.out nS);have Ly:Rep (fun i=>F i\/w.heap.size<=i) v4 (k_ (kH p ns.length kt.args.length)) (.pointer (some ⟨sp,0,none⟩)):=Dk.weak fun i h=>by rcases h with h | h;exact h;exact .inr (by omega)
       have CG:=mj (answered_any _ (fun i=>F i\/w.heap.size<=i) (kH p ns.length kt.args.length) q r _ _ _ v4 (my _) (wF _ _ _ HA.out.2.2.2.2.2) Ly (Rep.below nS (fun _ h=>h) HQ3.out.1) (Rep.below nS (fun _ h=>h) HQ3.out.2));clear Dk Ly nS q0 CR;go_wp2_with fail
       (with_reducible refine CG.out.mono ?_);rintro en v5 ⟨gp,rfl,nR,Eo⟩
       have z4:=oR.out.size;have oM:=mj (mu (zzT oR.out nR) Eo);clear nR Eo;go_wp2_with fail
       go_ret;exact qO.yes HT.out oM.out.1 (oM.out.2.weak fun i h=>by rcases h with h | h;exact h;exact .inr (by omega))
theorem meant_step (N:Nat) (ih:xN N):eW (N+1):=by
 intro F t ns k tv lv w h hp;cases t with
 | nm x=>exact meant_nm F x ns k tv lv w hp
 | wd u=>exact meant_wd F u ns k tv lv w hp
 | lam x k1 t=>exact meant_lam N ih F x k1 t ns k tv lv w h hp
 | app m n=>exact meant_app N ih F m n ns k tv lv w h hp
 | ite l m n=>exact meant_ite N ih F l m n ns k tv lv w h hp
theorem meant_any (N:Nat):eW N:=by
 induction N with
 | zero=>exact fun F t ns k tv lv w h=>by have:=fN t;omega
 | succ N ih=>exact meant_step N (fc N ih)
theorem means_any (N:Nat):xN N:=fc N (meant_any N)
def MofPost (w:World) (o:Option (Ty×Bd)) (en:Ending) (w':World):Prop :=
 ∃ kv bv,en=.returned (.tuple #[kv,bv])/\Below w.heap.size w w'/\(o=none->bv=.pointer none)/\∀ x,o=some x->Rep (w.heap.size<=·) w' (jT x.1) kv/\Rep (w.heap.size<=·) w' (k_ x.2) bv
theorem dc (F:Nat->Prop) (w:World):Rep F w (.sl 109 2 ([]:List Nm).length (jm [])) (.slice none 0 0) :=
 zg.2 ⟨rfl,none,0,rfl,my _,fun _=>rfl,.inl rfl⟩
theorem bw (s:Bs) (w:World) (he:yW w) (hs:Lim s.length) :
 Calls KD 12 #[str s] w (MofPost w (j9 s)):=by
 have C0:=mj (cA s w hs);have HE:=mj he;clear he hs;go_enter Tryz.func12,Tryz.ntmps12;go_wp2_with fail
 (with_reducible refine C0.out.mono ?_)
 rintro en w1 ⟨v,rfl,mi,nh,nf⟩;cases ht:qr s with
 | none =>
   obtain rfl:=nh ht;have HM:=mj (show j9 s=none by unfold j9;rw [ht];rfl);have HB:=mj mi;clear ht nh nf mi;go_wp2_with fail
   go_ret2
   exact ⟨_,_,rfl,HB.out,fun _=>rfl,fun x h=>by rw [HM.out] at h;simp at h⟩
 | some t =>
   have hr:=nf t ht;obtain ⟨tb,rfl⟩:=qM hr;obtain ⟨_,nC,Bp⟩:=vh ht;have CT:=mj (gz (zT t) (w.heap.size<=·) t [] _ _ w1 (my _) ⟨hr,dc _ _,nC,by simp [kinds],by simp;omega⟩);have HT:=mj (mu hr (mu nC Bp));have HB:=mj mi;have HM:=mj (show j9 s=(typeOf [] t).bind fun k=>(zL [] t).map fun b=>(k,b) by unfold j9;rw [ht];rfl);clear ht nh nf mi hr nC Bp;go_wp2_with fail
   (with_reducible refine CT.out.mono ?_);rintro en w2 ⟨kv,rfl,me,aK,iO⟩
   have nF:=mj (zzT HB.out me);cases hk:typeOf [] t with
   | none =>
     obtain rfl:=aK hk;have Hp:=mj (show j9 s=none by rw [HM.out,hk];rfl);clear hk aK iO me;go_wp2_with fail
     go_ret2
     exact ⟨_,_,rfl,nF.out,fun _=>rfl,fun x h=>by rw [Hp.out] at h;simp at h⟩
   | some k =>
     have rD:Rep (w.heap.size<=·) w2 (jT k) kv:=(iO k hk).weak fun i h=>by rcases h with h | h;exact h;exact mh HB.out.size h
     obtain ⟨kb,_,e,_⟩:=zi rD;subst e;have CM:=mj (means_any (zT t) (w.heap.size<=·) t [] k _ _ w2 (my _) ⟨HE.out.below nF.out,Rep.below me (fun _ h=>h) HT.out.1,dc _ _,HT.out.2.1,by simp [kinds],by have:=HT.out.2.2;simp;omega,hk⟩);have HK:=mj rD;have Hp:=mj (show j9 s=(zL [] t).map fun b=>(k,b) by rw [HM.out,hk];rfl);clear hk aK iO me rD;go_wp2_with fail
     (with_reducible refine CM.out.mono ?_);rintro en w3 ⟨bv,rfl,nZ,Ck,AD⟩
     have sg:=mj (mu (zzT nF.out nZ) (mu (Rep.below (F':=(w.heap.size<=·)) nZ (fun _ h=>h) HK.out) (mu Ck AD)));have z2:=nF.out.size;clear nZ Ck AD;go_wp2_with fail
     go_ret2
     refine ⟨_,_,rfl,sg.out.1,fun h=>?_,fun x h=>?_⟩
     ·rw [Hp.out,Option.map_eq_none_iff] at h;exact sg.out.2.2.1 h
     ·rw [Hp.out,N3] at h;obtain ⟨b,hb,rfl⟩:=h;exact ⟨sg.out.2.1,(sg.out.2.2.2 b hb).weak fun i h=>by rcases h with h | h;exact h;exact mh z2 h⟩
def pA (s:Bs):Option Bs:=(j9 s).map fun x=>kI x.2
theorem gX (s:Bs) (w:World) (hg:yP w) (he:yW w) (hs:Lim s.length) :
 Calls KD 5 #[str s] w fun en w'=>en=.returned (.tuple #[str ((pA s).getD []),.bool (pA s).isSome])/\Below w.heap.size w w':=by
 have C0:=mj (bw s w he hs);have HG:=mj hg;clear hg he hs;go_enter Tryz.func5,Tryz.ntmps5;go_wp2_with fail
 (with_reducible refine C0.out.mono ?_)
 rintro en w1 ⟨kv,bv,rfl,mi,nh,nf⟩;cases hq:j9 s with
 | none =>
   obtain rfl:=nh hq;have HM:=mj (show pA s=none by unfold pA;rw [hq];rfl);have HB:=mj mi;clear hq nh nf mi;go_wp2_with fail
   go_ret2
   exact ⟨by rw [HM.out];rfl,HB.out⟩
 | some x =>
   obtain ⟨k,b⟩:=x;obtain ⟨rk,rb⟩:=nf _ hq;obtain ⟨_,oA⟩:=xC hq;obtain ⟨bb,rfl⟩:=za rb;have CT:=mj (text_any (zX b) b (my _) (by have:=oA.size;omega) oA.lv _ w1 _ (HG.out.below mi) rb);have HM:=mj (show pA s=some (kI b) by unfold pA;rw [hq];rfl);have HB:=mj mi;clear hq nh nf mi rk rb oA;go_wp2_with fail
   (with_reducible refine CT.out.mono ?_);rintro en w2 ⟨rfl,me⟩
   have nF:=mj (zzT HB.out me);clear me;go_wp2_with fail
   go_ret2
   exact ⟨by rw [HM.out];rfl,nF.out⟩
def bh (s:Bs):Option Bs:=(px s).map zN
theorem di (s:Bs) (w:World) (hs:Lim s.length) :
 Calls KD 7 #[str s] w fun en w'=>en=.returned (.tuple #[str ((bh s).getD []),.bool (bh s).isSome])/\Below w.heap.size w w':=by
 have C0:=mj (cA s w hs);clear hs;go_enter Tryz.func7,Tryz.ntmps7;go_wp2_with fail
 (with_reducible refine C0.out.mono ?_)
 rintro en w1 ⟨v,rfl,mi,nh,nf⟩;cases ht:qr s with
 | none =>
   obtain rfl:=nh ht;have HM:=mj (show bh s=none by unfold bh px;rw [ht];rfl);have HB:=mj mi;clear ht nh nf mi;go_wp2_with fail
   go_ret2
   exact ⟨by rw [HM.out];rfl,HB.out⟩
 | some t =>
   have hr:=nf t ht;obtain ⟨tb,rfl⟩:=qM hr;obtain ⟨_,nC,Bp⟩:=vh ht;have CT:=mj (gz (zT t) (w.heap.size<=·) t [] _ _ w1 (my _) ⟨hr,dc _ _,nC,by simp [kinds],by simp;omega⟩);have HB:=mj mi;have HM:=mj (show bh s=(typeOf [] t).map zN by unfold bh px;rw [ht];rfl);clear ht nh nf mi hr nC Bp;go_wp2_with fail
   (with_reducible refine CT.out.mono ?_);rintro en w2 ⟨kv,rfl,me,aK,iO⟩
   have nF:=mj (zzT HB.out me);cases hk:typeOf [] t with
   | none =>
     obtain rfl:=aK hk;have Hp:=mj (show bh s=none by rw [HM.out,hk];rfl);clear hk aK iO me;go_wp2_with fail
     go_ret2
     exact ⟨by rw [Hp.out];rfl,nF.out⟩
   | some k =>
     have rD:=iO k hk;have nX:=qV t [] k (by simp [kinds]) hk;obtain ⟨kb,_,e,_⟩:=zi rD;subst e;have CK:=mj (gj 15 k nX (by omega) _ w2 _ rD);have Hp:=mj (show bh s=some (zN k) by rw [HM.out,hk];rfl);clear hk aK iO me rD nX;go_wp2_with fail
     (with_reducible refine CK.out.mono ?_);rintro en w3 ⟨rfl,nZ⟩
     have sg:=mj (zzT nF.out nZ);clear nZ;go_wp2_with fail
     go_ret2
     exact ⟨by rw [Hp.out];rfl,sg.out⟩
end Go.Proofs.YtpgiohmcggllgaaGreatDoor

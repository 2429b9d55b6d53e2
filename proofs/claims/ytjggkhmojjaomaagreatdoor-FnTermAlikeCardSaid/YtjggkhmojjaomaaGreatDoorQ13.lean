/- Walks of functions that the statement reaches, and plain words. No conditions. -/
import Derived.Deep.DeepCutAuto
import Derived.Test.YtjggkhmojjaomaaGreatDoorQ11
set_option linter.unusedVariables false
set_option linter.unusedSimpArgs false
set_option maxHeartbeats 4000000
namespace Go.Proofs.YtjggkhmojjaomaaGreatDoor
open Go.RowKit
theorem decNat (n:Nat):dec n=Lib.decDigits n:=by
 induction n using Nat.strongRecOn with
 | _ n ih =>
   by_cases h:n<10
   ·rw [vD h,Lib.decDigits,dif_pos h];rfl
   ·rw [uN h,Lib.decDigits,dif_neg h,ih (n / 10) (Nat.div_lt_self (by omega) (by omega))];rfl
theorem itoaNat (i:Nat):Lib.itoa (i:Int)=dec i:=by
 rw [decNat,Lib.itoa,if_neg (by omega)];rfl
theorem lvBs_of:∀ xs:List Bd,(∀ b∈xs,lvB b)->gH xs
 | [],_=>by rw [gH];trivial
 | b::bs,h=>by rw [gH];exact ⟨h b (by simp),lvBs_of bs fun x hx=>h x (by simp [hx])⟩
theorem fit_lv (n:Nat):∀ (b:Bd) (h:List Ty),zW b<=n->jP h b->(∀ t∈h,zV t<=15)->h.length+15*n<=10000->lvB b:=by
 induction n with
 | zero=>intro b h hs;have:=kW b;omega
 | succ n ih =>
   intro b h hs hf ha hl
   cases b with
   | leaf c=>rw [lvB];trivial
   | ask v ss y no =>
     rw [jP] at hf
     obtain ⟨t,ht,f1,f2,f3⟩:=hf
     rw [zW] at hs
     have hy:=kW y
     have hn:=kW no
     have hv:=(List.getElem?_eq_some_iff.1 ht).1
     have az:=ha t (List.mem_of_getElem? ht)
     rw [lvB]
     refine ⟨by omega,lvBs_of ss fun b hb=>?_,ih y h (by omega) f2 ha (by omega),ih no h (by omega) f3 ha (by omega)⟩
     have hsz:=vL hb
     obtain ⟨k,hk⟩:=List.mem_iff_getElem?.1 hb
     obtain ⟨x,hx,hxf⟩:=w_ _ _ f1 k b hk
     simp only [jg,List.getElem?_map,Option.map_eq_some_iff] at hx
     obtain ⟨a,lq,rfl⟩:=hx
     have mo:=(zo az).1 a (List.mem_of_getElem? lq)
     have lB:=zo mo
     refine ih b (h++a.args) (by omega) hxf (fun t ht=>?_) (by rw [List.length_append];omega)
     rcases List.mem_append.1 ht with h | h
     ·exact ha t h
     ·exact lB.1 t h
theorem eh.lv {t:Ty} {b:Bd} (h:eh t b):lvB b :=
 fit_lv 200 b t.args h.size h.fit (zo h.atoms).1 (by have:=(zo h.atoms).2;omega)
theorem yA:∀ bs:List Bd,Lib.joinTail [32] (bs.map kJ)=kT bs
 | []=>rfl
 | b::bs=>by
   have:=yA bs
   simp only [Lib.joinTail,List.map_cons,List.flatten_cons] at this ⊢
   rw [this,kT]
theorem textB_join (v:Nat) (ss:List Bd) (y n:Bd):kJ (.ask v ss y n)=[40]++Lib.join (dec v::(ss++[y,n]).map kJ) [32]++[41]:=by
 rw [Lib.join_cons,yA,vX,kJ,kT,kT,kT];simp
def dI (b:Bd):Prop:=∀ (F:Nat->Prop) (w:World) (v:Value),b8 w->Rep F w (qZ b) v ->
 Calls Tryz.prog 15 #[v] w fun en w'=>en=.returned (str (kJ b))/\Below w.heap.size w w'
theorem Tryz.infoStrA:(Tryz.prog.info? 9).map (fun i=>(i.zero,i.size,i.bytes))=some (some (str []),1,16):=by kernel_rfl
theorem Own.strings {w:World} {e:TypeId} {v:Value} {n:Nat} {ts:List Bs} (h:Own w e 1 v n (ts.map str)) (hn:0<n) :
 ∃ g cap,v=.slice (some ⟨g,0,none⟩) n cap/\n<=cap/\g<w.heap.size/\ts.length=n/\∀ (j:Nat) (x:ByteArray),(ts.map fun t=>(⟨t.toArray⟩:ByteArray))[j]? = some x->w.cell? ⟨g,0+j,none⟩=some (.string x):=by
 have hl:=h.1
 rcases h.2 with ⟨_,h0⟩ | ⟨g,cap,cur,rfl,_,hg,aR,_,hcs,ht⟩
 ·omega
 ·refine ⟨g,cap,rfl,aR,zZ hg,by simpa using hl,fun j x hj=>?_⟩
  rw [List.getElem?_map,Option.map_eq_some_iff] at hj
  obtain ⟨t,ht1,rfl⟩:=hj
  have h1:(ts.map str)[j]? = some (str t):=by rw [List.getElem?_map,ht1];rfl
  rw [<- ht,List.getElem?_take] at h1
  split at h1
  ·rw [Nat.zero_add];simp only [World.cell?,hg];simpa using h1
  ·simp at h1
structure TInv (lv:Nat) (ps:List Bd) (w w2 w4:World) (k:Nat) (v:Value) (wr:World):Prop where
 own:Own wr 9 1 v (k+1) ((dec lv::(ps.take k).map kJ).map str)
 bel:Below w.heap.size w wr
 but:But (· = w2.heap.size) w4 wr
 fr:∀ g,v.ownBlock=some g->g=w2.heap.size\/w4.heap.size<=g
set_option maxRecDepth 100000 in
theorem text_step (b:Bd) (hl:zW b<=100000) (rC:lvB b) (ih:∀ t,zW t<zW b->lvB t->dI t):dI b:=by
 intro F w v hg hv
 have IH:=ed ih;clear ih
 cases b with
 | leaf c =>
   obtain ⟨a0,sl,rfl,_,fJ,_⟩:=xd hv
   have r0:w.cell? ⟨a0,0,none⟩=some (str [c]):=by simp [World.cell?,fJ]
   have CL:=ed (yE F w c _ hv)
   clear fJ hv
   go_enter Tryz.func15,Tryz.ntmps15
   go_wp2_with fail
   (with_reducible refine CL.out.mono ?_)
   rintro en w3 ⟨rfl,rfl⟩
   go_wp2_with fail
   go_ret
   exact ⟨by rw [kJ];rfl,e_ _ _⟩
 | ask lv ss y no =>
   obtain ⟨a0,sl,yv,nv,rfl,_,fJ,_⟩:=uw hv
   have r1:w.cell? ⟨a0,1,none⟩=some (.int .i64 (lv:Nat)):=by simp [World.cell?,fJ]
   have Cg:=zZ fJ
   have CL:=ed (xQ F w lv ss y no _ hv)
   have FV:=rC
   rw [lvB] at FV
   have hlv1:=FV.1
   have C1:Calls Tryz.prog 30 #[.int .i64 (lv:Nat)] w fun en w'=>en=.returned (str (dec lv))/\Below w.heap.size w w':=by
    have:=itoa_any (lv:Nat) w hg (by omega) (by omega)
    rwa [itoaNat] at this
   have C1:=ed C1
   have HP:=ed (ef hv (ef hg (ef rC hl)));clear hv hg rC hl fJ FV
   go_enter Tryz.func15,Tryz.ntmps15
   go_wp2_with fail
   (with_reducible refine CL.out.mono ?_)
   rintro en w1 ⟨rfl,e⟩
   subst w1
   go_wp2_with fail
   (with_reducible refine C1.out.mono ?_)
   rintro en w2 ⟨rfl,fY⟩
   have nw:Below w.heap.size w (w2.alloc (.cells #[str (dec lv)] 9)):=fY.alloc fY.size _
   have nJ:=fY.size
   have hvA:Rep (fun i=>F i/\i<w.heap.size) (w2.alloc (.cells #[str (dec lv)] 9)) (qZ (.ask lv ss y no)) (.pointer (some ⟨a0,0,none⟩)):=Rep.below nw (fun _ h=>h) (Rep.low HP.out.1)
   have CP:=ed (cU _ _ _ _ hvA (by have:=HP.out.2.2.2;unfold Lim;omega))
   have hp:kI (.ask lv ss y no)=ss++[y,no]:=rfl
   unfold pd at CP
   rw [hp] at CP
   have hsz:zR (ss++[y,no])+1=zW (.ask lv ss y no):=by rw [jy,zW,zR,zR,zR];omega
   have nN:∀ b∈ss++[y,no],lvB b:=by
    have:=HP.out.2.2.1
    rw [lvB] at this
    intro b hb
    rcases List.mem_append.1 hb with h | h
    ·obtain ⟨k,hk⟩:=List.mem_iff_getElem?.1 h
     exact dH _ this.2.1 k b hk
    ·simp at h
     rcases h with rfl | rfl
     ·exact this.2.2.1
     ·exact this.2.2.2
   have EI:=textB_join lv ss y no
   have tS:kT (ss++[y,no])=Lib.joinTail [32] ((ss++[y,no]).map kJ):=(yA _).symm
   have Ja:=u_ (ss++[y,no]) (lvBs_of _ nN)
   have hdl:(dec lv).length<=5:=u6 4 lv (by omega)
   have hb100:=HP.out.2.2.2
   have EE:=Own.litAt (w:=w2) (e:=9) (size:=1) #[str (dec lv)] 1 _ rfl (by decide) rfl
   generalize hpp:ss++[y,no]=ps at *
   have HQ:=ed (ef hsz (ef nN (ef EI (ef tS (ef Ja (ef nw EE))))));clear hsz nN EI tS Ja nw hvA fY EE hp hpp
   go_wp2_with fail
   (with_reducible refine CP.out.mono ?_)
   rintro en w4 ⟨pv,rfl,fx,hp4⟩
   obtain ⟨pa,pc,e,_,_,fU⟩:=zP hp4
   subst e
   have hz4:=fx.size
   rw [zK] at hz4
   have GT:=HQ.out.1
   have IV:=qB ps
   have sQ:=ed (ef fx fU);clear fx hp4 fU GT
   have ED:ps.length<=100000:=by have:=HQ.out.1;omega
   clear IV
   go_wp2_with fail
   go_loopw [3,22] (fun o i wr=>∃ k:Nat,k<=ps.length/\i=.int .i64 k/\TInv lv ps w w2 w4 k o wr) (fun _ i _=>ps.length-(intOf i).toNat)
   case atStart =>
    refine ⟨0,Nat.zero_le _,rfl,?_,HQ.out.2.2.2.2.2.1.trans (sQ.out.1.mono (by rw [zK];omega)),But.refl _ _,fun g hg=>.inl ?_⟩
    ·exact HQ.out.2.2.2.2.2.2.keep fun g o hg hh=>by rw [sQ.out.1.block g (zZ hh)];exact hh
    ·simp [Value.ownBlock] at hg;omega
   case round =>
    rename_i wr
    obtain ⟨k,hk,rfl,fH⟩:=hrel
    obtain ⟨sa,sc,e⟩:=fH.own.slice
    subst e
    have HI:=ed fH;clear fH
    by_cases fG:k<ps.length
    ·obtain ⟨ba,oa,u,d,ea,Kd,Gd,hd,hu,hr⟩:=sQ.out.2 k fG
     subst ea
     rw [xJ,Option.map_eq_some_iff] at hd
     obtain ⟨t,ht,rfl⟩:=hd
     obtain ⟨ta,eu⟩:=zi hr
     subst eu
     have hne:ba≠w2.heap.size:=by
      rcases Kd with h | h
      ·have:=h.2;omega
      ·rw [zK] at h;omega
     have hc:wr.cell? ⟨ba,oa+k,none⟩=some (.pointer (some ⟨ta,0,none⟩)):=(HI.out.but.cell Gd hne).trans hu
     have rA:Rep (fun _=>True) wr (qZ t) (.pointer (some ⟨ta,0,none⟩)):=by
      refine (Rep.keep fun b o hf hh=>⟨trivial,?_⟩).1 _ _ hr
      rw [HI.out.but.block b (zZ hh) (fun e=>?_)]
      ·exact hh
      ·have e:b=w2.heap.size:=e
       rcases hf with h | h
       ·have:=h.2;omega
       ·rw [zK] at h;omega
     have mF:=List.mem_of_getElem? ht
     have iN:zW t<zW (.ask lv ss y no):=by have:=vL mF;have:=HQ.out.1;omega
     have IH':=ed (IH.out t iN (HQ.out.2.1 t mF) _ wr _ (HP.out.2.1.below HI.out.bel) rA)
     have HT:=ed ht
     clear ht hu hr rA mF
     go_wp2_with fail
     (with_reducible refine IH'.out.mono ?_)
     rintro en w5 ⟨rfl,fv⟩
     have r7:=ed fv;clear fv
     go_wp2_with (at_builtin;refine zD rfl _ _ 51 rfl 9 (str []) 1 16 Tryz.underlying51 Tryz.infoStrA rfl (by decide) (.slice sa (k+1) sc) (k+1) ((dec lv::(ps.take k).map kJ).map str) rfl ?c1 _ 1 [str (kJ t)] rfl ?c2 ?c3 ?c4 ?_)
     case c1=>exact (HI.out.own.keep fun g o hg hh=>by rw [r7.out.block g (zZ hh)];exact hh).alloc _
     case c2=>exact zO.lit1 #[str (kJ t)] rfl (by simp [Value.oneCell',str]) _ (by simp)
     case c3=>unfold maxLen;omega
     case c4=>omega
     intro a7 c7 w7 fu fW fR
     have hz5:=r7.out.size
     have hzb:=HI.out.bel.size
     have hzr:=HI.out.but.size
     have hN:TInv lv ps w w2 w4 (k+1) (.slice a7 (k+1+1) c7) w7:=by
      have hfr:∀ g,(Value.slice sa (k+1) sc).ownBlock=some g->w.heap.size<=g/\(g=w2.heap.size\/w4.heap.size<=g):=fun g hg=>by
       have:=HI.out.fr g hg
       exact ⟨by omega,this⟩
      refine ⟨?_,?_,?_,fun g hg=>?_⟩
      ·have:=fu
       simpa [List.take_add_one,HT.out,List.map_take] using this
      ·exact ((HI.out.bel.trans (r7.out.mono hzb)).alloc (by omega) _).trans (fW.toBelow (by rw [zK];omega) fun i hi e=>by have:=hfr i e;omega)
      ·refine But.trans' ((HI.out.but.trans (But.ofBelow r7.out)).alloc _) fW fun i hi e=>?_
       have h1:=(hfr i e).2
       rcases h1 with h | h
       ·exact h
       ·omega
      ·rcases fR g hg with h | h
       ·exact (hfr g h).2
       ·exact .inr (by omega)
     have HN:=ed hN;clear hN fu fW fR
     go_wp2_with fail
     go_roundw
     case rel=>exact ⟨k+1,by omega,by go_num,HN.out⟩
     case measure=>simp [intOf];omega
    ·obtain rfl:k=ps.length:=by omega
     have ho:=HI.out.own
     rw [List.take_length] at ho
     obtain ⟨g,cap,e,hcap,hglt,hlen,hcells⟩:=ho.strings (by omega)
     simp only [Value.slice.injEq] at e
     obtain ⟨rfl,_,rfl⟩:=e
     have hxl:((dec lv::ps.map kJ).map fun t=>(⟨t.toArray⟩:ByteArray)).length=ps.length+1:=by simp
     have hxm:(((dec lv::ps.map kJ).map fun t=>(⟨t.toArray⟩:ByteArray)).map (·.data.toList))=dec lv::ps.map kJ:=by simp [Function.comp_def]
     have FF:(⟨#[32]⟩:ByteArray).data.toList=[32]:=rfl
     have CJ:=Tryz.strings_Join g 0 sc ((dec lv::ps.map kJ).map fun t=>(⟨t.toArray⟩:ByteArray)) ⟨#[32]⟩ wr hcells hglt (by rw [hxl];omega) (by rw [hxl];omega) (by
      rw [hxm,FF,Lib.join_cons,List.length_append,<- HQ.out.2.2.2.1];have:=HQ.out.2.2.2.2.1;have:=HQ.out.1;omega)
     rw [hxl,hxm,FF] at CJ
     have CJ:=ed CJ
     have HJ:=ed HQ.out.2.2.1
     have Af:(Lib.join (dec lv::ps.map kJ) [32]).length<=2000000:=by
      rw [Lib.join_cons,List.length_append,<- HQ.out.2.2.2.1];have:=HQ.out.2.2.2.2.1;have:=HQ.out.1;omega
     clear ho hcells hxl hxm FF
     generalize hjn:Lib.join (dec lv::ps.map kJ) [32]=jn at *
     go_wp2_with fail
     (with_reducible refine CJ.out.mono ?_)
     rintro en w8 ⟨rfl,ft⟩
     have HB8:=ed (zzT HI.out.bel ft);clear ft
     go_wp2_with fail
     go_ret
     refine ⟨?_,HB8.out⟩
     rw [HJ.out]
     have e1:=str_add [40] jn
     have e2:=str_add ([40]++jn) [41]
     show Ending.returned (.string ((⟨([40]:Bs).toArray⟩++⟨jn.toArray⟩)++⟨([41]:Bs).toArray⟩))=_
     rw [e1,e2]
theorem dA (n:Nat):∀ b,zW b<=n->n<=100000->lvB b->dI b:=by
 induction n with
 | zero=>intro b h _;have:=kW b;omega
 | succ n ih=>exact fun b h hn rC=>text_step b (by omega) rC (fun t h' tH=>ih t (by omega) (by omega) tH)
structure Grow (w:World) (P:Nat) (o:Value->Obj) (e:TypeId) (sz k:Nat) (cs:List DV) (sv:Value) (us:List Value) (wr:World):Prop where
 below:Below P w wr
 blk:wr.heap[P]? = some (o sv)
 own:Own wr e sz sv k us
 rep:zX (fun i=>P<i/\sv.ownBlock≠some i) wr cs us
 fr:∀ g,sv.ownBlock=some g->P<g
theorem Grow.start {w:World} {P:Nat} {o:Value->Obj} {e:TypeId} {sz:Nat} (h:w.heap[P]? = some (o (.slice none 0 0))):Grow w P o e sz 0 [] (.slice none 0 0) [] w :=
 ⟨e_ _ _,h,World.ownsRow_nil _ _ _ _,by rw [zC],fun g hg=>by simp [Value.ownBlock] at hg⟩
theorem Grow.slice {w:World} {P:Nat} {o:Value->Obj} {e:TypeId} {sz k:Nat} {cs:List DV} {sv:Value} {us:List Value} {wr:World} (h:Grow w P o e sz k cs sv us wr):∃ a c,sv=.slice a k c:=h.own.slice
theorem Grow.next {w:World} {P:Nat} {o:Value->Obj} {e:TypeId} {sz k:Nat} {cs:List DV} {sv:Value} {us:List Value} {wr:World} (h:Grow w P o e sz k cs sv us wr)
 {w6 w7 w8:World} {ob:Obj} {ds:List DV} {news:List Value} {sv':Value} (fC:Below wr.heap.size wr w6) (my:zX (fun i=>wr.heap.size<=i) w6 ds news)
 (fu:Own w7 e sz sv' (k+1) (us++news)) (fW:But (fun b=>sv.ownBlock=some b) (w6.alloc ob) w7) (fR:∀ g,sv'.ownBlock=some g->sv.ownBlock=some g\/g=(w6.alloc ob).heap.size)
 (h8:w8.heap[P]? = some (o sv')) (ft:But (fun b=>b=P) w7 w8):Grow w P o e sz (k+1) (cs++ds) sv' (us++news) w8:=by
 have hz6:=fC.size
 have GQ:=fW.size
 rw [zK] at GQ
 have Gr:=zZ h.blk
 have ip:∀ i,sv.ownBlock=some i->P<i/\i<wr.heap.size:=fun i e=>⟨h.fr i e,h.own.lt e⟩
 have past:∀ (i:Nat) (x:Obj),i≠P->sv.ownBlock≠some i->w6.heap[i]? = some x->w8.heap[i]? = some x:=fun i x h1 h2 hx=>by
  have hl:=zZ hx
  rw [ft.block i (by omega) h1,fW.block i (by rw [zK];omega) h2,Below.heap_alloc _ _ _ hl];exact hx
 have rO:∀ g,sv'.ownBlock=some g->sv.ownBlock=some g\/w6.heap.size<g:=fun g hg=>by
  rcases fR g hg with e | e
  ·exact .inl e
  ·rw [zK] at e;exact .inr (by omega)
 refine ⟨?_,h8,fu.keep fun g x hg hx=>?_,zX.append ?_ ?_,fun g hg=>?_⟩
 ·have h1:Below P w (w6.alloc ob):=(h.below.trans (fC.mono (Nat.le_of_lt Gr))).alloc (by omega) _
  have h2:Below P w w7:=h1.trans (fW.toBelow (by rw [zK];omega) fun i hi e=>by have:=ip i e;omega)
  exact h2.trans (ft.toBelow (by omega) fun i hi e=>by omega)
 ·rw [ft.block g (zZ hx) (fun e=>by rcases rO g hg with e' | e';· have:=ip g e';omega
                                    ·omega)];exact hx
 ·have hk:∀ i x,(P<i/\sv.ownBlock≠some i)->wr.heap[i]? = some x->(P<i/\sv'.ownBlock≠some i)/\w8.heap[i]? = some x:=fun i x hi hx=>by
   refine ⟨⟨hi.1,fun e2=>?_⟩,past i x (by omega) hi.2 (by rw [fC.block i (zZ hx)];exact hx)⟩
   rcases rO i e2 with e' | e'
   ·exact hi.2 e'
   ·have:=zZ hx;omega
  exact (Rep.keep hk).2 _ _ h.rep
 ·have hk:∀ i x,wr.heap.size<=i->w6.heap[i]? = some x->(P<i/\sv'.ownBlock≠some i)/\w8.heap[i]? = some x:=fun i x hi hx=>by
   refine ⟨⟨by omega,fun e2=>?_⟩,past i x (by omega) (fun e2=>by have:=ip i e2;omega) hx⟩
   rcases rO i e2 with e' | e'
   ·have:=ip i e';omega
   ·have:=zZ hx;omega
  exact (Rep.keep hk).2 _ _ my
 ·rcases rO g hg with e' | e'
  ·exact h.fr g e'
  ·omega
theorem Grow.own6 {w:World} {P:Nat} {o:Value->Obj} {e:TypeId} {sz k:Nat} {cs:List DV} {sv:Value} {us:List Value} {wr:World} (h:Grow w P o e sz k cs sv us wr) {w6:World} (fC:Below wr.heap.size wr w6) (ob:Obj):Own (w6.alloc ob) e sz sv k us :=
 (h.own.keep (w':=w6) fun g _ _ hx=>by rw [fC.block g (zZ hx)];exact hx).alloc ob
theorem Grow.not {w:World} {P:Nat} {o:Value->Obj} {e:TypeId} {sz k:Nat} {cs:List DV} {sv:Value} {us:List Value} {wr:World} (h:Grow w P o e sz k cs sv us wr):¬ sv.ownBlock=some P:=fun e=>by have:=h.fr P e;omega
theorem Grow.sl {w:World} {P:Nat} {o:Value->Obj} {e:TypeId} {sz k:Nat} {cs:List DV} {sv:Value} {us:List Value} {wr:World} (h:Grow w P o e sz k cs sv us wr):Rep (fun i=>P<i) wr (.sl e sz k cs) sv :=
 h.own.rep (fun g hg=>h.fr g hg) ((Rep.keep fun _ _ hi hx=>⟨hi.1,hx⟩).2 _ _ h.rep)
theorem vc (w:World) (P f:Nat) (u:Value):But (fun b=>b=P) w (w.setCell ⟨P,f,none⟩ u):=(But.refl (fun b=>b=P) w).setCell (p:=⟨P,f,none⟩) (.inl rfl) u
theorem Grow.cell7 {w:World} {P:Nat} {o:Value->Obj} {e:TypeId} {sz k:Nat} {cs:List DV} {sv:Value} {us:List Value} {wr:World} (h:Grow w P o e sz k cs sv us wr) {w6 w7:World} {ob:Obj} (fC:Below wr.heap.size wr w6) (fW:But (fun b=>sv.ownBlock=some b) (w6.alloc ob) w7) :
 w7.heap[P]? = some (o sv):=by
 have Gr:=zZ h.blk
 have:=fC.size
 rw [fW.block P (by rw [zK];omega) h.not,Below.heap_alloc _ _ _ (by omega),fC.block P Gr];exact h.blk
theorem etas_take {ts:List Ty} {k:Nat} {t:Ty} (h:ts[k]? = some t) (v n:Nat):vi (ts.take (k+1)) v n=vi (ts.take k) v n++[eta t (v+k) n]:=by
 induction ts generalizing k v with
 | nil=>simp at h
 | cons a ts ih =>
   cases k with
   | zero=>simp at h;subst h;simp [vi]
   | succ k =>
     simp only [List.getElem?_cons_succ] at h
     simp only [List.take_succ_cons,vi,List.cons_append]
     rw [ih h,show v+1+k=v+(k+1) from by omega]
theorem arg_atoms {t a:Ty} {k:Nat} (h:t.args[k]? = some a):1+zV a<=zV t:=by
 have key:∀ (ts:List Ty) (k:Nat),ts[k]? = some a->1+zV a<=zt ts:=by
  intro ts
  induction ts with
  | nil=>intro k h;simp at h
  | cons x xs ih =>
    intro k h
    rw [zt]
    cases k with
    | zero=>simp at h;subst h;omega
    | succ k=>have:=ih k (by simpa using h);omega
 cases t with
 | mk ts=>rw [zV];have:=key ts k h;omega
theorem we {B b:Nat} {w:World} {c:UInt8} (h:w.heap[b]? = some (.cells #[str [c],.int .i64 0,.slice none 0 0,.pointer none,.pointer none] 68 (0,0))) (hB:B<=b):Rep (fun i=>B<=i) w (qZ (.leaf c)) (.pointer (some ⟨b,0,none⟩)):=by
 rw [qZ,ju]
 refine ⟨_,_,rfl,hB,h,?_⟩
 exact zQ.2 ⟨_,_,rfl,zH.2 rfl,zQ.2 ⟨_,_,rfl,zH.2 rfl,zQ.2 ⟨_,_,rfl,zp.2 ⟨rfl,none,0,rfl,ei _,fun _=>rfl,.inl rfl⟩,zQ.2 ⟨_,_,rfl,zH.2 rfl,zQ.2 ⟨_,_,rfl,zH.2 rfl,zC.2 rfl⟩⟩⟩⟩⟩
def xT (v:Nat) (yv nv sv:Value):Obj:=.cells #[str [],.int .i64 (v:Nat),sv,yv,nv] 68 (0,0)
set_option maxRecDepth 100000 in
theorem copyOf_any (m:Nat):∀ (t:Ty),zV t<=m->zV t<=15->∀ (F:Nat->Prop) (kv:Value) (v n:Nat) (w:World),Rep F w (jG t) kv->v<=1000000->n+16*zV t<=1000000 ->
 Calls Tryz.prog 75 #[kv,.int .i64 (v:Nat),.int .i64 (n:Nat)] w fun en w'=>∃ b,en=.returned (.pointer (some ⟨b,0,none⟩))/\Below w.heap.size w w'/\Rep (fun i=>w.heap.size<=i) w' (qZ (eta t v n)) (.pointer (some ⟨b,0,none⟩)):=by
 induction m with
 | zero=>intro t h;cases t;rw [zV] at h;omega
 | succ m ih =>
 intro t hm fM F kv v n w hk hv hn
 have IH:=ed ih
 obtain ⟨kb,ks,e,hkF,sK,DN⟩:=kZ hk
 subst e
 obtain ⟨ka,kc,e,_,_,lU⟩:=zP DN
 subst e
 have FY:=(zo fM).2
 have fU:=ed (zo fM).1
 have nT:=zZ sK
 have Ae:w.cell? ⟨kb,0,none⟩=some (.slice ka t.args.length kc):=by simp [World.cell?,sK]
 have HA:=ed lU
 obtain ⟨W,hW⟩:=zzN (((w.alloc (.cells #[str [116],.int .i64 0,.slice none 0 0,.pointer none,.pointer none] 68)).alloc (.cells #[str [102],.int .i64 0,.slice none 0 0,.pointer none,.pointer none] 68)).alloc (.cells #[str [],.int .i64 (v:Nat),.slice none 0 0,.pointer (some ⟨w.heap.size,0,none⟩),.pointer (some ⟨w.heap.size+1,0,none⟩)] 68))
 have rS:W.heap.size=w.heap.size+3:=by rw [<- hW];simp only [zK]
 have fD:Below w.heap.size w W:=by rw [<- hW];exact (((e_ _ _).alloc (ei _) _).alloc (by simp only [zK];omega) _).alloc (by simp only [zK];omega) _
 have bT:W.heap[w.heap.size]? = some (.cells #[str [116],.int .i64 0,.slice none 0 0,.pointer none,.pointer none] 68 (0,0)):=by rw [<- hW];exact zY (zY (zG _ _))
 have bF:W.heap[w.heap.size+1]? = some (.cells #[str [102],.int .i64 0,.slice none 0 0,.pointer none,.pointer none] 68 (0,0)):=by
  rw [<- hW];refine zY ?_
  have:=zG (w.alloc (.cells #[str [116],.int .i64 0,.slice none 0 0,.pointer none,.pointer none] 68)) (.cells #[str [102],.int .i64 0,.slice none 0 0,.pointer none,.pointer none] 68)
  rwa [zK] at this
 have bO:W.heap[w.heap.size+2]? = some (xT v (.pointer (some ⟨w.heap.size,0,none⟩)) (.pointer (some ⟨w.heap.size+1,0,none⟩)) (.slice none 0 0)):=by
  rw [<- hW]
  have:=zG ((w.alloc (.cells #[str [116],.int .i64 0,.slice none 0 0,.pointer none,.pointer none] 68)).alloc (.cells #[str [102],.int .i64 0,.slice none 0 0,.pointer none,.pointer none] 68)) (.cells #[str [],.int .i64 (v:Nat),.slice none 0 0,.pointer (some ⟨w.heap.size,0,none⟩),.pointer (some ⟨w.heap.size+1,0,none⟩)] 68)
  simp only [zK] at this
  exact this
 have HW:=ed (ef hW (ef rS (ef fD (ef bT (ef bF bO)))))
 clear hW rS fD bT bF bO DN sK lU ih hk
 go_enter Tryz.func75,Tryz.ntmps75
 go_upto_region 2 with (fail)
 rw [HW.out.1]
 have hk0W:W.cell? ⟨kb,0,none⟩=some (.slice ka t.args.length kc):=(HW.out.2.2.1.cell nT).trans Ae
 go_wp2_with fail
 go_loopw [22] (fun i wr=>∃ (k:Nat) (sv:Value) (us:List Value),k<=t.args.length/\i=.int .i64 k/\Grow W (w.heap.size+2) (xT v (.pointer (some ⟨w.heap.size,0,none⟩)) (.pointer (some ⟨w.heap.size+1,0,none⟩))) 34 1 k (q_ (vi (t.args.take k) n (n+t.args.length))) sv us wr) (fun i _=>t.args.length-(intOf i).toNat)
 case atStart=>exact ⟨0,_,_,Nat.zero_le _,rfl,by simpa [vi,q_] using Grow.start HW.out.2.2.2.2.2⟩
 case round =>
  rename_i wr
  obtain ⟨k,sv,us,hk,rfl,fH⟩:=hrel
  obtain ⟨sa,sc,e⟩:=fH.slice
  subst e
  have fJ:wr.heap[w.heap.size+2]? = some (.cells #[str [],.int .i64 (v:Nat),.slice sa k sc,.pointer (some ⟨w.heap.size,0,none⟩),.pointer (some ⟨w.heap.size+1,0,none⟩)] 68 (0,0)):=fH.blk
  have rS:=HW.out.2.1
  have fh:Below w.heap.size w wr:=HW.out.2.2.1.trans (fH.below.mono (by omega))
  obtain ⟨y0,y1,y2,y3,y4,yf⟩:=wJ fJ
  have iX:wr.cell? ⟨kb,0,none⟩=some (.slice ka t.args.length kc):=(fh.cell nT).trans Ae
  have HI:=ed (ef fH (ef fJ fh));clear fH fJ fh
  by_cases fG:k<t.args.length
  ·have mX:(k:Int)<(t.args.length:Int):=by omega
   obtain ⟨lL,At,u2,d2,e,Cr,Ip,Ah,rD,mD⟩:=HA.out k fG
   subst e
   rw [pJ,Option.map_eq_some_iff] at Ah
   obtain ⟨a,ha,rfl⟩:=Ah
   obtain ⟨kab,s2,rfl,_,_,_⟩:=kZ mD
   have lq:zV a<=15:=fU.out a (List.mem_of_getElem? ha)
   have lB:1+zV a<=zV t:=arg_atoms ha
   have q2:wr.cell? ⟨lL,At+k,none⟩=some (.pointer (some ⟨kab,0,none⟩)):=(HI.out.2.2.cell Ip).trans rD
   have CC:=IH.out a (by omega) lq F (.pointer (some ⟨kab,0,none⟩)) (n+k) (n+t.args.length) wr.drew ((Rep.below HI.out.2.2 (fun _ h=>h) mD).drew) (by omega) (by omega)
   rw [Int.natCast_add,Int.natCast_add] at CC
   have CC:=ed CC
   have iw:=etas_take ha n (n+t.args.length)
   have HK:=ed (ef ha iw);clear ha mD iw rD
   have EV:=ed (ef (show IntKind.i64.wrap ((n:Int)+(k:Int))=(n:Int)+(k:Int) from IntWalk.i64_in _ (by omega)) (show IntKind.i64.wrap ((n:Int)+(t.args.length:Int))=(n:Int)+(t.args.length:Int) from IntWalk.i64_in _ (by omega)))
   have SX:Hid (∀ w',But (fun i=>(Value.slice sa k sc).ownBlock=some i) wr w'->w'.cell? ⟨w.heap.size+2,2,none⟩=some (.slice sa k sc)/\w'.cell? ⟨kb,0,none⟩=some (.slice (some ⟨lL,At,none⟩) t.args.length kc)):=by
    show ∀ w',_->_
    intro w' fN
    exact ⟨(fN.cell (e9 wr _ y2) HI.out.1.not).trans y2,(fN.cell (e9 wr _ iX) (fun e=>by have h1:=HI.out.1.fr _ e;have h1:w.heap.size+2<kb:=h1;omega)).trans iX⟩
   have tK:k+1<=maxLen:=by unfold maxLen;omega
   have nP:(k+1)*8<=140737488355328:=by omega
   clear y0 y1 y3 y4 yf
   go_wp2_with fail
   refine wp_region_noPanic ?_
   refine zB (fun w'=>But (fun i=>(Value.slice sa k sc).ownBlock=some i) wr w') (fun i=>i == 21) (by kernel_rfl) ?_
   have fV:(fun w'=>But (fun i=>(Value.slice sa k sc).ownBlock=some i) wr w') wr.drew:=(But.refl _ wr).drew
   refine tk [0,1,2,3,4,5,6,7,8,9,10,11,12,13,14] fV ?_
   (intro d hd;simp [tkD] at hd;subst hd;simp only [tks,pQ,pZ,pS])
   iterate 15 (refine ⟨?_,?_,?_⟩;rotate_left;· (intro oi ho;simp at ho;subst ho;refine Or.inl ⟨by rfl,fun w' fB=>?_⟩;obtain ⟨e0,e1⟩:=SX.out w' fB;have Fu:=EV.out.1;go_simp;try with_reducible rfl))
   refine tk [15] fV ?_
   (intro d hd;simp [tkD] at hd;subst hd;simp only [tks,pQ,pZ,pS])
   (refine ⟨?_,?_,?_⟩;rotate_left;· (intro oi ho;simp at ho;subst ho;refine Or.inl ⟨by rfl,fun w' fB=>?_⟩;have Fu:=EV.out.2;go_simp;try with_reducible rfl))
   (refine on 16 ?_;intro o ho K' hK;simp at ho;subst ho;go_simp)
   go_at_call 75
   (with_reducible refine CC.out.mono ?_)
   rintro Ao w6 ⟨vb,rfl,fC,my⟩
   have mw:Below wr.heap.size wr w6:=(Below.drew (e_ _ _)).trans fC
   have fm:Hid (But (fun i=>(Value.slice sa k sc).ownBlock=some i) wr w6):=But.ofBelow mw
   have fd:=HI.out.1.own6 mw (.cells #[.pointer (some ⟨vb,0,none⟩)] 34)
   have H6:=ed (ef mw my);clear fC my mw
   (refine hK.out _ _ (fun _=>fm.out) ?_;clear hK K';try simp only [pQ,pN,pZ,pS])
   (refine on 17 ?_;intro o ho K' hK;simp at ho;subst ho;go_simp)
   (refine hK.out _ _ (fun _=>fm.out.alloc _) ?_;clear hK K';try simp only [pQ,pN,pZ,pS])
   (refine on 18 ?_;intro o ho K' hK;simp at ho;subst ho)
   refine zE (by rfl) _ _ _ (by rfl) 34 (.pointer none) 1 8 Tryz.underlying66 Tryz.infoB rfl (by decide) (.slice sa k sc) k us (by rfl) fd _ 1 [.pointer (some ⟨vb,0,none⟩)] (by rfl) (zO.lit1 #[.pointer (some ⟨vb,0,none⟩)] rfl (by simp [Value.oneCell']) _ (by rfl)) tK nP ?_
   intro a' c' w7 fu fW fR
   (refine hK.out _ _ (fun _=>(fm.out.alloc _).trans fW) ?_;clear hK K';try simp only [pQ,pN,pZ,pS])
   have mM:=HI.out.1.cell7 H6.out.1 fW
   have nO:w7.cell? ⟨w.heap.size+2,2,none⟩=some (.slice sa k sc)/\w7.frozen? ⟨w.heap.size+2,2,none⟩=false:=by rw [xT] at mM;exact ⟨by simp [World.cell?,mM],by simp [World.frozen?,mM]⟩
   obtain ⟨iL,rz⟩:=nO
   have iv:=ed mM;clear mM
   (refine on 19 ?_;intro o ho K' hK;simp at ho;subst ho;go_simp)
   (refine hK.out _ _ (fun _=>(fm.out.alloc _).trans fW) ?_;clear hK K';try simp only [pQ,pN,pZ,pS])
   (refine on 20 ?_;intro o ho K' hK;simp at ho;subst ho;go_simp)
   (refine hK.out _ _ (fun _=>(fm.out.alloc _).trans fW) ?_;clear hK K';try simp only [pQ,pN,pZ,pS])
   (refine on 21 ?_;intro o ho K' hK;simp at ho;subst ho;go_simp)
   (refine hK.out _ _ (fun h=>by simp at h) ?_;clear hK K';try simp only [pQ,pN,pZ,pS])
   refine zU (by kernel_rfl) (NoPanic.normal ?_) _
   have hX:=HI.out.1.next (w8:=w7.setCell ⟨w.heap.size+2,2,none⟩ (.slice a' (k+1) c')) H6.out.1 (zX.one H6.out.2) fu fW fR (by rw [zy iv.out];rfl) (vc _ _ _ _)
   have nR:q_ (vi (t.args.take k) n (n+t.args.length))++[qZ (eta a (n+k) (n+t.args.length))]=q_ (vi (t.args.take (k+1)) n (n+t.args.length)):=by rw [HK.out.2,wK]
   rw [nR] at hX
   have HN:=ed hX
   clear hX nR fu fW fR fV fd iL rz
   go_wp2_with fail
   go_roundw
   case rel=>exact ⟨k+1,_,_,by omega,by go_num,HN.out⟩
   case measure=>simp [intOf];omega
  ·obtain rfl:k=t.args.length:=by omega
   clear y0 y1 y2 y3 y4 yf
   go_wp2_with fail
   go_ret
   refine ⟨w.heap.size+2,rfl,HI.out.2.2,?_⟩
   have mm:=HI.out.1.sl
   rw [List.take_length] at mm
   rw [eta_eq,qZ,uM,ju]
   have bT:=(HI.out.1.below.block w.heap.size (by omega)).trans HW.out.2.2.2.1
   have bF:=(HI.out.1.below.block (w.heap.size+1) (by omega)).trans HW.out.2.2.2.2.1
   refine ⟨_,_,rfl,by show w.heap.size<=w.heap.size+2;omega,HI.out.2.1,?_⟩
   refine zQ.2 ⟨_,_,rfl,zH.2 rfl,zQ.2 ⟨_,_,rfl,zH.2 rfl,zQ.2 ⟨_,_,rfl,mm.weak fun i (h:w.heap.size+2<i)=>by show w.heap.size<=i;omega,zQ.2 ⟨_,_,rfl,we bT (ei _),zQ.2 ⟨_,_,rfl,we bF (by omega),zC.2 rfl⟩⟩⟩⟩⟩
structure jS (F0:Nat->Prop) (w:World) (P:Nat) (o:Value->Obj) (e:TypeId) (sz k:Nat) (cs:List DV) (sv:Value) (us:List Value) (wr:World):Prop where
 below:Below P w wr
 blk:wr.heap[P]? = some (o sv)
 own:Own wr e sz sv k us
 rep:zX (fun i=>(F0 i\/P<i)/\sv.ownBlock≠some i) wr cs us
 fr:∀ g,sv.ownBlock=some g->P<g
theorem jS.start {F0:Nat->Prop} {w:World} {P:Nat} {o:Value->Obj} {e:TypeId} {sz:Nat} (h:w.heap[P]? = some (o (.slice none 0 0))):jS F0 w P o e sz 0 [] (.slice none 0 0) [] w :=
 ⟨e_ _ _,h,World.ownsRow_nil _ _ _ _,by rw [zC],fun g hg=>by simp [Value.ownBlock] at hg⟩
theorem jS.slice {F0:Nat->Prop} {w:World} {P:Nat} {o:Value->Obj} {e:TypeId} {sz k:Nat} {cs:List DV} {sv:Value} {us:List Value} {wr:World} (h:jS F0 w P o e sz k cs sv us wr):∃ a c,sv=.slice a k c:=h.own.slice
theorem jS.next {F0:Nat->Prop} {w:World} {P:Nat} {o:Value->Obj} {e:TypeId} {sz k:Nat} {cs:List DV} {sv:Value} {us:List Value} {wr:World} (h:jS F0 w P o e sz k cs sv us wr) (hF0:∀ i,F0 i->i<P)
 {w6 w7 w8:World} {ob:Obj} {ds:List DV} {news:List Value} {sv':Value} (fC:Below wr.heap.size wr w6) (my:zX (fun i=>F0 i\/wr.heap.size<=i) w6 ds news)
 (fu:Own w7 e sz sv' (k+1) (us++news)) (fW:But (fun b=>sv.ownBlock=some b) (w6.alloc ob) w7) (fR:∀ g,sv'.ownBlock=some g->sv.ownBlock=some g\/g=(w6.alloc ob).heap.size)
 (h8:w8.heap[P]? = some (o sv')) (ft:But (fun b=>b=P) w7 w8):jS F0 w P o e sz (k+1) (cs++ds) sv' (us++news) w8:=by
 have hz6:=fC.size
 have GQ:=fW.size
 rw [zK] at GQ
 have Gr:=zZ h.blk
 have ip:∀ i,sv.ownBlock=some i->P<i/\i<wr.heap.size:=fun i e=>⟨h.fr i e,h.own.lt e⟩
 have past:∀ (i:Nat) (x:Obj),i≠P->sv.ownBlock≠some i->w6.heap[i]? = some x->w8.heap[i]? = some x:=fun i x h1 h2 hx=>by
  have hl:=zZ hx
  rw [ft.block i (by omega) h1,fW.block i (by rw [zK];omega) h2,Below.heap_alloc _ _ _ hl];exact hx
 have rO:∀ g,sv'.ownBlock=some g->sv.ownBlock=some g\/w6.heap.size<g:=fun g hg=>by
  rcases fR g hg with e | e
  ·exact .inl e
  ·rw [zK] at e;exact .inr (by omega)
 refine ⟨?_,h8,fu.keep fun g x hg hx=>?_,zX.append ?_ ?_,fun g hg=>?_⟩
 ·have h1:Below P w (w6.alloc ob):=(h.below.trans (fC.mono (Nat.le_of_lt Gr))).alloc (by omega) _
  have h2:Below P w w7:=h1.trans (fW.toBelow (by rw [zK];omega) fun i hi e=>by have:=ip i e;omega)
  exact h2.trans (ft.toBelow (by omega) fun i hi e=>by omega)
 ·rw [ft.block g (zZ hx) (fun e=>by rcases rO g hg with e' | e';· have:=ip g e';omega
                                    ·omega)];exact hx
 ·have hk:∀ i x,((F0 i\/P<i)/\sv.ownBlock≠some i)->wr.heap[i]? = some x->((F0 i\/P<i)/\sv'.ownBlock≠some i)/\w8.heap[i]? = some x:=fun i x hi hx=>by
   refine ⟨⟨hi.1,fun e2=>?_⟩,past i x (by rcases hi.1 with h | h;have:=hF0 i h;omega;omega) hi.2 (by rw [fC.block i (zZ hx)];exact hx)⟩
   rcases rO i e2 with e' | e'
   ·exact hi.2 e'
   ·have:=zZ hx;omega
  exact (Rep.keep hk).2 _ _ h.rep
 ·have hk:∀ i x,(F0 i\/wr.heap.size<=i)->w6.heap[i]? = some x->((F0 i\/P<i)/\sv'.ownBlock≠some i)/\w8.heap[i]? = some x:=fun i x hi0 hx=>by
   have hi:F0 i/\i<P\/wr.heap.size<=i:=hi0.elim (fun h=>.inl ⟨h,hF0 i h⟩) .inr
   refine ⟨⟨hi0.elim .inl (fun h=>.inr (by omega)),fun e2=>?_⟩,past i x (by rcases hi with h | h;have:=h.2;omega;omega) (fun e2=>by have:=ip i e2;rcases hi with h | h;have:=h.2;omega;omega) hx⟩
   rcases rO i e2 with e' | e'
   ·have:=ip i e';rcases hi with h | h;have:=h.2;omega;omega
   ·have:=zZ hx;omega
  exact (Rep.keep hk).2 _ _ my
 ·rcases rO g hg with e' | e'
  ·exact h.fr g e'
  ·omega
theorem jS.own6 {F0:Nat->Prop} {w:World} {P:Nat} {o:Value->Obj} {e:TypeId} {sz k:Nat} {cs:List DV} {sv:Value} {us:List Value} {wr:World} (h:jS F0 w P o e sz k cs sv us wr) {w6:World} (fC:Below wr.heap.size wr w6) (ob:Obj):Own (w6.alloc ob) e sz sv k us :=
 (h.own.keep (w':=w6) fun g _ _ hx=>by rw [fC.block g (zZ hx)];exact hx).alloc ob
theorem jS.not {F0:Nat->Prop} {w:World} {P:Nat} {o:Value->Obj} {e:TypeId} {sz k:Nat} {cs:List DV} {sv:Value} {us:List Value} {wr:World} (h:jS F0 w P o e sz k cs sv us wr):¬ sv.ownBlock=some P:=fun e=>by have:=h.fr P e;omega
theorem jS.sl {F0:Nat->Prop} {w:World} {P:Nat} {o:Value->Obj} {e:TypeId} {sz k:Nat} {cs:List DV} {sv:Value} {us:List Value} {wr:World} (h:jS F0 w P o e sz k cs sv us wr):Rep (fun i=>F0 i\/P<i) wr (.sl e sz k cs) sv :=
 h.own.rep (fun g hg=>.inr (h.fr g hg)) ((Rep.keep fun _ _ hi hx=>⟨hi.1,hx⟩).2 _ _ h.rep)
theorem jS.cell7 {F0:Nat->Prop} {w:World} {P:Nat} {o:Value->Obj} {e:TypeId} {sz k:Nat} {cs:List DV} {sv:Value} {us:List Value} {wr:World} (h:jS F0 w P o e sz k cs sv us wr) {w6 w7:World} {ob:Obj} (fC:Below wr.heap.size wr w6) (fW:But (fun b=>sv.ownBlock=some b) (w6.alloc ob) w7) :
 w7.heap[P]? = some (o sv):=by
 have Gr:=zZ h.blk
 have:=fC.size
 rw [fW.block P (by rw [zK];omega) h.not,Below.heap_alloc _ _ _ (by omega),fC.block P Gr];exact h.blk
def PtrPost (F:Nat->Prop) (w:World) (b:Bd) (en:Ending) (w':World):Prop :=
 ∃ p,en=.returned (.pointer (some ⟨p,0,none⟩))/\Below w.heap.size w w'/\Rep (fun i=>F i\/w.heap.size<=i) w' (qZ b) (.pointer (some ⟨p,0,none⟩))
theorem ask_new {F:Nat->Prop} {w:World} {v:Nat} {ss:List Bd} {y n:Bd} {b:Nat} {sv yv nv:Value} (hb:F b) (hc:w.heap[b]? = some (.cells #[str [],.int .i64 (v:Nat),sv,yv,nv] 68 (0,0)))
 (hs:Rep F w (.sl 34 1 ss.length (q_ ss)) sv) (hy:Rep F w (qZ y) yv) (hn:Rep F w (qZ n) nv):Rep F w (qZ (.ask v ss y n)) (.pointer (some ⟨b,0,none⟩)):=by
 rw [qZ,ju]
 exact ⟨_,_,rfl,hb,hc,zQ.2 ⟨_,_,rfl,zH.2 rfl,zQ.2 ⟨_,_,rfl,zH.2 rfl,zQ.2 ⟨_,_,rfl,hs,zQ.2 ⟨_,_,rfl,hy,zQ.2 ⟨_,_,rfl,hn,zC.2 rfl⟩⟩⟩⟩⟩⟩
theorem fits2_any (F:Nat->Prop) (w:World) (b:Bd) (v:Value) (hv:Rep F w (qZ b) v) (hn:zW b<=100000) :
 Calls Tryz.prog 55 #[v] w fun en w'=>en=.returned (.bool (decide (zW b<=200/\kR b<=100)))/\Below w.heap.size w w':=by
 obtain ⟨vb,rfl⟩:=zi hv
 have hL:Lim 100000:=by unfold Lim;omega
 have C1:=ed (size_any 100000 b hn hL F w _ hv)
 go_enter Tryz.func55,Tryz.ntmps55
 go_wp2_with fail
 (with_reducible refine C1.out.mono ?_)
 rintro en w1 ⟨rfl,fP⟩
 have C2:=ed (depth_any 100000 b hn hL F w1 _ (Rep.below fP (fun _ h=>h) hv))
 have HB:=ed fP;clear fP
 by_cases rP:zW b<=200
 ·have h1:decide ((zW b:Int)<=200)=true:=decide_eq_true (by omega)
  go_wp2_with fail
  (with_reducible refine C2.out.mono ?_)
  rintro en w2 ⟨rfl,fY⟩
  have hb:=zzT HB.out fY
  clear fY
  by_cases ij:kR b<=100
  ·have h2:decide ((kR b:Int)<=100)=true:=decide_eq_true (by omega)
   have HE:=ed (ef (show decide (zW b<=200/\kR b<=100)=true from decide_eq_true ⟨rP,ij⟩) hb);clear hb
   go_wp2_with fail
   go_ret
   rw [HE.out.1]
   exact ⟨rfl,HE.out.2⟩
  ·have h2:decide ((kR b:Int)<=100)=false:=decide_eq_false (by omega)
   have HE:=ed (ef (show decide (zW b<=200/\kR b<=100)=false from decide_eq_false (by omega)) hb);clear hb
   go_wp2_with fail
   go_ret
   rw [HE.out.1]
   exact ⟨rfl,HE.out.2⟩
 ·have h1:decide ((zW b:Int)<=200)=false:=decide_eq_false (by omega)
  have HE:=ed (show decide (zW b<=200/\kR b<=100)=false from decide_eq_false (by omega))
  go_wp2_with fail
  go_ret
  rw [HE.out]
  exact ⟨rfl,HB.out⟩
set_option maxRecDepth 100000 in
theorem kindsOf_any (F:Nat->Prop) (ns:List Nm) (lv:Value) (w:World) (hn:ns.length<=1000) (hr:Rep F w (.sl 99 2 ns.length (jM ns)) lv) :
 Calls Tryz.prog 77 #[lv] w fun en w'=>∃ a c,en=.returned (.slice a ns.length c)/\Below w.heap.size w w'/\Rep (fun i=>F i\/w.heap.size<=i) w' (.sl 33 1 ns.length (jN (kinds ns))) (.slice a ns.length c):=by
 obtain ⟨la,lc,rfl,_,fU⟩:=AtNms.of hr
 have AT:=ed fU
 clear fU hr
 go_enter Tryz.func77,Tryz.ntmps77
 go_wp2_with fail
 go_loopw [3,8] (fun ov i wr=>∃ k:Nat,k<=ns.length/\i=.int .i64 k/\∃ a c us,ov=.slice a k c/\Own wr 33 1 (.slice a k c) k us/\zX F w (jN (kinds (ns.take k))) us/\Below w.heap.size w wr/\(∀ g,(Value.slice a k c).ownBlock=some g->w.heap.size<=g)) (fun _ i _=>ns.length-(intOf i).toNat)
 case atStart=>exact ⟨0,Nat.zero_le _,rfl,none,0,[],rfl,World.ownsRow_nil _ _ _ _,by simp [kinds,jN,zC],e_ _ _,fun g h=>by simp [Value.ownBlock] at h⟩
 case round =>
  rename_i wr
  obtain ⟨k,hk,rfl,a,c,us,rfl,ho,hus,hb,hf⟩:=hrel
  have HO:=ed ho;have HF:=ed hf;have HB:=ed hb;have HU:=ed hus
  clear ho hf hb hus
  by_cases fG:k<ns.length
  ·have mX:(k:Int)<(ns.length:Int):=by omega
   obtain ⟨b,o,x,t,kb,e,fh,hp,h1,h2,mD⟩:=AT.out k fG
   subst e
   have q0:=(HB.out.cell (p:=⟨b,o+k*2,none⟩) fh).trans h1
   have q1:=(HB.out.cell (p:=⟨b,o+k*2+1,none⟩) fh).trans h2
   have HP:=ed (ef hp mD)
   clear hp mD h1 h2
   go_wp2_with (at_builtin;refine zD rfl _ _ 100 rfl 33 (.pointer none) 1 8 Tryz.underlying100 Tryz.infoK rfl (by decide) (.slice a k c) k us rfl ?c1 _ 1 [.pointer (some ⟨kb,0,none⟩)] rfl ?c2 ?c3 ?c4 ?_)
   case c1=>exact (HO.out.alloc _).alloc _
   case c2=>exact zO.lit1 #[.pointer (some ⟨kb,0,none⟩)] rfl (by simp [Value.oneCell']) _ (by simp)
   case c3=>unfold maxLen;omega
   case c4=>omega
   intro a' c' w7 fu fW fR
   have hsz:w.heap.size<=wr.heap.size:=HB.out.size
   have nw:Below w.heap.size w ((wr.alloc (.cells #[str x,.pointer (some ⟨kb,0,none⟩)] 99)).alloc (.cells #[.pointer (some ⟨kb,0,none⟩)] 33)):=(HB.out.alloc HB.out.size _).alloc (by rw [zK];omega) _
   have nM:Below w.heap.size w w7:=nw.trans (fW.toBelow (by rw [zK,zK];omega) fun i hi e=>by have:=HF.out i e;omega)
   have ai:∀ g,(Value.slice a' (k+1) c').ownBlock=some g->w.heap.size<=g:=by
    intro g h
    rcases fR g h with h | h
    ·exact HF.out g h
    ·omega
   have hu7:zX F w (jN (kinds (ns.take (k+1)))) (us++[.pointer (some ⟨kb,0,none⟩)]):=by
    have e:kinds (ns.take (k+1))=kinds (ns.take k)++[t]:=by
     rw [List.take_add_one,HP.out.1];simp [kinds]
    rw [e,encKs_append]
    exact HU.out.append (zQ.2 ⟨_,_,rfl,HP.out.2,zC.2 rfl⟩)
   have HA:=ed (ef fu (ef nM (ef ai hu7)));clear fu nM ai fW fR hu7 nw
   go_wp2_with fail
   go_roundw
   case rel=>exact ⟨k+1,by omega,by go_num,a',c',_,rfl,HA.out.1,HA.out.2.2.2,HA.out.2.1,HA.out.2.2.1⟩
   case measure=>simp [intOf];omega
  ·obtain rfl:k=ns.length:=by omega
   go_wp2_with fail
   refine bodyPost_ret (v:=.slice a ns.length c) (by simp [results,Tryz.results77,go_sem]) rfl ?_
   have hU:=HU.out
   rw [List.take_length] at hU
   exact ⟨a,c,rfl,HB.out,HO.out.rep (fun g hg=>.inr (HF.out g hg)) (zX.below HB.out (fun _ h=>.inl h) hU)⟩
def AnsSaid (N:Nat):Prop:=∀ (F:Nat->Prop) (b y n:Bd) (bv yv nv:Value) (w:World),zW b<=N->wfB b->Rep F w (qZ b) bv->Rep F w (qZ y) yv->Rep F w (qZ n) nv ->
 Calls Tryz.prog 79 #[bv,yv,nv] w (PtrPost F w (qK b y n))
set_option maxRecDepth 100000 in
theorem ans_step (N:Nat) (ih:AnsSaid N):AnsSaid (N+1):=by
 intro F b y n bv yv nv w hsz iy hb hy hn
 obtain ⟨yb,rfl⟩:=zi hy
 obtain ⟨nb,rfl⟩:=zi hn
 cases b with
 | leaf c =>
   obtain ⟨a0,sl,rfl,_,fJ,_⟩:=xd hb
   have r0:w.cell? ⟨a0,0,none⟩=some (str [c]):=by simp [World.cell?,fJ]
   rw [wfB] at iy
   have HY:=ed hy;have HN:=ed hn;have HB:=ed hb
   clear fJ ih hy hn hb
   rcases iy with rfl | rfl | rfl
   ·go_enter Tryz.func79,Tryz.ntmps79
    go_wp2_with fail
    go_ret
    exact ⟨_,rfl,e_ _ _,by rw [qK];simpa using HY.out.weak fun _ h=>.inl h⟩
   ·go_enter Tryz.func79,Tryz.ntmps79
    go_wp2_with fail
    go_ret
    exact ⟨_,rfl,e_ _ _,by rw [qK];simpa using HN.out.weak fun _ h=>.inl h⟩
   ·go_enter Tryz.func79,Tryz.ntmps79
    go_wp2_with fail
    go_ret
    exact ⟨_,rfl,e_ _ _,by rw [qK];simpa using HB.out.weak fun _ h=>.inl h⟩
 | ask v ss yy nn =>
   obtain ⟨a0,sl,y0,n0,rfl,_,fJ,ig,iM,aZ⟩:=uw hb
   obtain ⟨sa,sc,rfl,_,_,_⟩:=zP ig
   obtain ⟨yp,rfl⟩:=zi iM
   obtain ⟨np,rfl⟩:=zi aZ
   have r0:w.cell? ⟨a0,0,none⟩=some (str []):=by simp [World.cell?,fJ]
   have r1:w.cell? ⟨a0,1,none⟩=some (.int .i64 (v:Nat)):=by simp [World.cell?,fJ]
   have r2:w.cell? ⟨a0,2,none⟩=some (.slice sa ss.length sc):=by simp [World.cell?,fJ]
   have r3:w.cell? ⟨a0,3,none⟩=some (.pointer (some ⟨yp,0,none⟩)):=by simp [World.cell?,fJ]
   have r4:w.cell? ⟨a0,4,none⟩=some (.pointer (some ⟨np,0,none⟩)):=by simp [World.cell?,fJ]
   have Cg:=zZ fJ
   have SX:Hid (∀ w',Below w.heap.size w w'->w'.cell? ⟨a0,1,none⟩=some (.int .i64 (v:Nat))/\w'.cell? ⟨a0,2,none⟩=some (.slice sa ss.length sc)/\w'.cell? ⟨a0,3,none⟩=some (.pointer (some ⟨yp,0,none⟩))/\w'.cell? ⟨a0,4,none⟩=some (.pointer (some ⟨np,0,none⟩))):=by
    show ∀ w',_->_
    intro w' h
    exact ⟨(h.cell Cg).trans r1,(h.cell Cg).trans r2,(h.cell Cg).trans r3,(h.cell Cg).trans r4⟩
   rw [zW] at hsz
   rw [wfB] at iy
   have C0:=ed (fun wz (h:Below w.heap.size w wz)=>ih F yy y n _ _ _ wz (by omega) iy.2.1 (Rep.below h (fun _ h=>h) iM) (Rep.below h (fun _ h=>h) hy) (Rep.below h (fun _ h=>h) hn))
   have C1:=ed (fun wz (h:Below w.heap.size w wz)=>ih F nn y n _ _ _ wz (by omega) iy.2.2 (Rep.below h (fun _ h=>h) aZ) (Rep.below h (fun _ h=>h) hy) (Rep.below h (fun _ h=>h) hn))
   have HS:=ed ig
   clear ih fJ ig iM aZ hb hy hn iy r1 r2 r3 r4
   go_enter Tryz.func79,Tryz.ntmps79
   go_wp2_with fail
   refine wp_region_noPanic ?_
   refine zB (fun w'=>Below w.heap.size w w') (fun _=>false) (by kernel_rfl) ?_
   have fV:(fun w'=>Below w.heap.size w w') w.drew:=Below.drew (e_ _ _)
   refine tk [0,1,2,3,4,5,6,7,8,9,10,11,12,13,15,16,17,18,19,20] fV ?_
   (intro d hd;simp [tkD] at hd;subst hd;simp only [tks,pQ,pZ,pS])
   iterate 20 (refine ⟨?_,?_,?_⟩;rotate_left;· (intro oi ho;simp at ho;subst ho;refine Or.inl ⟨by rfl,fun w' fB=>?_⟩;obtain ⟨e1,e2,e3,e4⟩:=SX.out w' fB;go_simp;try with_reducible rfl))
   (refine on 14 ?_;intro o ho K' hK;simp at ho;subst ho;go_simp)
   go_at_call 79
   (with_reducible refine (C0.out _ fV).mono ?_)
   rintro en v0 ⟨p0,rfl,fq,Dg⟩
   have nZ:Hid (Below w.heap.size w v0):=fV.trans fq
   have HR0:Hid (Rep (fun i=>F i\/w.heap.size<=i) v0 (qZ (qK yy y n)) (.pointer (some ⟨p0,0,none⟩))):=Dg.weak fun i h=>by rcases h with h | h;exact .inl h;exact .inr (h)
   have Hq:=ed fq
   clear fq Dg
   (refine hK.out _ _ (fun _=>nZ.out) ?_;clear hK K';try simp only [pQ,pN,pZ,pS])
   have hS14:=nZ.out
   (refine on 21 ?_;intro o ho K' hK;simp at ho;subst ho;go_simp)
   go_at_call 79
   (with_reducible refine (C1.out _ nZ.out).mono ?_)
   rintro en v1 ⟨p1,rfl,fP,mu⟩
   have fI:Hid (Below w.heap.size w v1):=zzT nZ.out fP
   have EY:Hid (Rep (fun i=>F i\/w.heap.size<=i) v1 (qZ (qK nn y n)) (.pointer (some ⟨p1,0,none⟩))):=mu.weak fun i h=>by rcases h with h | h;exact .inl h;exact .inr (fQ nZ.out.size h)
   have A_:=ed fP
   clear fP mu
   (refine hK.out _ _ (fun _=>fI.out) ?_;clear hK K';try simp only [pQ,pN,pZ,pS])
   have hS21:=fI.out
   refine tk [22] hS21 ?_
   (intro d hd;simp [tkD] at hd;subst hd;simp only [tks,pQ,pZ,pS])
   (refine ⟨?_,?_,?_⟩;rotate_left;· (intro oi ho;simp at ho;subst ho;refine Or.inl ⟨by rfl,fun w' fB=>?_⟩;go_simp;try with_reducible rfl))
   (refine on 23 ?_;intro o ho K' hK;simp at ho;subst ho;go_simp)
   (refine hK.out _ _ (fun _=>fI.out.alloc fI.out.size _) ?_;clear hK K';try simp only [pQ,pN,pZ,pS])
   (refine on 24 ?_;intro o ho K' hK;simp at ho;subst ho;go_simp)
   (refine hK.out _ _ (fun _=>fI.out.alloc fI.out.size _) ?_;clear hK K';try simp only [pQ,pN,pZ,pS])
   refine zU (by kernel_rfl) (NoPanic.normal ?_) _
   go_wp2_with fail
   go_ret
   refine ⟨v1.heap.size,rfl,fI.out.alloc fI.out.size _,?_⟩
   rw [qK]
   have k1:∀ i x,(F i\/w.heap.size<=i)->v1.heap[i]? = some x->(F i\/w.heap.size<=i)/\(v1.alloc (.cells #[str [],.int .i64 (v:Nat),.slice sa ss.length sc,.pointer (some ⟨p0,0,none⟩),.pointer (some ⟨p1,0,none⟩)] 68)).heap[i]? = some x:=fun i x h hx=>⟨h,zY hx⟩
   exact ask_new (.inr fI.out.size) (zG _ _) ((Rep.keep k1).1 _ _ (Rep.below fI.out (fun _ h=>.inl h) HS.out)) ((Rep.keep k1).1 _ _ (Rep.below A_.out (fun _ h=>h) HR0.out)) ((Rep.keep k1).1 _ _ EY.out)
theorem answered_any (N:Nat):AnsSaid N:=by
 induction N with
 | zero=>exact fun F b y n bv yv nv w h=>by have:=kW b;omega
 | succ N ih=>exact ans_step N ih
theorem uD (n k:Nat):∀ ss:List Bd,zc ss n k=ss.map fun b=>kV b n k
 | []=>by rw [zc];rfl
 | b::bs=>by rw [zc,uD n k bs];rfl
theorem jq {ss:List Bd} {j:Nat} {s:Bd} (h:ss[j]? = some s) (n k:Nat):zc (ss.take (j+1)) n k=zc (ss.take j) n k++[kV s n k]:=by
 rw [uD,uD,List.take_add_one,h];simp
theorem hH:∀ (bs:List Bd),gH bs->∀ (k:Nat) (b:Bd),bs[k]? = some b->lvB b
 | [],_,k,b,h=>by simp at h
 | p::ps,ho,0,b,h=>by simp at h;subst h;rw [gH] at ho;exact ho.1
 | p::ps,ho,k+1,b,h=>by rw [gH] at ho;exact hH ps ho.2 k b (by simpa using h)
def RaSaid (N:Nat):Prop:=∀ (F:Nat->Prop) (b:Bd) (n k:Nat) (bv:Value) (w:World),zW b<=N->zW b<=1000000->lvB b->n<=10000->k<=10000->Rep F w (qZ b) bv ->
 Calls Tryz.prog 78 #[bv,.int .i64 (n:Nat),.int .i64 (k:Nat)] w (PtrPost F w (kV b n k))
set_option maxRecDepth 100000 in
theorem ra_step (N:Nat) (ih:RaSaid N):RaSaid (N+1):=by
 intro F b n k bv w hN hM rC hn hk hb
 cases b with
 | leaf c =>
   obtain ⟨bb,rfl⟩:=zi hb
   have CL:=ed (yE F w c _ hb)
   have HB:=ed hb
   clear hb ih
   go_enter Tryz.func78,Tryz.ntmps78
   go_wp2_with fail
   (with_reducible refine CL.out.mono ?_)
   rintro en w1 ⟨rfl,e⟩
   subst w1
   go_wp2_with fail
   go_ret
   exact ⟨_,rfl,e_ _ _,by rw [kV];exact HB.out.weak fun _ h=>.inl h⟩
 | ask v ss yy nn =>
   obtain ⟨a0,sl,y0,n0,rfl,_,fJ,ig,iM,aZ⟩:=uw hb
   obtain ⟨sa,sc,rfl,_,_,J1⟩:=zP ig
   obtain ⟨yp,rfl⟩:=zi iM
   obtain ⟨np,rfl⟩:=zi aZ
   have r1:w.cell? ⟨a0,1,none⟩=some (.int .i64 (v:Nat)):=by simp [World.cell?,fJ]
   have r2:w.cell? ⟨a0,2,none⟩=some (.slice sa ss.length sc):=by simp [World.cell?,fJ]
   have r3:w.cell? ⟨a0,3,none⟩=some (.pointer (some ⟨yp,0,none⟩)):=by simp [World.cell?,fJ]
   have r4:w.cell? ⟨a0,4,none⟩=some (.pointer (some ⟨np,0,none⟩)):=by simp [World.cell?,fJ]
   have Cg:=zZ fJ
   have SX:Hid (∀ w',Below w.heap.size w w'->w'.cell? ⟨a0,1,none⟩=some (.int .i64 (v:Nat))/\w'.cell? ⟨a0,3,none⟩=some (.pointer (some ⟨yp,0,none⟩))/\w'.cell? ⟨a0,4,none⟩=some (.pointer (some ⟨np,0,none⟩))):=by
    show ∀ w',_->_
    intro w' h
    exact ⟨(h.cell Cg).trans r1,(h.cell Cg).trans r3,(h.cell Cg).trans r4⟩
   rw [zW] at hN hM
   rw [lvB] at rC
   have CL:=ed (xQ F w v ss yy nn _ hb)
   have C0:=ed (fun wz (h:Below w.heap.size w wz)=>ih F yy n k _ wz (by omega) (by omega) rC.2.2.1 hn hk (Rep.below h (fun _ h=>h) iM))
   have C1:=ed (fun wz (h:Below w.heap.size w wz)=>ih F nn n k _ wz (by omega) (by omega) rC.2.2.2 hn hk (Rep.below h (fun _ h=>h) aZ))
   have HS:=ed J1
   have HQ:=ed (ef hN (ef hM rC))
   have IH:=ed ih
   have hvb:v<=10000:=rC.1
   have mm:ss.length<=1000000:=by have:=qB ss;omega
   clear ih fJ ig iM aZ hb r1 r3 r4 J1 hN hM rC
   go_enter Tryz.func78,Tryz.ntmps78
   go_wp2_with fail
   (with_reducible refine CL.out.mono ?_)
   rintro en w1 ⟨rfl,e⟩
   subst w1
   go_wp2_with fail
   refine wp_region_noPanic ?_
   refine zB (fun w'=>Below w.heap.size w w') (fun _=>false) (by kernel_rfl) ?_
   have fV:(fun w'=>Below w.heap.size w w') w.drew:=Below.drew (e_ _ _)
   refine tk [0,1,2,3,4,5,6,7,8,9,11,12,13,14,15,16] fV ?_
   (intro d hd;simp [tkD] at hd;subst hd;simp only [tks,pQ,pZ,pS])
   iterate 16 (refine ⟨?_,?_,?_⟩;rotate_left;· (intro oi ho;simp at ho;subst ho;refine Or.inl ⟨by rfl,fun w' fB=>?_⟩;obtain ⟨e1,e3,e4⟩:=SX.out w' fB;go_simp;try with_reducible rfl))
   (refine on 10 ?_;intro o ho K' hK;simp at ho;subst ho;go_simp)
   go_at_call 78
   (with_reducible refine (C0.out _ fV).mono ?_)
   rintro en v0 ⟨p0,rfl,fq,Dg⟩
   have nZ:Hid (Below w.heap.size w v0):=fV.trans fq
   have HR0:Hid (Rep (fun i=>F i\/w.heap.size<=i) v0 (qZ (kV yy n k)) (.pointer (some ⟨p0,0,none⟩))):=Dg.weak fun i h=>by rcases h with h | h;exact .inl h;exact .inr (h)
   have Hq:=ed fq
   clear fq Dg
   (refine hK.out _ _ (fun _=>nZ.out) ?_;clear hK K';try simp only [pQ,pN,pZ,pS])
   have Gp:=nZ.out
   (refine on 17 ?_;intro o ho K' hK;simp at ho;subst ho;go_simp)
   go_at_call 78
   (with_reducible refine (C1.out _ nZ.out).mono ?_)
   rintro en v1 ⟨p1,rfl,fP,mu⟩
   have fI:Hid (Below w.heap.size w v1):=zzT nZ.out fP
   have EY:Hid (Rep (fun i=>F i\/w.heap.size<=i) v1 (qZ (kV nn n k)) (.pointer (some ⟨p1,0,none⟩))):=mu.weak fun i h=>by rcases h with h | h;exact .inl h;exact .inr (fQ nZ.out.size h)
   have A_:=ed fP
   clear fP mu
   (refine hK.out _ _ (fun _=>fI.out) ?_;clear hK K';try simp only [pQ,pN,pZ,pS])
   have D8:=fI.out
   refine tk [18] D8 ?_
   (intro d hd;simp [tkD] at hd;subst hd;simp only [tks,pQ,pZ,pS])
   (refine ⟨?_,?_,?_⟩;rotate_left;· (intro oi ho;simp at ho;subst ho;refine Or.inl ⟨by rfl,fun w' fB=>?_⟩;go_simp;try with_reducible rfl))
   (refine on 19 ?_;intro o ho K' hK;simp at ho;subst ho;go_simp)
   (refine hK.out _ _ (fun _=>fI.out.alloc fI.out.size _) ?_;clear hK K';try simp only [pQ,pN,pZ,pS])
   (refine on 20 ?_;intro o ho K' hK;simp at ho;subst ho;go_simp)
   (refine hK.out _ _ (fun _=>fI.out.alloc fI.out.size _) ?_;clear hK K';try simp only [pQ,pN,pZ,pS])
   refine zU (by kernel_rfl) (NoPanic.normal ?_) _
   have blkP:(v1.alloc (.cells #[str [],.int .i64 (v:Nat),.slice none 0 0,.pointer (some ⟨p0,0,none⟩),.pointer (some ⟨p1,0,none⟩)] 68)).heap[v1.heap.size]? = some (.cells #[str [],.int .i64 (v:Nat),.slice none 0 0,.pointer (some ⟨p0,0,none⟩),.pointer (some ⟨p1,0,none⟩)] 68 (0,0)):=zG _ _
   have Al:Below v1.heap.size v1 (v1.alloc (.cells #[str [],.int .i64 (v:Nat),.slice none 0 0,.pointer (some ⟨p0,0,none⟩),.pointer (some ⟨p1,0,none⟩)] 68)):=(e_ _ _).alloc (ei _) _
   obtain ⟨V,hV⟩:=zzN (v1.alloc (.cells #[str [],.int .i64 (v:Nat),.slice none 0 0,.pointer (some ⟨p0,0,none⟩),.pointer (some ⟨p1,0,none⟩)] 68))
   rw [hV] at blkP Al ⊢
   obtain ⟨P,hP⟩:=zzN (v1.heap.size)
   rw [hP] at blkP Al ⊢
   have Eo:w.heap.size<=P:=by rw [<- hP];exact fI.out.size
   have KL:=ed (Rep.below (F':=fun i=>F i\/w.heap.size<=i) A_.out (fun _ h=>h) HR0.out)
   clear hV HR0 A_ Hq CL C0 C1
   obtain ⟨z0,z1,z2,z3,z4,zf⟩:=wJ blkP
   have oz:=zf 1
   clear zf
   have HP:=ed (ef blkP Al)
   clear blkP Al
   by_cases hv:n<=v
   ·have hvI:(n:Int)<=(v:Int):=by omega
    have rJ:IntKind.i64.wrap ((v:Int)+(k:Int))=(v:Int)+(k:Int):=IntWalk.i64_in _ (by omega)
    go_upto_region 6 with (fail)
    obtain ⟨W,hW⟩:=zzN (V.setCell ⟨P,1,none⟩ (.int .i64 ((v:Int)+(k:Int))))
    rw [hW]
    have J8:W.heap[P]? = some (xT (v+k) (.pointer (some ⟨p0,0,none⟩)) (.pointer (some ⟨p1,0,none⟩)) (.slice none 0 0)):=by
     rw [<- hW]
     rw [zy HP.out.1,xT,Int.natCast_add];rfl
    have Fv:Below P v1 W:=by rw [<- hW];exact HP.out.2.setCell (p:=⟨P,1,none⟩) (ei _) _
    have Ft:Below w.heap.size w W:=fI.out.trans (Fv.mono Eo)
    have q2:=(Ft.cell (p:=⟨a0,2,none⟩) Cg).trans r2
    have HW:=ed (ef J8 (ef Fv Ft))
    clear hW J8 Fv Ft z0 z1 z2 z3 z4 oz r2
    go_wp2_with fail
    go_loopw [53] (fun i wr=>∃ (j:Nat) (sv:Value) (us:List Value),j<=ss.length/\i=.int .i64 j/\jS (fun i=>F i/\i<w.heap.size) W P (xT (v+k) (.pointer (some ⟨p0,0,none⟩)) (.pointer (some ⟨p1,0,none⟩))) 34 1 j (q_ (zc (ss.take j) n k)) sv us wr) (fun i _=>ss.length-(intOf i).toNat)
    case atStart=>exact ⟨0,_,_,Nat.zero_le _,rfl,by simpa [zc,q_] using jS.start HW.out.1⟩
    case round =>
     rename_i wr
     obtain ⟨j,sv,us,hj,rfl,fH⟩:=hrel
     obtain ⟨ga,gc,e⟩:=fH.slice
     subst e
     have fJ:wr.heap[P]? = some (.cells #[str [],.int .i64 ((v+k:Nat):Int),.slice ga j gc,.pointer (some ⟨p0,0,none⟩),.pointer (some ⟨p1,0,none⟩)] 68 (0,0)):=fH.blk
     have fh:Below w.heap.size w wr:=HW.out.2.2.trans (fH.below.mono Eo)
     obtain ⟨y0,y1,y2,y3,y4,yf⟩:=wJ fJ
     have HI:=ed (ef fH (ef fJ fh));clear fH fJ fh
     clear y0 y1 y3 y4 yf q2
     by_cases fG:j<ss.length
     ·have mX:(j:Int)<(ss.length:Int):=by omega
      obtain ⟨sb,so,su,sd,e,_,Iu,aj,A0,FD⟩:=HS.out j fG
      subst e
      rw [xJ,Option.map_eq_some_iff] at aj
      obtain ⟨s,hs,rfl⟩:=aj
      obtain ⟨sp,rfl⟩:=zi FD
      have hszs:=vL (List.mem_of_getElem? hs)
      have q3:wr.cell? ⟨sb,so+j,none⟩=some (.pointer (some ⟨sp,0,none⟩)):=(HI.out.2.2.cell (p:=⟨sb,so+j,none⟩) Iu).trans A0
      have By:Rep (fun i=>F i/\i<w.heap.size) w (qZ s) (.pointer (some ⟨sp,0,none⟩)):=(Rep.keep fun i x h hx=>⟨⟨h,zZ hx⟩,hx⟩).1 _ _ FD
      have CC:=ed (IH.out (fun i=>F i/\i<w.heap.size) s n k (.pointer (some ⟨sp,0,none⟩)) wr.drew (by have:=HQ.out.1;omega) (by have:=HQ.out.2.1;omega) (hH ss HQ.out.2.2.2.1 j s hs) hn hk (Rep.below HI.out.2.2 (fun _ h=>h) By).drew)
      have HK:=ed (jq hs n k)
      have SY:Hid (∀ w',But (fun i=>(Value.slice ga j gc).ownBlock=some i) wr w'->w'.cell? ⟨P,2,none⟩=some (.slice ga j gc)/\True):=by
       show ∀ w',_->_
       intro w' fN
       exact ⟨(fN.cell (e9 wr _ y2) HI.out.1.not).trans y2,trivial⟩
      have tK:j+1<=maxLen:=by unfold maxLen;omega
      have nP:(j+1)*8<=140737488355328:=by omega
      clear FD By hs A0
      go_wp2_with fail
      refine wp_region_noPanic ?_
      refine zB (fun w'=>But (fun i=>(Value.slice ga j gc).ownBlock=some i) wr w') (fun i=>i == 13) (by kernel_rfl) ?_
      have fV:(fun w'=>But (fun i=>(Value.slice ga j gc).ownBlock=some i) wr w') wr.drew:=(But.refl _ wr).drew
      refine tk [0,1,2,3,4,5,6,7] fV ?_
      (intro d hd;simp [tkD] at hd;subst hd;simp only [tks,pQ,pZ,pS])
      iterate 8 (refine ⟨?_,?_,?_⟩;rotate_left;· (intro oi ho;simp at ho;subst ho;refine Or.inl ⟨by rfl,fun w' fB=>?_⟩;obtain ⟨e2,_⟩:=SY.out w' fB;go_simp;try with_reducible rfl))
      (refine on 8 ?_;intro o ho K' hK;simp at ho;subst ho;go_simp)
      go_at_call 78
      (with_reducible refine CC.out.mono ?_)
      rintro Ao w6 ⟨vb,rfl,fC,my⟩
      have mw:Below wr.heap.size wr w6:=(Below.drew (e_ _ _)).trans fC
      have fm:Hid (But (fun i=>(Value.slice ga j gc).ownBlock=some i) wr w6):=But.ofBelow mw
      have fd:=HI.out.1.own6 mw (.cells #[.pointer (some ⟨vb,0,none⟩)] 34)
      have H6:=ed (ef mw my);clear fC my mw
      (refine hK.out _ _ (fun _=>fm.out) ?_;clear hK K';try simp only [pQ,pN,pZ,pS])
      (refine on 9 ?_;intro o ho K' hK;simp at ho;subst ho;go_simp)
      (refine hK.out _ _ (fun _=>fm.out.alloc _) ?_;clear hK K';try simp only [pQ,pN,pZ,pS])
      (refine on 10 ?_;intro o ho K' hK;simp at ho;subst ho)
      refine zE (by rfl) _ _ _ (by rfl) 34 (.pointer none) 1 8 Tryz.underlying66 Tryz.infoB rfl (by decide) (.slice ga j gc) j us (by rfl) fd _ 1 [.pointer (some ⟨vb,0,none⟩)] (by rfl) (zO.lit1 #[.pointer (some ⟨vb,0,none⟩)] rfl (by simp [Value.oneCell']) _ (by rfl)) tK nP ?_
      intro a' c' w7 fu fW fR
      (refine hK.out _ _ (fun _=>(fm.out.alloc _).trans fW) ?_;clear hK K';try simp only [pQ,pN,pZ,pS])
      have mM:=HI.out.1.cell7 H6.out.1 fW
      have nO:w7.cell? ⟨P,2,none⟩=some (.slice ga j gc)/\w7.frozen? ⟨P,2,none⟩=false:=by rw [xT] at mM;exact ⟨by simp [World.cell?,mM],by simp [World.frozen?,mM]⟩
      obtain ⟨iL,rz⟩:=nO
      have iv:=ed mM;clear mM
      (refine on 11 ?_;intro o ho K' hK;simp at ho;subst ho;go_simp)
      (refine hK.out _ _ (fun _=>(fm.out.alloc _).trans fW) ?_;clear hK K';try simp only [pQ,pN,pZ,pS])
      (refine on 12 ?_;intro o ho K' hK;simp at ho;subst ho;go_simp)
      (refine hK.out _ _ (fun _=>(fm.out.alloc _).trans fW) ?_;clear hK K';try simp only [pQ,pN,pZ,pS])
      (refine on 13 ?_;intro o ho K' hK;simp at ho;subst ho;go_simp)
      (refine hK.out _ _ (fun h=>by simp at h) ?_;clear hK K';try simp only [pQ,pN,pZ,pS])
      refine zU (by kernel_rfl) (NoPanic.normal ?_) _
      have hX:=HI.out.1.next (fun i h=>fK h.2 Eo) (w8:=w7.setCell ⟨P,2,none⟩ (.slice a' (j+1) c')) H6.out.1 (zX.one H6.out.2) fu fW fR (by rw [zy iv.out];rfl) (vc _ _ _ _)
      have nR:q_ (zc (ss.take j) n k)++[qZ (kV s n k)]=q_ (zc (ss.take (j+1)) n k):=by rw [HK.out,wK]
      rw [nR] at hX
      have HN:=ed hX
      clear hX nR fu fW fR fV fd iL rz
      go_wp2_with fail
      go_roundw
      case rel=>exact ⟨j+1,_,_,by omega,by go_num,HN.out⟩
      case measure=>simp [intOf];omega
     ·obtain rfl:j=ss.length:=by omega
      clear y2
      go_wp2_with fail
      go_ret
      refine ⟨P,rfl,HI.out.2.2,?_⟩
      have mm:=HI.out.1.sl
      rw [List.take_length] at mm
      have oe:Below P v1 wr:=HW.out.2.1.trans HI.out.1.below
      rw [<- hP] at oe
      have hL:(zc ss n k).length=ss.length:=by rw [uD];simp
      rw [kV,if_pos hv]
      refine ask_new (.inr Eo) HI.out.2.1 ?_ (Rep.below oe (fun _ h=>h) KL.out) (Rep.below oe (fun _ h=>h) EY.out)
      rw [hL]
      exact mm.weak fun i h=>by rcases h with h | h;exact .inl h.1;exact .inr (by omega)
   ·have hvI:¬ (n:Int)<=(v:Int):=by omega
    go_upto_region 6 with (fail)
    obtain ⟨W,hW⟩:=zzN (V)
    rw [hW]
    have J8:W.heap[P]? = some (xT (v) (.pointer (some ⟨p0,0,none⟩)) (.pointer (some ⟨p1,0,none⟩)) (.slice none 0 0)):=by
     rw [<- hW]
     exact HP.out.1
    have Fv:Below P v1 W:=by rw [<- hW];exact HP.out.2
    have Ft:Below w.heap.size w W:=fI.out.trans (Fv.mono Eo)
    have q2:=(Ft.cell (p:=⟨a0,2,none⟩) Cg).trans r2
    have HW:=ed (ef J8 (ef Fv Ft))
    clear hW J8 Fv Ft z0 z1 z2 z3 z4 oz r2
    go_wp2_with fail
    go_loopw [53] (fun i wr=>∃ (j:Nat) (sv:Value) (us:List Value),j<=ss.length/\i=.int .i64 j/\jS (fun i=>F i/\i<w.heap.size) W P (xT (v) (.pointer (some ⟨p0,0,none⟩)) (.pointer (some ⟨p1,0,none⟩))) 34 1 j (q_ (zc (ss.take j) n k)) sv us wr) (fun i _=>ss.length-(intOf i).toNat)
    case atStart=>exact ⟨0,_,_,Nat.zero_le _,rfl,by simpa [zc,q_] using jS.start HW.out.1⟩
    case round =>
     rename_i wr
     obtain ⟨j,sv,us,hj,rfl,fH⟩:=hrel
     obtain ⟨ga,gc,e⟩:=fH.slice
     subst e
     have fJ:wr.heap[P]? = some (.cells #[str [],.int .i64 ((v:Nat):Int),.slice ga j gc,.pointer (some ⟨p0,0,none⟩),.pointer (some ⟨p1,0,none⟩)] 68 (0,0)):=fH.blk
     have fh:Below w.heap.size w wr:=HW.out.2.2.trans (fH.below.mono Eo)
     obtain ⟨y0,y1,y2,y3,y4,yf⟩:=wJ fJ
     have HI:=ed (ef fH (ef fJ fh));clear fH fJ fh
     clear y0 y1 y3 y4 yf q2
     by_cases fG:j<ss.length
     ·have mX:(j:Int)<(ss.length:Int):=by omega
      obtain ⟨sb,so,su,sd,e,_,Iu,aj,A0,FD⟩:=HS.out j fG
      subst e
      rw [xJ,Option.map_eq_some_iff] at aj
      obtain ⟨s,hs,rfl⟩:=aj
      obtain ⟨sp,rfl⟩:=zi FD
      have hszs:=vL (List.mem_of_getElem? hs)
      have q3:wr.cell? ⟨sb,so+j,none⟩=some (.pointer (some ⟨sp,0,none⟩)):=(HI.out.2.2.cell (p:=⟨sb,so+j,none⟩) Iu).trans A0
      have By:Rep (fun i=>F i/\i<w.heap.size) w (qZ s) (.pointer (some ⟨sp,0,none⟩)):=(Rep.keep fun i x h hx=>⟨⟨h,zZ hx⟩,hx⟩).1 _ _ FD
      have CC:=ed (IH.out (fun i=>F i/\i<w.heap.size) s n k (.pointer (some ⟨sp,0,none⟩)) wr.drew (by have:=HQ.out.1;omega) (by have:=HQ.out.2.1;omega) (hH ss HQ.out.2.2.2.1 j s hs) hn hk (Rep.below HI.out.2.2 (fun _ h=>h) By).drew)
      have HK:=ed (jq hs n k)
      have SY:Hid (∀ w',But (fun i=>(Value.slice ga j gc).ownBlock=some i) wr w'->w'.cell? ⟨P,2,none⟩=some (.slice ga j gc)/\True):=by
       show ∀ w',_->_
       intro w' fN
       exact ⟨(fN.cell (e9 wr _ y2) HI.out.1.not).trans y2,trivial⟩
      have tK:j+1<=maxLen:=by unfold maxLen;omega
      have nP:(j+1)*8<=140737488355328:=by omega
      clear FD By hs A0
      go_wp2_with fail
      refine wp_region_noPanic ?_
      refine zB (fun w'=>But (fun i=>(Value.slice ga j gc).ownBlock=some i) wr w') (fun i=>i == 13) (by kernel_rfl) ?_
      have fV:(fun w'=>But (fun i=>(Value.slice ga j gc).ownBlock=some i) wr w') wr.drew:=(But.refl _ wr).drew
      refine tk [0,1,2,3,4,5,6,7] fV ?_
      (intro d hd;simp [tkD] at hd;subst hd;simp only [tks,pQ,pZ,pS])
      iterate 8 (refine ⟨?_,?_,?_⟩;rotate_left;· (intro oi ho;simp at ho;subst ho;refine Or.inl ⟨by rfl,fun w' fB=>?_⟩;obtain ⟨e2,_⟩:=SY.out w' fB;go_simp;try with_reducible rfl))
      (refine on 8 ?_;intro o ho K' hK;simp at ho;subst ho;go_simp)
      go_at_call 78
      (with_reducible refine CC.out.mono ?_)
      rintro Ao w6 ⟨vb,rfl,fC,my⟩
      have mw:Below wr.heap.size wr w6:=(Below.drew (e_ _ _)).trans fC
      have fm:Hid (But (fun i=>(Value.slice ga j gc).ownBlock=some i) wr w6):=But.ofBelow mw
      have fd:=HI.out.1.own6 mw (.cells #[.pointer (some ⟨vb,0,none⟩)] 34)
      have H6:=ed (ef mw my);clear fC my mw
      (refine hK.out _ _ (fun _=>fm.out) ?_;clear hK K';try simp only [pQ,pN,pZ,pS])
      (refine on 9 ?_;intro o ho K' hK;simp at ho;subst ho;go_simp)
      (refine hK.out _ _ (fun _=>fm.out.alloc _) ?_;clear hK K';try simp only [pQ,pN,pZ,pS])
      (refine on 10 ?_;intro o ho K' hK;simp at ho;subst ho)
      refine zE (by rfl) _ _ _ (by rfl) 34 (.pointer none) 1 8 Tryz.underlying66 Tryz.infoB rfl (by decide) (.slice ga j gc) j us (by rfl) fd _ 1 [.pointer (some ⟨vb,0,none⟩)] (by rfl) (zO.lit1 #[.pointer (some ⟨vb,0,none⟩)] rfl (by simp [Value.oneCell']) _ (by rfl)) tK nP ?_
      intro a' c' w7 fu fW fR
      (refine hK.out _ _ (fun _=>(fm.out.alloc _).trans fW) ?_;clear hK K';try simp only [pQ,pN,pZ,pS])
      have mM:=HI.out.1.cell7 H6.out.1 fW
      have nO:w7.cell? ⟨P,2,none⟩=some (.slice ga j gc)/\w7.frozen? ⟨P,2,none⟩=false:=by rw [xT] at mM;exact ⟨by simp [World.cell?,mM],by simp [World.frozen?,mM]⟩
      obtain ⟨iL,rz⟩:=nO
      have iv:=ed mM;clear mM
      (refine on 11 ?_;intro o ho K' hK;simp at ho;subst ho;go_simp)
      (refine hK.out _ _ (fun _=>(fm.out.alloc _).trans fW) ?_;clear hK K';try simp only [pQ,pN,pZ,pS])
      (refine on 12 ?_;intro o ho K' hK;simp at ho;subst ho;go_simp)
      (refine hK.out _ _ (fun _=>(fm.out.alloc _).trans fW) ?_;clear hK K';try simp only [pQ,pN,pZ,pS])
      (refine on 13 ?_;intro o ho K' hK;simp at ho;subst ho;go_simp)
      (refine hK.out _ _ (fun h=>by simp at h) ?_;clear hK K';try simp only [pQ,pN,pZ,pS])
      refine zU (by kernel_rfl) (NoPanic.normal ?_) _
      have hX:=HI.out.1.next (fun i h=>fK h.2 Eo) (w8:=w7.setCell ⟨P,2,none⟩ (.slice a' (j+1) c')) H6.out.1 (zX.one H6.out.2) fu fW fR (by rw [zy iv.out];rfl) (vc _ _ _ _)
      have nR:q_ (zc (ss.take j) n k)++[qZ (kV s n k)]=q_ (zc (ss.take (j+1)) n k):=by rw [HK.out,wK]
      rw [nR] at hX
      have HN:=ed hX
      clear hX nR fu fW fR fV fd iL rz
      go_wp2_with fail
      go_roundw
      case rel=>exact ⟨j+1,_,_,by omega,by go_num,HN.out⟩
      case measure=>simp [intOf];omega
     ·obtain rfl:j=ss.length:=by omega
      clear y2
      go_wp2_with fail
      go_ret
      refine ⟨P,rfl,HI.out.2.2,?_⟩
      have mm:=HI.out.1.sl
      rw [List.take_length] at mm
      have oe:Below P v1 wr:=HW.out.2.1.trans HI.out.1.below
      rw [<- hP] at oe
      have hL:(zc ss n k).length=ss.length:=by rw [uD];simp
      rw [kV,if_neg hv]
      refine ask_new (.inr Eo) HI.out.2.1 ?_ (Rep.below oe (fun _ h=>h) KL.out) (Rep.below oe (fun _ h=>h) EY.out)
      rw [hL]
      exact mm.weak fun i h=>by rcases h with h | h;exact .inl h.1;exact .inr (by omega)
theorem raised_any (N:Nat):RaSaid N:=by
 induction N with
 | zero=>exact fun F b n k bv w h=>by have:=kW b;omega
 | succ N ih=>exact ra_step N ih
end Go.Proofs.YtjggkhmojjaomaaGreatDoor

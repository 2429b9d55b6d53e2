/- Walks of functions that the statement reaches, and plain words. No conditions. -/
import Derived.Deep.DeepCutAuto
import Derived.Test.YtjggkhmojjaomaaGreatDoorQ11
set_option linter.unusedVariables false
set_option linter.unusedSimpArgs false
set_option maxHeartbeats 4000000
namespace Go.Proofs.YtjggkhmojjaomaaGreatDoor
open Go.RowKit
theorem decNat (n:Nat):dec n=Lib.decDigits n:=by
 induction n using Nat.strongRecOn with
 | _ n ih =>
   by_cases h:n<10
   ·rw [vN h,Lib.decDigits,dif_pos h];rfl
   ·rw [uR h,Lib.decDigits,dif_neg h,ih (n / 10) (Nat.div_lt_self (by omega) (by omega))];rfl
theorem itoaNat (i:Nat):Lib.itoa (i:Int)=dec i:=by
 rw [decNat,Lib.itoa,if_neg (by omega)];rfl
theorem lvBs_of:∀ xs:List Bd,(∀ b∈xs,lvB b)->gu xs
 | [],_=>by rw [gu];trivial
 | b::bs,h=>by rw [gu];exact ⟨h b (by simp),lvBs_of bs fun x hx=>h x (by simp [hx])⟩
theorem fit_lv (n:Nat):∀ (b:Bd) (h:List Ty),zW b<=n->jH h b->(∀ t∈h,zV t<=15)->h.length+15*n<=10000->lvB b:=by
 induction n with
 | zero=>intro b h hs;have:=kW b;omega
 | succ n ih =>
   intro b h hs hf ha hl
   cases b with
   | leaf c=>rw [lvB];trivial
   | ask v ss y no =>
     rw [jH] at hf
     obtain ⟨t,ht,f1,f2,f3⟩:=hf
     rw [zW] at hs
     have hy:=kW y
     have hn:=kW no
     have hv:=(List.getElem?_eq_some_iff.1 ht).1
     have iK:=ha t (List.mem_of_getElem? ht)
     rw [lvB]
     refine ⟨by omega,lvBs_of ss fun b hb=>?_,ih y h (by omega) f2 ha (by omega),ih no h (by omega) f3 ha (by omega)⟩
     have f7:=vu hb
     obtain ⟨k,hk⟩:=List.mem_iff_getElem?.1 hb
     obtain ⟨x,hx,hxf⟩:=pG _ _ f1 k b hk
     simp only [jN,List.getElem?_map,Option.map_eq_some_iff] at hx
     obtain ⟨a,lm,rfl⟩:=hx
     have nH:=(zi iK).1 a (List.mem_of_getElem? lm)
     have lA:=zi nH
     refine ih b (h++a.args) (by omega) hxf (fun t ht=>?_) (by rw [List.length_append];omega)
     rcases List.mem_append.1 ht with h | h
     ·exact ha t h
     ·exact lA.1 t h
theorem Good.lv {t:Ty} {b:Bd} (h:Good t b):lvB b :=
 fit_lv 200 b t.args h.size h.fit (zi h.atoms).1 (by have:=(zi h.atoms).2;omega)
theorem yS:∀ bs:List Bd,Lib.joinTail [32] (bs.map kM)=kO bs
 | []=>rfl
 | b::bs=>by
   have:=yS bs
   simp only [Lib.joinTail,List.map_cons,List.flatten_cons] at this ⊢
   rw [this,kO]
theorem textB_join (v:Nat) (ss:List Bd) (y n:Bd):kM (.ask v ss y n)=[40]++Lib.join (dec v::(ss++[y,n]).map kM) [32]++[41]:=by
 rw [Lib.join_cons,yS,vB,kM,kO,kO,kO];simp
def db (b:Bd):Prop:=∀ (F:Nat->Prop) (w:World) (v:Value),dK w->Rep F w (qK b) v ->
 Calls Tryz.prog 15 #[v] w fun en w'=>en=.returned (str (kM b))/\Below w.heap.size w w'
theorem Tryz.infoStrA:(Tryz.prog.info? 9).map (fun i=>(i.zero,i.size,i.bytes))=some (some (str []),1,16):=by kernel_rfl
theorem Own.strings {w:World} {e:TypeId} {v:Value} {n:Nat} {ts:List Bs} (h:Own w e 1 v n (ts.map str)) (hn:0<n) :
 ∃ g cap,v=.slice (some ⟨g,0,none⟩) n cap/\n<=cap/\g<w.heap.size/\ts.length=n/\∀ (j:Nat) (x:ByteArray),(ts.map fun t=>(⟨t.toArray⟩:ByteArray))[j]? = some x->w.cell? ⟨g,0+j,none⟩=some (.string x):=by
 have hl:=h.1
 rcases h.2 with ⟨_,h0⟩ | ⟨g,cap,cur,rfl,_,hg,aw,_,hcs,ht⟩
 ·omega
 ·refine ⟨g,cap,rfl,aw,zZ hg,by simpa using hl,fun j x hj=>?_⟩
  rw [List.getElem?_map,Option.map_eq_some_iff] at hj
  obtain ⟨t,ht1,rfl⟩:=hj
  have h1:(ts.map str)[j]? = some (str t):=by rw [List.getElem?_map,ht1];rfl
  rw [<- ht,List.getElem?_take] at h1
  split at h1
  ·rw [Nat.zero_add];simp only [World.cell?,hg];simpa using h1
  ·simp at h1
structure TInv (lv:Nat) (ps:List Bd) (w w2 w4:World) (k:Nat) (v:Value) (wr:World):Prop where
 own:Own wr 9 1 v (k+1) ((dec lv::(ps.take k).map kM).map str)
 bel:Below w.heap.size w wr
 but:But (· = w2.heap.size) w4 wr
 fr:∀ g,v.ownBlock=some g->g=w2.heap.size\/w4.heap.size<=g
set_option maxRecDepth 100000 in
theorem text_step (b:Bd) (hl:zW b<=100000) (ru:lvB b) (ih:∀ t,zW t<zW b->lvB t->db t):db b:=by
 intro F w v hg hv
 have IH:=fX ih;clear ih
 cases b with
 | leaf c =>
   obtain ⟨a0,sl,rfl,_,fE,_⟩:=x6 hv
   have r0:w.cell? ⟨a0,0,none⟩=some (str [c]):=by simp [World.cell?,fE]
   have CL:=fX (yC F w c _ hv)
   clear fE hv
   go_enter Tryz.func15,Tryz.ntmps15
   go_wp2_with fail
   (with_reducible refine CL.out.mono ?_)
   rintro en w3 ⟨rfl,rfl⟩
   go_wp2_with fail
   go_ret
   exact ⟨by rw [kM];rfl,fH _ _⟩
 | ask lv ss y no =>
   obtain ⟨a0,sl,yv,nv,rfl,_,fE,_⟩:=ux hv
   have r1:w.cell? ⟨a0,1,none⟩=some (.int .i64 (lv:Nat)):=by simp [World.cell?,fE]
   have Cv:=zZ fE
   have CL:=fX (xJ F w lv ss y no _ hv)
   have F6:=ru
   rw [lvB] at F6
   have hlv1:=F6.1
   have C1:Calls Tryz.prog 30 #[.int .i64 (lv:Nat)] w fun en w'=>en=.returned (str (dec lv))/\Below w.heap.size w w':=by
    have:=itoa_any (lv:Nat) w hg (by omega) (by omega)
    rwa [itoaNat] at this
   have C1:=fX C1
   have HP:=fX (fW hv (fW hg (fW ru hl)));clear hv hg ru hl fE F6
   go_enter Tryz.func15,Tryz.ntmps15
   go_wp2_with fail
   (with_reducible refine CL.out.mono ?_)
   rintro en w1 ⟨rfl,e⟩
   subst w1
   go_wp2_with fail
   (with_reducible refine C1.out.mono ?_)
   rintro en w2 ⟨rfl,fN⟩
   have rU:Below w.heap.size w (w2.alloc (.cells #[str (dec lv)] 9)):=fN.alloc fN.size _
   have nF:=fN.size
   have hvA:Rep (fun i=>F i/\i<w.heap.size) (w2.alloc (.cells #[str (dec lv)] 9)) (qK (.ask lv ss y no)) (.pointer (some ⟨a0,0,none⟩)):=Rep.below rU (fun _ h=>h) (Rep.low HP.out.1)
   have CP:=fX (cF _ _ _ _ hvA (by have:=HP.out.2.2.2;unfold Lim;omega))
   have hp:kq (.ask lv ss y no)=ss++[y,no]:=rfl
   unfold gK at CP
   rw [hp] at CP
   have f7:zR (ss++[y,no])+1=zW (.ask lv ss y no):=by rw [jf,zW,zR,zR,zR];omega
   have n9:∀ b∈ss++[y,no],lvB b:=by
    have:=HP.out.2.2.1
    rw [lvB] at this
    intro b hb
    rcases List.mem_append.1 hb with h | h
    ·obtain ⟨k,hk⟩:=List.mem_iff_getElem?.1 h
     exact dI _ this.2.1 k b hk
    ·simp at h
     rcases h with rfl | rfl
     ·exact this.2.2.1
     ·exact this.2.2.2
   have ET:=textB_join lv ss y no
   have tg:kO (ss++[y,no])=Lib.joinTail [32] ((ss++[y,no]).map kM):=(yS _).symm
   have Jl:=u9 (ss++[y,no]) (lvBs_of _ n9)
   have hdl:(dec lv).length<=5:=u5 4 lv (by omega)
   have hb100:=HP.out.2.2.2
   have EP:=Own.litAt (w:=w2) (e:=9) (size:=1) #[str (dec lv)] 1 _ rfl (by decide) rfl
   generalize hpp:ss++[y,no]=ps at *
   have HQ:=fX (fW f7 (fW n9 (fW ET (fW tg (fW Jl (fW rU EP))))));clear f7 n9 ET tg Jl rU hvA fN EP hp hpp
   go_wp2_with fail
   (with_reducible refine CP.out.mono ?_)
   rintro en w4 ⟨pv,rfl,fl,hp4⟩
   obtain ⟨pa,pc,e,_,_,fM⟩:=zP hp4
   subst e
   have hz4:=fl.size
   rw [zK] at hz4
   have G5:=HQ.out.1
   have I6:=qB ps
   have iL:=fX (fW fl fM);clear fl hp4 fM G5
   have EO:ps.length<=100000:=by have:=HQ.out.1;omega
   clear I6
   go_wp2_with fail
   go_loopw [3,22] (fun o i wr=>∃ k:Nat,k<=ps.length/\i=.int .i64 k/\TInv lv ps w w2 w4 k o wr) (fun _ i _=>ps.length-(intOf i).toNat)
   case atStart =>
    refine ⟨0,Nat.zero_le _,rfl,?_,HQ.out.2.2.2.2.2.1.trans (iL.out.1.mono (by rw [zK];omega)),But.refl _ _,fun g hg=>.inl ?_⟩
    ·exact HQ.out.2.2.2.2.2.2.keep fun g o hg hh=>by rw [iL.out.1.block g (zZ hh)];exact hh
    ·simp [Value.ownBlock] at hg;omega
   case round =>
    rename_i wr
    obtain ⟨k,hk,rfl,fL⟩:=hrel
    obtain ⟨sa,sc,e⟩:=fL.own.slice
    subst e
    have HI:=fX fL;clear fL
    by_cases fT:k<ps.length
    ·obtain ⟨ba,oa,u,d,ea,Kp,Gp,hd,hu,hr⟩:=iL.out.2 k fT
     subst ea
     rw [xV,Option.map_eq_some_iff] at hd
     obtain ⟨t,ht,rfl⟩:=hd
     obtain ⟨ta,eu⟩:=kZ hr
     subst eu
     have hne:ba≠w2.heap.size:=by
      rcases Kp with h | h
      ·have:=h.2;omega
      ·rw [zK] at h;omega
     have hc:wr.cell? ⟨ba,oa+k,none⟩=some (.pointer (some ⟨ta,0,none⟩)):=(HI.out.but.cell Gp hne).trans hu
     have sZ:Rep (fun _=>True) wr (qK t) (.pointer (some ⟨ta,0,none⟩)):=by
      refine (Rep.keep fun b o hf hh=>⟨trivial,?_⟩).1 _ _ hr
      rw [HI.out.but.block b (zZ hh) (fun e=>?_)]
      ·exact hh
      ·have e:b=w2.heap.size:=e
       rcases hf with h | h
       ·have:=h.2;omega
       ·rw [zK] at h;omega
     have mx:=List.mem_of_getElem? ht
     have ij:zW t<zW (.ask lv ss y no):=by have:=vu mx;have:=HQ.out.1;omega
     have IH':=fX (IH.out t ij (HQ.out.2.1 t mx) _ wr _ (HP.out.2.1.below HI.out.bel) sZ)
     have HT:=fX ht
     clear ht hu hr sZ mx
     go_wp2_with fail
     (with_reducible refine IH'.out.mono ?_)
     rintro en w5 ⟨rfl,fe⟩
     have iA:=fX fe;clear fe
     go_wp2_with (at_builtin;refine zE rfl _ _ 51 rfl 9 (str []) 1 16 Tryz.underlying51 Tryz.infoStrA rfl (by decide) (.slice sa (k+1) sc) (k+1) ((dec lv::(ps.take k).map kM).map str) rfl ?c1 _ 1 [str (kM t)] rfl ?c2 ?c3 ?c4 ?_)
     case c1=>exact (HI.out.own.keep fun g o hg hh=>by rw [iA.out.block g (zZ hh)];exact hh).alloc _
     case c2=>exact zq.lit1 #[str (kM t)] rfl (by simp [Value.oneCell',str]) _ (by simp)
     case c3=>unfold maxLen;omega
     case c4=>omega
     intro a7 c7 w7 fm fS fw
     have hz5:=iA.out.size
     have hzb:=HI.out.bel.size
     have hzr:=HI.out.but.size
     have hN:TInv lv ps w w2 w4 (k+1) (.slice a7 (k+1+1) c7) w7:=by
      have hfr:∀ g,(Value.slice sa (k+1) sc).ownBlock=some g->w.heap.size<=g/\(g=w2.heap.size\/w4.heap.size<=g):=fun g hg=>by
       have:=HI.out.fr g hg
       exact ⟨by omega,this⟩
      refine ⟨?_,?_,?_,fun g hg=>?_⟩
      ·have:=fm
       simpa [List.take_add_one,HT.out,List.map_take] using this
      ·exact ((HI.out.bel.trans (iA.out.mono hzb)).alloc (by omega) _).trans (fS.toBelow (by rw [zK];omega) fun i hi e=>by have:=hfr i e;omega)
      ·refine But.trans' ((HI.out.but.trans (But.ofBelow iA.out)).alloc _) fS fun i hi e=>?_
       have h1:=(hfr i e).2
       rcases h1 with h | h
       ·exact h
       ·omega
      ·rcases fw g hg with h | h
       ·exact (hfr g h).2
       ·exact .inr (by omega)
     have HN:=fX hN;clear hN fm fS fw
     go_wp2_with fail
     go_roundw
     case rel=>exact ⟨k+1,by omega,by go_num,HN.out⟩
     case measure=>simp [intOf];omega
    ·obtain rfl:k=ps.length:=by omega
     have ho:=HI.out.own
     rw [List.take_length] at ho
     obtain ⟨g,cap,e,hcap,hglt,hlen,hcells⟩:=ho.strings (by omega)
     simp only [Value.slice.injEq] at e
     obtain ⟨rfl,_,rfl⟩:=e
     have hxl:((dec lv::ps.map kM).map fun t=>(⟨t.toArray⟩:ByteArray)).length=ps.length+1:=by simp
     have hxm:(((dec lv::ps.map kM).map fun t=>(⟨t.toArray⟩:ByteArray)).map (·.data.toList))=dec lv::ps.map kM:=by simp [Function.comp_def]
     have FQ:(⟨#[32]⟩:ByteArray).data.toList=[32]:=rfl
     have CJ:=Tryz.strings_Join g 0 sc ((dec lv::ps.map kM).map fun t=>(⟨t.toArray⟩:ByteArray)) ⟨#[32]⟩ wr hcells hglt (by rw [hxl];omega) (by rw [hxl];omega) (by
      rw [hxm,FQ,Lib.join_cons,List.length_append,<- HQ.out.2.2.2.1];have:=HQ.out.2.2.2.2.1;have:=HQ.out.1;omega)
     rw [hxl,hxm,FQ] at CJ
     have CJ:=fX CJ
     have HJ:=fX HQ.out.2.2.1
     have Am:(Lib.join (dec lv::ps.map kM) [32]).length<=2000000:=by
      rw [Lib.join_cons,List.length_append,<- HQ.out.2.2.2.1];have:=HQ.out.2.2.2.2.1;have:=HQ.out.1;omega
     clear ho hcells hxl hxm FQ
     generalize hjn:Lib.join (dec lv::ps.map kM) [32]=jn at *
     go_wp2_with fail
     (with_reducible refine CJ.out.mono ?_)
     rintro en w8 ⟨rfl,mJ⟩
     have HB8:=fX (zzT HI.out.bel mJ);clear mJ
     go_wp2_with fail
     go_ret
     refine ⟨?_,HB8.out⟩
     rw [HJ.out]
     have e1:=str_add [40] jn
     have e2:=str_add ([40]++jn) [41]
     show Ending.returned (.string ((⟨([40]:Bs).toArray⟩++⟨jn.toArray⟩)++⟨([41]:Bs).toArray⟩))=_
     rw [e1,e2]
theorem text_any (n:Nat):∀ b,zW b<=n->n<=100000->lvB b->db b:=by
 induction n with
 | zero=>intro b h _;have:=kW b;omega
 | succ n ih=>exact fun b h hn ru=>text_step b (by omega) ru (fun t h' tR=>ih t (by omega) (by omega) tR)
structure wS (w:World) (P:Nat) (o:Value->Obj) (e:TypeId) (sz k:Nat) (cs:List DV) (sv:Value) (us:List Value) (wr:World):Prop where
 below:Below P w wr
 blk:wr.heap[P]? = some (o sv)
 own:Own wr e sz sv k us
 rep:zX (fun i=>P<i/\sv.ownBlock≠some i) wr cs us
 fr:∀ g,sv.ownBlock=some g->P<g
theorem wS.start {w:World} {P:Nat} {o:Value->Obj} {e:TypeId} {sz:Nat} (h:w.heap[P]? = some (o (.slice none 0 0))):wS w P o e sz 0 [] (.slice none 0 0) [] w :=
 ⟨fH _ _,h,World.ownsRow_nil _ _ _ _,by rw [zC],fun g hg=>by simp [Value.ownBlock] at hg⟩
theorem wS.slice {w:World} {P:Nat} {o:Value->Obj} {e:TypeId} {sz k:Nat} {cs:List DV} {sv:Value} {us:List Value} {wr:World} (h:wS w P o e sz k cs sv us wr):∃ a c,sv=.slice a k c:=h.own.slice
theorem wS.next {w:World} {P:Nat} {o:Value->Obj} {e:TypeId} {sz k:Nat} {cs:List DV} {sv:Value} {us:List Value} {wr:World} (h:wS w P o e sz k cs sv us wr)
 {w6 w7 w8:World} {ob:Obj} {ds:List DV} {news:List Value} {sv':Value} (fO:Below wr.heap.size wr w6) (m_:zX (fun i=>wr.heap.size<=i) w6 ds news)
 (fm:Own w7 e sz sv' (k+1) (us++news)) (fS:But (fun b=>sv.ownBlock=some b) (w6.alloc ob) w7) (fw:∀ g,sv'.ownBlock=some g->sv.ownBlock=some g\/g=(w6.alloc ob).heap.size)
 (h8:w8.heap[P]? = some (o sv')) (mJ:But (fun b=>b=P) w7 w8):wS w P o e sz (k+1) (cs++ds) sv' (us++news) w8:=by
 have hz6:=fO.size
 have G2:=fS.size
 rw [zK] at G2
 have GD:=zZ h.blk
 have i1:∀ i,sv.ownBlock=some i->P<i/\i<wr.heap.size:=fun i e=>⟨h.fr i e,h.own.lt e⟩
 have past:∀ (i:Nat) (x:Obj),i≠P->sv.ownBlock≠some i->w6.heap[i]? = some x->w8.heap[i]? = some x:=fun i x h1 h2 hx=>by
  have hl:=zZ hx
  rw [mJ.block i (by omega) h1,fS.block i (by rw [zK];omega) h2,Below.heap_alloc _ _ _ hl];exact hx
 have sQ:∀ g,sv'.ownBlock=some g->sv.ownBlock=some g\/w6.heap.size<g:=fun g hg=>by
  rcases fw g hg with e | e
  ·exact .inl e
  ·rw [zK] at e;exact .inr (by omega)
 refine ⟨?_,h8,fm.keep fun g x hg hx=>?_,zX.append ?_ ?_,fun g hg=>?_⟩
 ·have h1:Below P w (w6.alloc ob):=(h.below.trans (fO.mono (Nat.le_of_lt GD))).alloc (by omega) _
  have h2:Below P w w7:=h1.trans (fS.toBelow (by rw [zK];omega) fun i hi e=>by have:=i1 i e;omega)
  exact h2.trans (mJ.toBelow (by omega) fun i hi e=>by omega)
 ·rw [mJ.block g (zZ hx) (fun e=>by rcases sQ g hg with e' | e';· have:=i1 g e';omega
                                    ·omega)];exact hx
 ·have hk:∀ i x,(P<i/\sv.ownBlock≠some i)->wr.heap[i]? = some x->(P<i/\sv'.ownBlock≠some i)/\w8.heap[i]? = some x:=fun i x hi hx=>by
   refine ⟨⟨hi.1,fun e2=>?_⟩,past i x (by omega) hi.2 (by rw [fO.block i (zZ hx)];exact hx)⟩
   rcases sQ i e2 with e' | e'
   ·exact hi.2 e'
   ·have:=zZ hx;omega
  exact (Rep.keep hk).2 _ _ h.rep
 ·have hk:∀ i x,wr.heap.size<=i->w6.heap[i]? = some x->(P<i/\sv'.ownBlock≠some i)/\w8.heap[i]? = some x:=fun i x hi hx=>by
   refine ⟨⟨by omega,fun e2=>?_⟩,past i x (by omega) (fun e2=>by have:=i1 i e2;omega) hx⟩
   rcases sQ i e2 with e' | e'
   ·have:=i1 i e';omega
   ·have:=zZ hx;omega
  exact (Rep.keep hk).2 _ _ m_
 ·rcases sQ g hg with e' | e'
  ·exact h.fr g e'
  ·omega
theorem wS.own6 {w:World} {P:Nat} {o:Value->Obj} {e:TypeId} {sz k:Nat} {cs:List DV} {sv:Value} {us:List Value} {wr:World} (h:wS w P o e sz k cs sv us wr) {w6:World} (fO:Below wr.heap.size wr w6) (ob:Obj):Own (w6.alloc ob) e sz sv k us :=
 (h.own.keep (w':=w6) fun g _ _ hx=>by rw [fO.block g (zZ hx)];exact hx).alloc ob
theorem wS.not {w:World} {P:Nat} {o:Value->Obj} {e:TypeId} {sz k:Nat} {cs:List DV} {sv:Value} {us:List Value} {wr:World} (h:wS w P o e sz k cs sv us wr):¬ sv.ownBlock=some P:=fun e=>by have:=h.fr P e;omega
theorem wS.sl {w:World} {P:Nat} {o:Value->Obj} {e:TypeId} {sz k:Nat} {cs:List DV} {sv:Value} {us:List Value} {wr:World} (h:wS w P o e sz k cs sv us wr):Rep (fun i=>P<i) wr (.sl e sz k cs) sv :=
 h.own.rep (fun g hg=>h.fr g hg) ((Rep.keep fun _ _ hi hx=>⟨hi.1,hx⟩).2 _ _ h.rep)
theorem vf (w:World) (P f:Nat) (u:Value):But (fun b=>b=P) w (w.setCell ⟨P,f,none⟩ u):=(But.refl (fun b=>b=P) w).setCell (p:=⟨P,f,none⟩) (.inl rfl) u
theorem wS.cell7 {w:World} {P:Nat} {o:Value->Obj} {e:TypeId} {sz k:Nat} {cs:List DV} {sv:Value} {us:List Value} {wr:World} (h:wS w P o e sz k cs sv us wr) {w6 w7:World} {ob:Obj} (fO:Below wr.heap.size wr w6) (fS:But (fun b=>sv.ownBlock=some b) (w6.alloc ob) w7) :
 w7.heap[P]? = some (o sv):=by
 have GD:=zZ h.blk
 have:=fO.size
 rw [fS.block P (by rw [zK];omega) h.not,Below.heap_alloc _ _ _ (by omega),fO.block P GD];exact h.blk
theorem etas_take {ts:List Ty} {k:Nat} {t:Ty} (h:ts[k]? = some t) (v n:Nat):jp (ts.take (k+1)) v n=jp (ts.take k) v n++[eta t (v+k) n]:=by
 induction ts generalizing k v with
 | nil=>simp at h
 | cons a ts ih =>
   cases k with
   | zero=>simp at h;subst h;simp [jp]
   | succ k =>
     simp only [List.getElem?_cons_succ] at h
     simp only [List.take_succ_cons,jp,List.cons_append]
     rw [ih h,show v+1+k=v+(k+1) from by omega]
theorem arg_atoms {t a:Ty} {k:Nat} (h:t.args[k]? = some a):1+zV a<=zV t:=by
 have key:∀ (ts:List Ty) (k:Nat),ts[k]? = some a->1+zV a<=za ts:=by
  intro ts
  induction ts with
  | nil=>intro k h;simp at h
  | cons x xs ih =>
    intro k h
    rw [za]
    cases k with
    | zero=>simp at h;subst h;omega
    | succ k=>have:=ih k (by simpa using h);omega
 cases t with
 | mk ts=>rw [zV];have:=key ts k h;omega
theorem pY {B b:Nat} {w:World} {c:UInt8} (h:w.heap[b]? = some (.cells #[str [c],.int .i64 0,.slice none 0 0,.pointer none,.pointer none] 68 (0,0))) (hB:B<=b):Rep (fun i=>B<=i) w (qK (.leaf c)) (.pointer (some ⟨b,0,none⟩)):=by
 rw [qK,jd]
 refine ⟨_,_,rfl,hB,h,?_⟩
 exact zQ.2 ⟨_,_,rfl,zH.2 rfl,zQ.2 ⟨_,_,rfl,zH.2 rfl,zQ.2 ⟨_,_,rfl,zp.2 ⟨rfl,none,0,rfl,fP _,fun _=>rfl,.inl rfl⟩,zQ.2 ⟨_,_,rfl,zH.2 rfl,zQ.2 ⟨_,_,rfl,zH.2 rfl,zC.2 rfl⟩⟩⟩⟩⟩
def xI (v:Nat) (yv nv sv:Value):Obj:=.cells #[str [],.int .i64 (v:Nat),sv,yv,nv] 68 (0,0)
set_option maxRecDepth 100000 in
theorem copyOf_any (m:Nat):∀ (t:Ty),zV t<=m->zV t<=15->∀ (F:Nat->Prop) (kv:Value) (v n:Nat) (w:World),Rep F w (jS t) kv->v<=1000000->n+16*zV t<=1000000 ->
 Calls Tryz.prog 75 #[kv,.int .i64 (v:Nat),.int .i64 (n:Nat)] w fun en w'=>∃ b,en=.returned (.pointer (some ⟨b,0,none⟩))/\Below w.heap.size w w'/\Rep (fun i=>w.heap.size<=i) w' (qK (eta t v n)) (.pointer (some ⟨b,0,none⟩)):=by
 induction m with
 | zero=>intro t h;cases t;rw [zV] at h;omega
 | succ m ih =>
 intro t hm fu F kv v n w hk hv hn
 have IH:=fX ih
 obtain ⟨kb,ks,e,hkF,sG,D0⟩:=kK hk
 subst e
 obtain ⟨ka,kc,e,_,_,lE⟩:=zP D0
 subst e
 have F9:=(zi fu).2
 have fM:=fX (zi fu).1
 have rZ:=zZ sG
 have Al:w.cell? ⟨kb,0,none⟩=some (.slice ka t.args.length kc):=by simp [World.cell?,sG]
 have HA:=fX lE
 obtain ⟨W,hW⟩:=zzN (((w.alloc (.cells #[str [116],.int .i64 0,.slice none 0 0,.pointer none,.pointer none] 68)).alloc (.cells #[str [102],.int .i64 0,.slice none 0 0,.pointer none,.pointer none] 68)).alloc (.cells #[str [],.int .i64 (v:Nat),.slice none 0 0,.pointer (some ⟨w.heap.size,0,none⟩),.pointer (some ⟨w.heap.size+1,0,none⟩)] 68))
 have r_:W.heap.size=w.heap.size+3:=by rw [<- hW];simp only [zK]
 have fq:Below w.heap.size w W:=by rw [<- hW];exact (((fH _ _).alloc (fP _) _).alloc (by simp only [zK];omega) _).alloc (by simp only [zK];omega) _
 have bT:W.heap[w.heap.size]? = some (.cells #[str [116],.int .i64 0,.slice none 0 0,.pointer none,.pointer none] 68 (0,0)):=by rw [<- hW];exact zY (zY (zG _ _))
 have bF:W.heap[w.heap.size+1]? = some (.cells #[str [102],.int .i64 0,.slice none 0 0,.pointer none,.pointer none] 68 (0,0)):=by
  rw [<- hW];refine zY ?_
  have:=zG (w.alloc (.cells #[str [116],.int .i64 0,.slice none 0 0,.pointer none,.pointer none] 68)) (.cells #[str [102],.int .i64 0,.slice none 0 0,.pointer none,.pointer none] 68)
  rwa [zK] at this
 have bO:W.heap[w.heap.size+2]? = some (xI v (.pointer (some ⟨w.heap.size,0,none⟩)) (.pointer (some ⟨w.heap.size+1,0,none⟩)) (.slice none 0 0)):=by
  rw [<- hW]
  have:=zG ((w.alloc (.cells #[str [116],.int .i64 0,.slice none 0 0,.pointer none,.pointer none] 68)).alloc (.cells #[str [102],.int .i64 0,.slice none 0 0,.pointer none,.pointer none] 68)) (.cells #[str [],.int .i64 (v:Nat),.slice none 0 0,.pointer (some ⟨w.heap.size,0,none⟩),.pointer (some ⟨w.heap.size+1,0,none⟩)] 68)
  simp only [zK] at this
  exact this
 have HW:=fX (fW hW (fW r_ (fW fq (fW bT (fW bF bO)))))
 clear hW r_ fq bT bF bO D0 sG lE ih hk
 go_enter Tryz.func75,Tryz.ntmps75
 go_upto_region 2 with (fail)
 rw [HW.out.1]
 have hk0W:W.cell? ⟨kb,0,none⟩=some (.slice ka t.args.length kc):=(HW.out.2.2.1.cell rZ).trans Al
 go_wp2_with fail
 go_loopw [22] (fun i wr=>∃ (k:Nat) (sv:Value) (us:List Value),k<=t.args.length/\i=.int .i64 k/\wS W (w.heap.size+2) (xI v (.pointer (some ⟨w.heap.size,0,none⟩)) (.pointer (some ⟨w.heap.size+1,0,none⟩))) 34 1 k (jJ (jp (t.args.take k) n (n+t.args.length))) sv us wr) (fun i _=>t.args.length-(intOf i).toNat)
 case atStart=>exact ⟨0,_,_,Nat.zero_le _,rfl,by simpa [jp,jJ] using wS.start HW.out.2.2.2.2.2⟩
 case round =>
  rename_i wr
  obtain ⟨k,sv,us,hk,rfl,fL⟩:=hrel
  obtain ⟨sa,sc,e⟩:=fL.slice
  subst e
  have fE:wr.heap[w.heap.size+2]? = some (.cells #[str [],.int .i64 (v:Nat),.slice sa k sc,.pointer (some ⟨w.heap.size,0,none⟩),.pointer (some ⟨w.heap.size+1,0,none⟩)] 68 (0,0)):=fL.blk
  have r_:=HW.out.2.1
  have f_:Below w.heap.size w wr:=HW.out.2.2.1.trans (fL.below.mono (by omega))
  obtain ⟨y0,y1,y2,y3,y4,yf⟩:=wB fE
  have iF:wr.cell? ⟨kb,0,none⟩=some (.slice ka t.args.length kc):=(f_.cell rZ).trans Al
  have HI:=fX (fW fL (fW fE f_));clear fL fE f_
  by_cases fT:k<t.args.length
  ·have mT:(k:Int)<(t.args.length:Int):=by omega
   obtain ⟨lh,AB,u2,d2,e,C8,Iz,Ao,rx,mz⟩:=HA.out k fT
   subst e
   rw [pB,Option.map_eq_some_iff] at Ao
   obtain ⟨a,ha,rfl⟩:=Ao
   obtain ⟨kab,s2,rfl,_,_,_⟩:=kK mz
   have lm:zV a<=15:=fM.out a (List.mem_of_getElem? ha)
   have lA:1+zV a<=zV t:=arg_atoms ha
   have q2:wr.cell? ⟨lh,AB+k,none⟩=some (.pointer (some ⟨kab,0,none⟩)):=(HI.out.2.2.cell Iz).trans rx
   have CC:=IH.out a (by omega) lm F (.pointer (some ⟨kab,0,none⟩)) (n+k) (n+t.args.length) wr.drew ((Rep.below HI.out.2.2 (fun _ h=>h) mz).drew) (by omega) (by omega)
   rw [Int.natCast_add,Int.natCast_add] at CC
   have CC:=fX CC
   have Ae:=etas_take ha n (n+t.args.length)
   have HK:=fX (fW ha Ae);clear ha mz Ae rx
   have E7:=fX (fW (show IntKind.i64.wrap ((n:Int)+(k:Int))=(n:Int)+(k:Int) from IntWalk.i64_in _ (by omega)) (show IntKind.i64.wrap ((n:Int)+(t.args.length:Int))=(n:Int)+(t.args.length:Int) from IntWalk.i64_in _ (by omega)))
   have SX:Hid (∀ w',But (fun i=>(Value.slice sa k sc).ownBlock=some i) wr w'->w'.cell? ⟨w.heap.size+2,2,none⟩=some (.slice sa k sc)/\w'.cell? ⟨kb,0,none⟩=some (.slice (some ⟨lh,AB,none⟩) t.args.length kc)):=by
    show ∀ w',_->_
    intro w' fx
    exact ⟨(fx.cell (fG wr _ y2) HI.out.1.not).trans y2,(fx.cell (fG wr _ iF) (fun e=>by have h1:=HI.out.1.fr _ e;have h1:w.heap.size+2<kb:=h1;omega)).trans iF⟩
   have tP:k+1<=maxLen:=by unfold maxLen;omega
   have nA:(k+1)*8<=140737488355328:=by omega
   clear y0 y1 y3 y4 yf
   go_wp2_with fail
   refine wp_region_noPanic ?_
   refine zB (fun w'=>But (fun i=>(Value.slice sa k sc).ownBlock=some i) wr w') (fun i=>i == 21) (by kernel_rfl) ?_
   have fF:(fun w'=>But (fun i=>(Value.slice sa k sc).ownBlock=some i) wr w') wr.drew:=(But.refl _ wr).drew
   refine tk [0,1,2,3,4,5,6,7,8,9,10,11,12,13,14] fF ?_
   (intro d hd;simp [tkD] at hd;subst hd;simp only [tks,pQ,pZ,pS])
   iterate 15 (refine ⟨?_,?_,?_⟩;rotate_left;· (intro oi ho;simp at ho;subst ho;refine Or.inl ⟨by rfl,fun w' fI=>?_⟩;obtain ⟨e0,e1⟩:=SX.out w' fI;have FF:=E7.out.1;go_simp;try with_reducible rfl))
   refine tk [15] fF ?_
   (intro d hd;simp [tkD] at hd;subst hd;simp only [tks,pQ,pZ,pS])
   (refine ⟨?_,?_,?_⟩;rotate_left;· (intro oi ho;simp at ho;subst ho;refine Or.inl ⟨by rfl,fun w' fI=>?_⟩;have FF:=E7.out.2;go_simp;try with_reducible rfl))
   (refine on 16 ?_;intro o ho K' hK;simp at ho;subst ho;go_simp)
   go_at_call 75
   (with_reducible refine CC.out.mono ?_)
   rintro Aw w6 ⟨vb,rfl,fO,m_⟩
   have nQ:Below wr.heap.size wr w6:=(Below.drew (fH _ _)).trans fO
   have mU:Hid (But (fun i=>(Value.slice sa k sc).ownBlock=some i) wr w6):=But.ofBelow nQ
   have mK:=HI.out.1.own6 nQ (.cells #[.pointer (some ⟨vb,0,none⟩)] 34)
   have H6:=fX (fW nQ m_);clear fO m_ nQ
   (refine hK.out _ _ (fun _=>mU.out) ?_;clear hK K';try simp only [pQ,pN,pZ,pS])
   (refine on 17 ?_;intro o ho K' hK;simp at ho;subst ho;go_simp)
   (refine hK.out _ _ (fun _=>mU.out.alloc _) ?_;clear hK K';try simp only [pQ,pN,pZ,pS])
   (refine on 18 ?_;intro o ho K' hK;simp at ho;subst ho)
   refine zF (by rfl) _ _ _ (by rfl) 34 (.pointer none) 1 8 Tryz.underlying66 Tryz.infoB rfl (by decide) (.slice sa k sc) k us (by rfl) mK _ 1 [.pointer (some ⟨vb,0,none⟩)] (by rfl) (zq.lit1 #[.pointer (some ⟨vb,0,none⟩)] rfl (by simp [Value.oneCell']) _ (by rfl)) tP nA ?_
   intro a' c' w7 fm fS fw
   (refine hK.out _ _ (fun _=>(mU.out.alloc _).trans fS) ?_;clear hK K';try simp only [pQ,pN,pZ,pS])
   have mw:=HI.out.1.cell7 H6.out.1 fS
   have rJ:w7.cell? ⟨w.heap.size+2,2,none⟩=some (.slice sa k sc)/\w7.frozen? ⟨w.heap.size+2,2,none⟩=false:=by rw [xI] at mw;exact ⟨by simp [World.cell?,mw],by simp [World.frozen?,mw]⟩
   obtain ⟨ig,sJ⟩:=rJ
   have ii:=fX mw;clear mw
   (refine on 19 ?_;intro o ho K' hK;simp at ho;subst ho;go_simp)
   (refine hK.out _ _ (fun _=>(mU.out.alloc _).trans fS) ?_;clear hK K';try simp only [pQ,pN,pZ,pS])
   (refine on 20 ?_;intro o ho K' hK;simp at ho;subst ho;go_simp)
   (refine hK.out _ _ (fun _=>(mU.out.alloc _).trans fS) ?_;clear hK K';try simp only [pQ,pN,pZ,pS])
   (refine on 21 ?_;intro o ho K' hK;simp at ho;subst ho;go_simp)
   (refine hK.out _ _ (fun h=>by simp at h) ?_;clear hK K';try simp only [pQ,pN,pZ,pS])
   refine zU (by kernel_rfl) (NoPanic.normal ?_) _
   have hX:=HI.out.1.next (w8:=w7.setCell ⟨w.heap.size+2,2,none⟩ (.slice a' (k+1) c')) H6.out.1 (zX.one H6.out.2) fm fS fw (by rw [zy ii.out];rfl) (vf _ _ _ _)
   have nR:jJ (jp (t.args.take k) n (n+t.args.length))++[qK (eta a (n+k) (n+t.args.length))]=jJ (jp (t.args.take (k+1)) n (n+t.args.length)):=by rw [HK.out.2,wG]
   rw [nR] at hX
   have HN:=fX hX
   clear hX nR fm fS fw fF mK ig sJ
   go_wp2_with fail
   go_roundw
   case rel=>exact ⟨k+1,_,_,by omega,by go_num,HN.out⟩
   case measure=>simp [intOf];omega
  ·obtain rfl:k=t.args.length:=by omega
   clear y0 y1 y2 y3 y4 yf
   go_wp2_with fail
   go_ret
   refine ⟨w.heap.size+2,rfl,HI.out.2.2,?_⟩
   have nU:=HI.out.1.sl
   rw [List.take_length] at nU
   rw [eta_eq,qK,uN,jd]
   have bT:=(HI.out.1.below.block w.heap.size (by omega)).trans HW.out.2.2.2.1
   have bF:=(HI.out.1.below.block (w.heap.size+1) (by omega)).trans HW.out.2.2.2.2.1
   refine ⟨_,_,rfl,by show w.heap.size<=w.heap.size+2;omega,HI.out.2.1,?_⟩
   refine zQ.2 ⟨_,_,rfl,zH.2 rfl,zQ.2 ⟨_,_,rfl,zH.2 rfl,zQ.2 ⟨_,_,rfl,nU.weak fun i (h:w.heap.size+2<i)=>by show w.heap.size<=i;omega,zQ.2 ⟨_,_,rfl,pY bT (fP _),zQ.2 ⟨_,_,rfl,pY bF (by omega),zC.2 rfl⟩⟩⟩⟩⟩
structure jO (F0:Nat->Prop) (w:World) (P:Nat) (o:Value->Obj) (e:TypeId) (sz k:Nat) (cs:List DV) (sv:Value) (us:List Value) (wr:World):Prop where
 below:Below P w wr
 blk:wr.heap[P]? = some (o sv)
 own:Own wr e sz sv k us
 rep:zX (fun i=>(F0 i\/P<i)/\sv.ownBlock≠some i) wr cs us
 fr:∀ g,sv.ownBlock=some g->P<g
theorem jO.start {F0:Nat->Prop} {w:World} {P:Nat} {o:Value->Obj} {e:TypeId} {sz:Nat} (h:w.heap[P]? = some (o (.slice none 0 0))):jO F0 w P o e sz 0 [] (.slice none 0 0) [] w :=
 ⟨fH _ _,h,World.ownsRow_nil _ _ _ _,by rw [zC],fun g hg=>by simp [Value.ownBlock] at hg⟩
theorem jO.slice {F0:Nat->Prop} {w:World} {P:Nat} {o:Value->Obj} {e:TypeId} {sz k:Nat} {cs:List DV} {sv:Value} {us:List Value} {wr:World} (h:jO F0 w P o e sz k cs sv us wr):∃ a c,sv=.slice a k c:=h.own.slice
theorem jO.next {F0:Nat->Prop} {w:World} {P:Nat} {o:Value->Obj} {e:TypeId} {sz k:Nat} {cs:List DV} {sv:Value} {us:List Value} {wr:World} (h:jO F0 w P o e sz k cs sv us wr) (hF0:∀ i,F0 i->i<P)
 {w6 w7 w8:World} {ob:Obj} {ds:List DV} {news:List Value} {sv':Value} (fO:Below wr.heap.size wr w6) (m_:zX (fun i=>F0 i\/wr.heap.size<=i) w6 ds news)
 (fm:Own w7 e sz sv' (k+1) (us++news)) (fS:But (fun b=>sv.ownBlock=some b) (w6.alloc ob) w7) (fw:∀ g,sv'.ownBlock=some g->sv.ownBlock=some g\/g=(w6.alloc ob).heap.size)
 (h8:w8.heap[P]? = some (o sv')) (mJ:But (fun b=>b=P) w7 w8):jO F0 w P o e sz (k+1) (cs++ds) sv' (us++news) w8:=by
 have hz6:=fO.size
 have G2:=fS.size
 rw [zK] at G2
 have GD:=zZ h.blk
 have i1:∀ i,sv.ownBlock=some i->P<i/\i<wr.heap.size:=fun i e=>⟨h.fr i e,h.own.lt e⟩
 have past:∀ (i:Nat) (x:Obj),i≠P->sv.ownBlock≠some i->w6.heap[i]? = some x->w8.heap[i]? = some x:=fun i x h1 h2 hx=>by
  have hl:=zZ hx
  rw [mJ.block i (by omega) h1,fS.block i (by rw [zK];omega) h2,Below.heap_alloc _ _ _ hl];exact hx
 have sQ:∀ g,sv'.ownBlock=some g->sv.ownBlock=some g\/w6.heap.size<g:=fun g hg=>by
  rcases fw g hg with e | e
  ·exact .inl e
  ·rw [zK] at e;exact .inr (by omega)
 refine ⟨?_,h8,fm.keep fun g x hg hx=>?_,zX.append ?_ ?_,fun g hg=>?_⟩
 ·have h1:Below P w (w6.alloc ob):=(h.below.trans (fO.mono (Nat.le_of_lt GD))).alloc (by omega) _
  have h2:Below P w w7:=h1.trans (fS.toBelow (by rw [zK];omega) fun i hi e=>by have:=i1 i e;omega)
  exact h2.trans (mJ.toBelow (by omega) fun i hi e=>by omega)
 ·rw [mJ.block g (zZ hx) (fun e=>by rcases sQ g hg with e' | e';· have:=i1 g e';omega
                                    ·omega)];exact hx
 ·have hk:∀ i x,((F0 i\/P<i)/\sv.ownBlock≠some i)->wr.heap[i]? = some x->((F0 i\/P<i)/\sv'.ownBlock≠some i)/\w8.heap[i]? = some x:=fun i x hi hx=>by
   refine ⟨⟨hi.1,fun e2=>?_⟩,past i x (by rcases hi.1 with h | h;have:=hF0 i h;omega;omega) hi.2 (by rw [fO.block i (zZ hx)];exact hx)⟩
   rcases sQ i e2 with e' | e'
   ·exact hi.2 e'
   ·have:=zZ hx;omega
  exact (Rep.keep hk).2 _ _ h.rep
 ·have hk:∀ i x,(F0 i\/wr.heap.size<=i)->w6.heap[i]? = some x->((F0 i\/P<i)/\sv'.ownBlock≠some i)/\w8.heap[i]? = some x:=fun i x hi0 hx=>by
   have hi:F0 i/\i<P\/wr.heap.size<=i:=hi0.elim (fun h=>.inl ⟨h,hF0 i h⟩) .inr
   refine ⟨⟨hi0.elim .inl (fun h=>.inr (by omega)),fun e2=>?_⟩,past i x (by rcases hi with h | h;have:=h.2;omega;omega) (fun e2=>by have:=i1 i e2;rcases hi with h | h;have:=h.2;omega;omega) hx⟩
   rcases sQ i e2 with e' | e'
   ·have:=i1 i e';rcases hi with h | h;have:=h.2;omega;omega
   ·have:=zZ hx;omega
  exact (Rep.keep hk).2 _ _ m_
 ·rcases sQ g hg with e' | e'
  ·exact h.fr g e'
  ·omega
theorem jO.own6 {F0:Nat->Prop} {w:World} {P:Nat} {o:Value->Obj} {e:TypeId} {sz k:Nat} {cs:List DV} {sv:Value} {us:List Value} {wr:World} (h:jO F0 w P o e sz k cs sv us wr) {w6:World} (fO:Below wr.heap.size wr w6) (ob:Obj):Own (w6.alloc ob) e sz sv k us :=
 (h.own.keep (w':=w6) fun g _ _ hx=>by rw [fO.block g (zZ hx)];exact hx).alloc ob
theorem jO.not {F0:Nat->Prop} {w:World} {P:Nat} {o:Value->Obj} {e:TypeId} {sz k:Nat} {cs:List DV} {sv:Value} {us:List Value} {wr:World} (h:jO F0 w P o e sz k cs sv us wr):¬ sv.ownBlock=some P:=fun e=>by have:=h.fr P e;omega
theorem jO.sl {F0:Nat->Prop} {w:World} {P:Nat} {o:Value->Obj} {e:TypeId} {sz k:Nat} {cs:List DV} {sv:Value} {us:List Value} {wr:World} (h:jO F0 w P o e sz k cs sv us wr):Rep (fun i=>F0 i\/P<i) wr (.sl e sz k cs) sv :=
 h.own.rep (fun g hg=>.inr (h.fr g hg)) ((Rep.keep fun _ _ hi hx=>⟨hi.1,hx⟩).2 _ _ h.rep)
theorem jO.cell7 {F0:Nat->Prop} {w:World} {P:Nat} {o:Value->Obj} {e:TypeId} {sz k:Nat} {cs:List DV} {sv:Value} {us:List Value} {wr:World} (h:jO F0 w P o e sz k cs sv us wr) {w6 w7:World} {ob:Obj} (fO:Below wr.heap.size wr w6) (fS:But (fun b=>sv.ownBlock=some b) (w6.alloc ob) w7) :
 w7.heap[P]? = some (o sv):=by
 have GD:=zZ h.blk
 have:=fO.size
 rw [fS.block P (by rw [zK];omega) h.not,Below.heap_alloc _ _ _ (by omega),fO.block P GD];exact h.blk
def PtrPost (F:Nat->Prop) (w:World) (b:Bd) (en:Ending) (w':World):Prop :=
 ∃ p,en=.returned (.pointer (some ⟨p,0,none⟩))/\Below w.heap.size w w'/\Rep (fun i=>F i\/w.heap.size<=i) w' (qK b) (.pointer (some ⟨p,0,none⟩))
theorem ask_new {F:Nat->Prop} {w:World} {v:Nat} {ss:List Bd} {y n:Bd} {b:Nat} {sv yv nv:Value} (hb:F b) (hc:w.heap[b]? = some (.cells #[str [],.int .i64 (v:Nat),sv,yv,nv] 68 (0,0)))
 (hs:Rep F w (.sl 34 1 ss.length (jJ ss)) sv) (hy:Rep F w (qK y) yv) (hn:Rep F w (qK n) nv):Rep F w (qK (.ask v ss y n)) (.pointer (some ⟨b,0,none⟩)):=by
 rw [qK,jd]
 exact ⟨_,_,rfl,hb,hc,zQ.2 ⟨_,_,rfl,zH.2 rfl,zQ.2 ⟨_,_,rfl,zH.2 rfl,zQ.2 ⟨_,_,rfl,hs,zQ.2 ⟨_,_,rfl,hy,zQ.2 ⟨_,_,rfl,hn,zC.2 rfl⟩⟩⟩⟩⟩⟩
theorem fits2_any (F:Nat->Prop) (w:World) (b:Bd) (v:Value) (hv:Rep F w (qK b) v) (hn:zW b<=100000) :
 Calls Tryz.prog 55 #[v] w fun en w'=>en=.returned (.bool (decide (zW b<=200/\kP b<=100)))/\Below w.heap.size w w':=by
 obtain ⟨vb,rfl⟩:=kZ hv
 have hL:Lim 100000:=by unfold Lim;omega
 have C1:=fX (size_any 100000 b hn hL F w _ hv)
 go_enter Tryz.func55,Tryz.ntmps55
 go_wp2_with fail
 (with_reducible refine C1.out.mono ?_)
 rintro en w1 ⟨rfl,fA⟩
 have C2:=fX (depth_any 100000 b hn hL F w1 _ (Rep.below fA (fun _ h=>h) hv))
 have HB:=fX fA;clear fA
 by_cases rI:zW b<=200
 ·have h1:decide ((zW b:Int)<=200)=true:=decide_eq_true (by omega)
  go_wp2_with fail
  (with_reducible refine C2.out.mono ?_)
  rintro en w2 ⟨rfl,fN⟩
  have hb:=zzT HB.out fN
  clear fN
  by_cases ie:kP b<=100
  ·have h2:decide ((kP b:Int)<=100)=true:=decide_eq_true (by omega)
   have HE:=fX (fW (show decide (zW b<=200/\kP b<=100)=true from decide_eq_true ⟨rI,ie⟩) hb);clear hb
   go_wp2_with fail
   go_ret
   rw [HE.out.1]
   exact ⟨rfl,HE.out.2⟩
  ·have h2:decide ((kP b:Int)<=100)=false:=decide_eq_false (by omega)
   have HE:=fX (fW (show decide (zW b<=200/\kP b<=100)=false from decide_eq_false (by omega)) hb);clear hb
   go_wp2_with fail
   go_ret
   rw [HE.out.1]
   exact ⟨rfl,HE.out.2⟩
 ·have h1:decide ((zW b:Int)<=200)=false:=decide_eq_false (by omega)
  have HE:=fX (show decide (zW b<=200/\kP b<=100)=false from decide_eq_false (by omega))
  go_wp2_with fail
  go_ret
  rw [HE.out]
  exact ⟨rfl,HB.out⟩
set_option maxRecDepth 100000 in
theorem kindsOf_any (F:Nat->Prop) (ns:List Nm) (lv:Value) (w:World) (hn:ns.length<=1000) (hr:Rep F w (.sl 99 2 ns.length (jA ns)) lv) :
 Calls Tryz.prog 77 #[lv] w fun en w'=>∃ a c,en=.returned (.slice a ns.length c)/\Below w.heap.size w w'/\Rep (fun i=>F i\/w.heap.size<=i) w' (.sl 33 1 ns.length (jL (kinds ns))) (.slice a ns.length c):=by
 obtain ⟨la,lc,rfl,_,fM⟩:=AtNms.of hr
 have AT:=fX fM
 clear fM hr
 go_enter Tryz.func77,Tryz.ntmps77
 go_wp2_with fail
 go_loopw [3,8] (fun ov i wr=>∃ k:Nat,k<=ns.length/\i=.int .i64 k/\∃ a c us,ov=.slice a k c/\Own wr 33 1 (.slice a k c) k us/\zX F w (jL (kinds (ns.take k))) us/\Below w.heap.size w wr/\(∀ g,(Value.slice a k c).ownBlock=some g->w.heap.size<=g)) (fun _ i _=>ns.length-(intOf i).toNat)
 case atStart=>exact ⟨0,Nat.zero_le _,rfl,none,0,[],rfl,World.ownsRow_nil _ _ _ _,by simp [kinds,jL,zC],fH _ _,fun g h=>by simp [Value.ownBlock] at h⟩
 case round =>
  rename_i wr
  obtain ⟨k,hk,rfl,a,c,us,rfl,ho,hus,hb,hf⟩:=hrel
  have HO:=fX ho;have HF:=fX hf;have HB:=fX hb;have HU:=fX hus
  clear ho hf hb hus
  by_cases fT:k<ns.length
  ·have mT:(k:Int)<(ns.length:Int):=by omega
   obtain ⟨b,o,x,t,kb,e,f_,hp,h1,h2,mz⟩:=AT.out k fT
   subst e
   have q0:=(HB.out.cell (p:=⟨b,o+k*2,none⟩) f_).trans h1
   have q1:=(HB.out.cell (p:=⟨b,o+k*2+1,none⟩) f_).trans h2
   have HP:=fX (fW hp mz)
   clear hp mz h1 h2
   go_wp2_with (at_builtin;refine zE rfl _ _ 100 rfl 33 (.pointer none) 1 8 Tryz.underlying100 Tryz.infoK rfl (by decide) (.slice a k c) k us rfl ?c1 _ 1 [.pointer (some ⟨kb,0,none⟩)] rfl ?c2 ?c3 ?c4 ?_)
   case c1=>exact (HO.out.alloc _).alloc _
   case c2=>exact zq.lit1 #[.pointer (some ⟨kb,0,none⟩)] rfl (by simp [Value.oneCell']) _ (by simp)
   case c3=>unfold maxLen;omega
   case c4=>omega
   intro a' c' w7 fm fS fw
   have f7:w.heap.size<=wr.heap.size:=HB.out.size
   have rU:Below w.heap.size w ((wr.alloc (.cells #[str x,.pointer (some ⟨kb,0,none⟩)] 99)).alloc (.cells #[.pointer (some ⟨kb,0,none⟩)] 33)):=(HB.out.alloc HB.out.size _).alloc (by rw [zK];omega) _
   have n8:Below w.heap.size w w7:=rU.trans (fS.toBelow (by rw [zK,zK];omega) fun i hi e=>by have:=HF.out i e;omega)
   have iU:∀ g,(Value.slice a' (k+1) c').ownBlock=some g->w.heap.size<=g:=by
    intro g h
    rcases fw g h with h | h
    ·exact HF.out g h
    ·omega
   have hu7:zX F w (jL (kinds (ns.take (k+1)))) (us++[.pointer (some ⟨kb,0,none⟩)]):=by
    have e:kinds (ns.take (k+1))=kinds (ns.take k)++[t]:=by
     rw [List.take_add_one,HP.out.1];simp [kinds]
    rw [e,encKs_append]
    exact HU.out.append (zQ.2 ⟨_,_,rfl,HP.out.2,zC.2 rfl⟩)
   have HA:=fX (fW fm (fW n8 (fW iU hu7)));clear fm n8 iU fS fw hu7 rU
   go_wp2_with fail
   go_roundw
   case rel=>exact ⟨k+1,by omega,by go_num,a',c',_,rfl,HA.out.1,HA.out.2.2.2,HA.out.2.1,HA.out.2.2.1⟩
   case measure=>simp [intOf];omega
  ·obtain rfl:k=ns.length:=by omega
   go_wp2_with fail
   refine bodyPost_ret (v:=.slice a ns.length c) (by simp [results,Tryz.results77,go_sem]) rfl ?_
   have hU:=HU.out
   rw [List.take_length] at hU
   exact ⟨a,c,rfl,HB.out,HO.out.rep (fun g hg=>.inr (HF.out g hg)) (zX.below HB.out (fun _ h=>.inl h) hU)⟩
def AnsSaid (N:Nat):Prop:=∀ (F:Nat->Prop) (b y n:Bd) (bv yv nv:Value) (w:World),zW b<=N->wfB b->Rep F w (qK b) bv->Rep F w (qK y) yv->Rep F w (qK n) nv ->
 Calls Tryz.prog 79 #[bv,yv,nv] w (PtrPost F w (kz b y n))
set_option maxRecDepth 100000 in
theorem ans_step (N:Nat) (ih:AnsSaid N):AnsSaid (N+1):=by
 intro F b y n bv yv nv w f7 io hb hy hn
 obtain ⟨yb,rfl⟩:=kZ hy
 obtain ⟨nb,rfl⟩:=kZ hn
 cases b with
 | leaf c =>
   obtain ⟨a0,sl,rfl,_,fE,_⟩:=x6 hb
   have r0:w.cell? ⟨a0,0,none⟩=some (str [c]):=by simp [World.cell?,fE]
   rw [wfB] at io
   have HY:=fX hy;have HN:=fX hn;have HB:=fX hb
   clear fE ih hy hn hb
   rcases io with rfl | rfl | rfl
   ·go_enter Tryz.func79,Tryz.ntmps79
    go_wp2_with fail
    go_ret
    exact ⟨_,rfl,fH _ _,by rw [kz];simpa using HY.out.weak fun _ h=>.inl h⟩
   ·go_enter Tryz.func79,Tryz.ntmps79
    go_wp2_with fail
    go_ret
    exact ⟨_,rfl,fH _ _,by rw [kz];simpa using HN.out.weak fun _ h=>.inl h⟩
   ·go_enter Tryz.func79,Tryz.ntmps79
    go_wp2_with fail
    go_ret
    exact ⟨_,rfl,fH _ _,by rw [kz];simpa using HB.out.weak fun _ h=>.inl h⟩
 | ask v ss yy nn =>
   obtain ⟨a0,sl,y0,n0,rfl,_,fE,i2,iq,aP⟩:=ux hb
   obtain ⟨sa,sc,rfl,_,_,_⟩:=zP i2
   obtain ⟨yp,rfl⟩:=kZ iq
   obtain ⟨np,rfl⟩:=kZ aP
   have r0:w.cell? ⟨a0,0,none⟩=some (str []):=by simp [World.cell?,fE]
   have r1:w.cell? ⟨a0,1,none⟩=some (.int .i64 (v:Nat)):=by simp [World.cell?,fE]
   have r2:w.cell? ⟨a0,2,none⟩=some (.slice sa ss.length sc):=by simp [World.cell?,fE]
   have r3:w.cell? ⟨a0,3,none⟩=some (.pointer (some ⟨yp,0,none⟩)):=by simp [World.cell?,fE]
   have r4:w.cell? ⟨a0,4,none⟩=some (.pointer (some ⟨np,0,none⟩)):=by simp [World.cell?,fE]
   have Cv:=zZ fE
   have SX:Hid (∀ w',Below w.heap.size w w'->w'.cell? ⟨a0,1,none⟩=some (.int .i64 (v:Nat))/\w'.cell? ⟨a0,2,none⟩=some (.slice sa ss.length sc)/\w'.cell? ⟨a0,3,none⟩=some (.pointer (some ⟨yp,0,none⟩))/\w'.cell? ⟨a0,4,none⟩=some (.pointer (some ⟨np,0,none⟩))):=by
    show ∀ w',_->_
    intro w' h
    exact ⟨(h.cell Cv).trans r1,(h.cell Cv).trans r2,(h.cell Cv).trans r3,(h.cell Cv).trans r4⟩
   rw [zW] at f7
   rw [wfB] at io
   have C0:=fX (fun wz (h:Below w.heap.size w wz)=>ih F yy y n _ _ _ wz (by omega) io.2.1 (Rep.below h (fun _ h=>h) iq) (Rep.below h (fun _ h=>h) hy) (Rep.below h (fun _ h=>h) hn))
   have C1:=fX (fun wz (h:Below w.heap.size w wz)=>ih F nn y n _ _ _ wz (by omega) io.2.2 (Rep.below h (fun _ h=>h) aP) (Rep.below h (fun _ h=>h) hy) (Rep.below h (fun _ h=>h) hn))
   have HS:=fX i2
   clear ih fE i2 iq aP hb hy hn io r1 r2 r3 r4
   go_enter Tryz.func79,Tryz.ntmps79
   go_wp2_with fail
   refine wp_region_noPanic ?_
   refine zB (fun w'=>Below w.heap.size w w') (fun _=>false) (by kernel_rfl) ?_
   have fF:(fun w'=>Below w.heap.size w w') w.drew:=Below.drew (fH _ _)
   refine tk [0,1,2,3,4,5,6,7,8,9,10,11,12,13,15,16,17,18,19,20] fF ?_
   (intro d hd;simp [tkD] at hd;subst hd;simp only [tks,pQ,pZ,pS])
   iterate 20 (refine ⟨?_,?_,?_⟩;rotate_left;· (intro oi ho;simp at ho;subst ho;refine Or.inl ⟨by rfl,fun w' fI=>?_⟩;obtain ⟨e1,e2,e3,e4⟩:=SX.out w' fI;go_simp;try with_reducible rfl))
   (refine on 14 ?_;intro o ho K' hK;simp at ho;subst ho;go_simp)
   go_at_call 79
   (with_reducible refine (C0.out _ fF).mono ?_)
   rintro en v0 ⟨p0,rfl,fd,Ds⟩
   have nD:Hid (Below w.heap.size w v0):=fF.trans fd
   have HR0:Hid (Rep (fun i=>F i\/w.heap.size<=i) v0 (qK (kz yy y n)) (.pointer (some ⟨p0,0,none⟩))):=Ds.weak fun i h=>by rcases h with h | h;exact .inl h;exact .inr (h)
   have Ib:=fX fd
   clear fd Ds
   (refine hK.out _ _ (fun _=>nD.out) ?_;clear hK K';try simp only [pQ,pN,pZ,pS])
   have hS14:=nD.out
   (refine on 21 ?_;intro o ho K' hK;simp at ho;subst ho;go_simp)
   go_at_call 79
   (with_reducible refine (C1.out _ nD.out).mono ?_)
   rintro en v1 ⟨p1,rfl,fA,nZ⟩
   have fb:Hid (Below w.heap.size w v1):=zzT nD.out fA
   have E_:Hid (Rep (fun i=>F i\/w.heap.size<=i) v1 (qK (kz nn y n)) (.pointer (some ⟨p1,0,none⟩))):=nZ.weak fun i h=>by rcases h with h | h;exact .inl h;exact .inr (fD nD.out.size h)
   have Bp:=fX fA
   clear fA nZ
   (refine hK.out _ _ (fun _=>fb.out) ?_;clear hK K';try simp only [pQ,pN,pZ,pS])
   have hS21:=fb.out
   refine tk [22] hS21 ?_
   (intro d hd;simp [tkD] at hd;subst hd;simp only [tks,pQ,pZ,pS])
   (refine ⟨?_,?_,?_⟩;rotate_left;· (intro oi ho;simp at ho;subst ho;refine Or.inl ⟨by rfl,fun w' fI=>?_⟩;go_simp;try with_reducible rfl))
   (refine on 23 ?_;intro o ho K' hK;simp at ho;subst ho;go_simp)
   (refine hK.out _ _ (fun _=>fb.out.alloc fb.out.size _) ?_;clear hK K';try simp only [pQ,pN,pZ,pS])
   (refine on 24 ?_;intro o ho K' hK;simp at ho;subst ho;go_simp)
   (refine hK.out _ _ (fun _=>fb.out.alloc fb.out.size _) ?_;clear hK K';try simp only [pQ,pN,pZ,pS])
   refine zU (by kernel_rfl) (NoPanic.normal ?_) _
   go_wp2_with fail
   go_ret
   refine ⟨v1.heap.size,rfl,fb.out.alloc fb.out.size _,?_⟩
   rw [kz]
   have k1:∀ i x,(F i\/w.heap.size<=i)->v1.heap[i]? = some x->(F i\/w.heap.size<=i)/\(v1.alloc (.cells #[str [],.int .i64 (v:Nat),.slice sa ss.length sc,.pointer (some ⟨p0,0,none⟩),.pointer (some ⟨p1,0,none⟩)] 68)).heap[i]? = some x:=fun i x h hx=>⟨h,zY hx⟩
   exact ask_new (.inr fb.out.size) (zG _ _) ((Rep.keep k1).1 _ _ (Rep.below fb.out (fun _ h=>.inl h) HS.out)) ((Rep.keep k1).1 _ _ (Rep.below Bp.out (fun _ h=>h) HR0.out)) ((Rep.keep k1).1 _ _ E_.out)
theorem answered_any (N:Nat):AnsSaid N:=by
 induction N with
 | zero=>exact fun F b y n bv yv nv w h=>by have:=kW b;omega
 | succ N ih=>exact ans_step N ih
theorem uE (n k:Nat):∀ ss:List Bd,zg ss n k=ss.map fun b=>zo b n k
 | []=>by rw [zg];rfl
 | b::bs=>by rw [zg,uE n k bs];rfl
theorem jx {ss:List Bd} {j:Nat} {s:Bd} (h:ss[j]? = some s) (n k:Nat):zg (ss.take (j+1)) n k=zg (ss.take j) n k++[zo s n k]:=by
 rw [uE,uE,List.take_add_one,h];simp
theorem bD:∀ (bs:List Bd),gu bs->∀ (k:Nat) (b:Bd),bs[k]? = some b->lvB b
 | [],_,k,b,h=>by simp at h
 | p::ps,ho,0,b,h=>by simp at h;subst h;rw [gu] at ho;exact ho.1
 | p::ps,ho,k+1,b,h=>by rw [gu] at ho;exact bD ps ho.2 k b (by simpa using h)
def RaSaid (N:Nat):Prop:=∀ (F:Nat->Prop) (b:Bd) (n k:Nat) (bv:Value) (w:World),zW b<=N->zW b<=1000000->lvB b->n<=10000->k<=10000->Rep F w (qK b) bv ->
 Calls Tryz.prog 78 #[bv,.int .i64 (n:Nat),.int .i64 (k:Nat)] w (PtrPost F w (zo b n k))
set_option maxRecDepth 100000 in
theorem ra_step (N:Nat) (ih:RaSaid N):RaSaid (N+1):=by
 intro F b n k bv w hN hM ru hn hk hb
 cases b with
 | leaf c =>
   obtain ⟨bb,rfl⟩:=kZ hb
   have CL:=fX (yC F w c _ hb)
   have HB:=fX hb
   clear hb ih
   go_enter Tryz.func78,Tryz.ntmps78
   go_wp2_with fail
   (with_reducible refine CL.out.mono ?_)
   rintro en w1 ⟨rfl,e⟩
   subst w1
   go_wp2_with fail
   go_ret
   exact ⟨_,rfl,fH _ _,by rw [zo];exact HB.out.weak fun _ h=>.inl h⟩
 | ask v ss yy nn =>
   obtain ⟨a0,sl,y0,n0,rfl,_,fE,i2,iq,aP⟩:=ux hb
   obtain ⟨sa,sc,rfl,_,_,Kc⟩:=zP i2
   obtain ⟨yp,rfl⟩:=kZ iq
   obtain ⟨np,rfl⟩:=kZ aP
   have r1:w.cell? ⟨a0,1,none⟩=some (.int .i64 (v:Nat)):=by simp [World.cell?,fE]
   have r2:w.cell? ⟨a0,2,none⟩=some (.slice sa ss.length sc):=by simp [World.cell?,fE]
   have r3:w.cell? ⟨a0,3,none⟩=some (.pointer (some ⟨yp,0,none⟩)):=by simp [World.cell?,fE]
   have r4:w.cell? ⟨a0,4,none⟩=some (.pointer (some ⟨np,0,none⟩)):=by simp [World.cell?,fE]
   have Cv:=zZ fE
   have SX:Hid (∀ w',Below w.heap.size w w'->w'.cell? ⟨a0,1,none⟩=some (.int .i64 (v:Nat))/\w'.cell? ⟨a0,3,none⟩=some (.pointer (some ⟨yp,0,none⟩))/\w'.cell? ⟨a0,4,none⟩=some (.pointer (some ⟨np,0,none⟩))):=by
    show ∀ w',_->_
    intro w' h
    exact ⟨(h.cell Cv).trans r1,(h.cell Cv).trans r3,(h.cell Cv).trans r4⟩
   rw [zW] at hN hM
   rw [lvB] at ru
   have CL:=fX (xJ F w v ss yy nn _ hb)
   have C0:=fX (fun wz (h:Below w.heap.size w wz)=>ih F yy n k _ wz (by omega) (by omega) ru.2.2.1 hn hk (Rep.below h (fun _ h=>h) iq))
   have C1:=fX (fun wz (h:Below w.heap.size w wz)=>ih F nn n k _ wz (by omega) (by omega) ru.2.2.2 hn hk (Rep.below h (fun _ h=>h) aP))
   have HS:=fX Kc
   have HQ:=fX (fW hN (fW hM ru))
   have IH:=fX ih
   have hvb:v<=10000:=ru.1
   have nU:ss.length<=1000000:=by have:=qB ss;omega
   clear ih fE i2 iq aP hb r1 r3 r4 Kc hN hM ru
   go_enter Tryz.func78,Tryz.ntmps78
   go_wp2_with fail
   (with_reducible refine CL.out.mono ?_)
   rintro en w1 ⟨rfl,e⟩
   subst w1
   go_wp2_with fail
   refine wp_region_noPanic ?_
   refine zB (fun w'=>Below w.heap.size w w') (fun _=>false) (by kernel_rfl) ?_
   have fF:(fun w'=>Below w.heap.size w w') w.drew:=Below.drew (fH _ _)
   refine tk [0,1,2,3,4,5,6,7,8,9,11,12,13,14,15,16] fF ?_
   (intro d hd;simp [tkD] at hd;subst hd;simp only [tks,pQ,pZ,pS])
   iterate 16 (refine ⟨?_,?_,?_⟩;rotate_left;· (intro oi ho;simp at ho;subst ho;refine Or.inl ⟨by rfl,fun w' fI=>?_⟩;obtain ⟨e1,e3,e4⟩:=SX.out w' fI;go_simp;try with_reducible rfl))
   (refine on 10 ?_;intro o ho K' hK;simp at ho;subst ho;go_simp)
   go_at_call 78
   (with_reducible refine (C0.out _ fF).mono ?_)
   rintro en v0 ⟨p0,rfl,fd,Ds⟩
   have nD:Hid (Below w.heap.size w v0):=fF.trans fd
   have HR0:Hid (Rep (fun i=>F i\/w.heap.size<=i) v0 (qK (zo yy n k)) (.pointer (some ⟨p0,0,none⟩))):=Ds.weak fun i h=>by rcases h with h | h;exact .inl h;exact .inr (h)
   have Ib:=fX fd
   clear fd Ds
   (refine hK.out _ _ (fun _=>nD.out) ?_;clear hK K';try simp only [pQ,pN,pZ,pS])
   have GA:=nD.out
   (refine on 17 ?_;intro o ho K' hK;simp at ho;subst ho;go_simp)
   go_at_call 78
   (with_reducible refine (C1.out _ nD.out).mono ?_)
   rintro en v1 ⟨p1,rfl,fA,nZ⟩
   have fb:Hid (Below w.heap.size w v1):=zzT nD.out fA
   have E_:Hid (Rep (fun i=>F i\/w.heap.size<=i) v1 (qK (zo nn n k)) (.pointer (some ⟨p1,0,none⟩))):=nZ.weak fun i h=>by rcases h with h | h;exact .inl h;exact .inr (fD nD.out.size h)
   have Bp:=fX fA
   clear fA nZ
   (refine hK.out _ _ (fun _=>fb.out) ?_;clear hK K';try simp only [pQ,pN,pZ,pS])
   have Ej:=fb.out
   refine tk [18] Ej ?_
   (intro d hd;simp [tkD] at hd;subst hd;simp only [tks,pQ,pZ,pS])
   (refine ⟨?_,?_,?_⟩;rotate_left;· (intro oi ho;simp at ho;subst ho;refine Or.inl ⟨by rfl,fun w' fI=>?_⟩;go_simp;try with_reducible rfl))
   (refine on 19 ?_;intro o ho K' hK;simp at ho;subst ho;go_simp)
   (refine hK.out _ _ (fun _=>fb.out.alloc fb.out.size _) ?_;clear hK K';try simp only [pQ,pN,pZ,pS])
   (refine on 20 ?_;intro o ho K' hK;simp at ho;subst ho;go_simp)
   (refine hK.out _ _ (fun _=>fb.out.alloc fb.out.size _) ?_;clear hK K';try simp only [pQ,pN,pZ,pS])
   refine zU (by kernel_rfl) (NoPanic.normal ?_) _
   have blkP:(v1.alloc (.cells #[str [],.int .i64 (v:Nat),.slice none 0 0,.pointer (some ⟨p0,0,none⟩),.pointer (some ⟨p1,0,none⟩)] 68)).heap[v1.heap.size]? = some (.cells #[str [],.int .i64 (v:Nat),.slice none 0 0,.pointer (some ⟨p0,0,none⟩),.pointer (some ⟨p1,0,none⟩)] 68 (0,0)):=zG _ _
   have As:Below v1.heap.size v1 (v1.alloc (.cells #[str [],.int .i64 (v:Nat),.slice none 0 0,.pointer (some ⟨p0,0,none⟩),.pointer (some ⟨p1,0,none⟩)] 68)):=(fH _ _).alloc (fP _) _
   obtain ⟨V,hV⟩:=zzN (v1.alloc (.cells #[str [],.int .i64 (v:Nat),.slice none 0 0,.pointer (some ⟨p0,0,none⟩),.pointer (some ⟨p1,0,none⟩)] 68))
   rw [hV] at blkP As ⊢
   obtain ⟨P,hP⟩:=zzN (v1.heap.size)
   rw [hP] at blkP As ⊢
   have EA:w.heap.size<=P:=by rw [<- hP];exact fb.out.size
   have KY:=fX (Rep.below (F':=fun i=>F i\/w.heap.size<=i) Bp.out (fun _ h=>h) HR0.out)
   clear hV HR0 Bp Ib CL C0 C1
   obtain ⟨z0,z1,z2,z3,z4,zf⟩:=wB blkP
   have og:=zf 1
   clear zf
   have HP:=fX (fW blkP As)
   clear blkP As
   by_cases hv:n<=v
   ·have hvI:(n:Int)<=(v:Int):=by omega
    have rM:IntKind.i64.wrap ((v:Int)+(k:Int))=(v:Int)+(k:Int):=IntWalk.i64_in _ (by omega)
    go_upto_region 6 with (fail)
    obtain ⟨W,hW⟩:=zzN (V.setCell ⟨P,1,none⟩ (.int .i64 ((v:Int)+(k:Int))))
    rw [hW]
    have Kj:W.heap[P]? = some (xI (v+k) (.pointer (some ⟨p0,0,none⟩)) (.pointer (some ⟨p1,0,none⟩)) (.slice none 0 0)):=by
     rw [<- hW]
     rw [zy HP.out.1,xI,Int.natCast_add];rfl
    have FG:Below P v1 W:=by rw [<- hW];exact HP.out.2.setCell (p:=⟨P,1,none⟩) (fP _) _
    have FE:Below w.heap.size w W:=fb.out.trans (FG.mono EA)
    have q2:=(FE.cell (p:=⟨a0,2,none⟩) Cv).trans r2
    have HW:=fX (fW Kj (fW FG FE))
    clear hW Kj FG FE z0 z1 z2 z3 z4 og r2
    go_wp2_with fail
    go_loopw [53] (fun i wr=>∃ (j:Nat) (sv:Value) (us:List Value),j<=ss.length/\i=.int .i64 j/\jO (fun i=>F i/\i<w.heap.size) W P (xI (v+k) (.pointer (some ⟨p0,0,none⟩)) (.pointer (some ⟨p1,0,none⟩))) 34 1 j (jJ (zg (ss.take j) n k)) sv us wr) (fun i _=>ss.length-(intOf i).toNat)
    case atStart=>exact ⟨0,_,_,Nat.zero_le _,rfl,by simpa [zg,jJ] using jO.start HW.out.1⟩
    case round =>
     rename_i wr
     obtain ⟨j,sv,us,hj,rfl,fL⟩:=hrel
     obtain ⟨ga,gc,e⟩:=fL.slice
     subst e
     have fE:wr.heap[P]? = some (.cells #[str [],.int .i64 ((v+k:Nat):Int),.slice ga j gc,.pointer (some ⟨p0,0,none⟩),.pointer (some ⟨p1,0,none⟩)] 68 (0,0)):=fL.blk
     have f_:Below w.heap.size w wr:=HW.out.2.2.trans (fL.below.mono EA)
     obtain ⟨y0,y1,y2,y3,y4,yf⟩:=wB fE
     have HI:=fX (fW fL (fW fE f_));clear fL fE f_
     clear y0 y1 y3 y4 yf q2
     by_cases fT:j<ss.length
     ·have mT:(j:Int)<(ss.length:Int):=by omega
      obtain ⟨sb,so,su,sd,e,_,IE,iQ,Be,FO⟩:=HS.out j fT
      subst e
      rw [xV,Option.map_eq_some_iff] at iQ
      obtain ⟨s,hs,rfl⟩:=iQ
      obtain ⟨sp,rfl⟩:=kZ FO
      have hszs:=vu (List.mem_of_getElem? hs)
      have q3:wr.cell? ⟨sb,so+j,none⟩=some (.pointer (some ⟨sp,0,none⟩)):=(HI.out.2.2.cell (p:=⟨sb,so+j,none⟩) IE).trans Be
      have BJ:Rep (fun i=>F i/\i<w.heap.size) w (qK s) (.pointer (some ⟨sp,0,none⟩)):=(Rep.keep fun i x h hx=>⟨⟨h,zZ hx⟩,hx⟩).1 _ _ FO
      have CC:=fX (IH.out (fun i=>F i/\i<w.heap.size) s n k (.pointer (some ⟨sp,0,none⟩)) wr.drew (by have:=HQ.out.1;omega) (by have:=HQ.out.2.1;omega) (bD ss HQ.out.2.2.2.1 j s hs) hn hk (Rep.below HI.out.2.2 (fun _ h=>h) BJ).drew)
      have HK:=fX (jx hs n k)
      have SY:Hid (∀ w',But (fun i=>(Value.slice ga j gc).ownBlock=some i) wr w'->w'.cell? ⟨P,2,none⟩=some (.slice ga j gc)/\True):=by
       show ∀ w',_->_
       intro w' fx
       exact ⟨(fx.cell (fG wr _ y2) HI.out.1.not).trans y2,trivial⟩
      have tP:j+1<=maxLen:=by unfold maxLen;omega
      have nA:(j+1)*8<=140737488355328:=by omega
      clear FO BJ hs Be
      go_wp2_with fail
      refine wp_region_noPanic ?_
      refine zB (fun w'=>But (fun i=>(Value.slice ga j gc).ownBlock=some i) wr w') (fun i=>i == 13) (by kernel_rfl) ?_
      have fF:(fun w'=>But (fun i=>(Value.slice ga j gc).ownBlock=some i) wr w') wr.drew:=(But.refl _ wr).drew
      refine tk [0,1,2,3,4,5,6,7] fF ?_
      (intro d hd;simp [tkD] at hd;subst hd;simp only [tks,pQ,pZ,pS])
      iterate 8 (refine ⟨?_,?_,?_⟩;rotate_left;· (intro oi ho;simp at ho;subst ho;refine Or.inl ⟨by rfl,fun w' fI=>?_⟩;obtain ⟨e2,_⟩:=SY.out w' fI;go_simp;try with_reducible rfl))
      (refine on 8 ?_;intro o ho K' hK;simp at ho;subst ho;go_simp)
      go_at_call 78
      (with_reducible refine CC.out.mono ?_)
      rintro Aw w6 ⟨vb,rfl,fO,m_⟩
      have nQ:Below wr.heap.size wr w6:=(Below.drew (fH _ _)).trans fO
      have mU:Hid (But (fun i=>(Value.slice ga j gc).ownBlock=some i) wr w6):=But.ofBelow nQ
      have mK:=HI.out.1.own6 nQ (.cells #[.pointer (some ⟨vb,0,none⟩)] 34)
      have H6:=fX (fW nQ m_);clear fO m_ nQ
      (refine hK.out _ _ (fun _=>mU.out) ?_;clear hK K';try simp only [pQ,pN,pZ,pS])
      (refine on 9 ?_;intro o ho K' hK;simp at ho;subst ho;go_simp)
      (refine hK.out _ _ (fun _=>mU.out.alloc _) ?_;clear hK K';try simp only [pQ,pN,pZ,pS])
      (refine on 10 ?_;intro o ho K' hK;simp at ho;subst ho)
      refine zF (by rfl) _ _ _ (by rfl) 34 (.pointer none) 1 8 Tryz.underlying66 Tryz.infoB rfl (by decide) (.slice ga j gc) j us (by rfl) mK _ 1 [.pointer (some ⟨vb,0,none⟩)] (by rfl) (zq.lit1 #[.pointer (some ⟨vb,0,none⟩)] rfl (by simp [Value.oneCell']) _ (by rfl)) tP nA ?_
      intro a' c' w7 fm fS fw
      (refine hK.out _ _ (fun _=>(mU.out.alloc _).trans fS) ?_;clear hK K';try simp only [pQ,pN,pZ,pS])
      have mw:=HI.out.1.cell7 H6.out.1 fS
      have rJ:w7.cell? ⟨P,2,none⟩=some (.slice ga j gc)/\w7.frozen? ⟨P,2,none⟩=false:=by rw [xI] at mw;exact ⟨by simp [World.cell?,mw],by simp [World.frozen?,mw]⟩
      obtain ⟨ig,sJ⟩:=rJ
      have ii:=fX mw;clear mw
      (refine on 11 ?_;intro o ho K' hK;simp at ho;subst ho;go_simp)
      (refine hK.out _ _ (fun _=>(mU.out.alloc _).trans fS) ?_;clear hK K';try simp only [pQ,pN,pZ,pS])
      (refine on 12 ?_;intro o ho K' hK;simp at ho;subst ho;go_simp)
      (refine hK.out _ _ (fun _=>(mU.out.alloc _).trans fS) ?_;clear hK K';try simp only [pQ,pN,pZ,pS])
      (refine on 13 ?_;intro o ho K' hK;simp at ho;subst ho;go_simp)
      (refine hK.out _ _ (fun h=>by simp at h) ?_;clear hK K';try simp only [pQ,pN,pZ,pS])
      refine zU (by kernel_rfl) (NoPanic.normal ?_) _
      have hX:=HI.out.1.next (fun i h=>fC h.2 EA) (w8:=w7.setCell ⟨P,2,none⟩ (.slice a' (j+1) c')) H6.out.1 (zX.one H6.out.2) fm fS fw (by rw [zy ii.out];rfl) (vf _ _ _ _)
      have nR:jJ (zg (ss.take j) n k)++[qK (zo s n k)]=jJ (zg (ss.take (j+1)) n k):=by rw [HK.out,wG]
      rw [nR] at hX
      have HN:=fX hX
      clear hX nR fm fS fw fF mK ig sJ
      go_wp2_with fail
      go_roundw
      case rel=>exact ⟨j+1,_,_,by omega,by go_num,HN.out⟩
      case measure=>simp [intOf];omega
     ·obtain rfl:j=ss.length:=by omega
      clear y2
      go_wp2_with fail
      go_ret
      refine ⟨P,rfl,HI.out.2.2,?_⟩
      have nU:=HI.out.1.sl
      rw [List.take_length] at nU
      have Ad:Below P v1 wr:=HW.out.2.1.trans HI.out.1.below
      rw [<- hP] at Ad
      have hL:(zg ss n k).length=ss.length:=by rw [uE];simp
      rw [zo,if_pos hv]
      refine ask_new (.inr EA) HI.out.2.1 ?_ (Rep.below Ad (fun _ h=>h) KY.out) (Rep.below Ad (fun _ h=>h) E_.out)
      rw [hL]
      exact nU.weak fun i h=>by rcases h with h | h;exact .inl h.1;exact .inr (by omega)
   ·have hvI:¬ (n:Int)<=(v:Int):=by omega
    go_upto_region 6 with (fail)
    obtain ⟨W,hW⟩:=zzN (V)
    rw [hW]
    have Kj:W.heap[P]? = some (xI (v) (.pointer (some ⟨p0,0,none⟩)) (.pointer (some ⟨p1,0,none⟩)) (.slice none 0 0)):=by
     rw [<- hW]
     exact HP.out.1
    have FG:Below P v1 W:=by rw [<- hW];exact HP.out.2
    have FE:Below w.heap.size w W:=fb.out.trans (FG.mono EA)
    have q2:=(FE.cell (p:=⟨a0,2,none⟩) Cv).trans r2
    have HW:=fX (fW Kj (fW FG FE))
    clear hW Kj FG FE z0 z1 z2 z3 z4 og r2
    go_wp2_with fail
    go_loopw [53] (fun i wr=>∃ (j:Nat) (sv:Value) (us:List Value),j<=ss.length/\i=.int .i64 j/\jO (fun i=>F i/\i<w.heap.size) W P (xI (v) (.pointer (some ⟨p0,0,none⟩)) (.pointer (some ⟨p1,0,none⟩))) 34 1 j (jJ (zg (ss.take j) n k)) sv us wr) (fun i _=>ss.length-(intOf i).toNat)
    case atStart=>exact ⟨0,_,_,Nat.zero_le _,rfl,by simpa [zg,jJ] using jO.start HW.out.1⟩
    case round =>
     rename_i wr
     obtain ⟨j,sv,us,hj,rfl,fL⟩:=hrel
     obtain ⟨ga,gc,e⟩:=fL.slice
     subst e
     have fE:wr.heap[P]? = some (.cells #[str [],.int .i64 ((v:Nat):Int),.slice ga j gc,.pointer (some ⟨p0,0,none⟩),.pointer (some ⟨p1,0,none⟩)] 68 (0,0)):=fL.blk
     have f_:Below w.heap.size w wr:=HW.out.2.2.trans (fL.below.mono EA)
     obtain ⟨y0,y1,y2,y3,y4,yf⟩:=wB fE
     have HI:=fX (fW fL (fW fE f_));clear fL fE f_
     clear y0 y1 y3 y4 yf q2
     by_cases fT:j<ss.length
     ·have mT:(j:Int)<(ss.length:Int):=by omega
      obtain ⟨sb,so,su,sd,e,_,IE,iQ,Be,FO⟩:=HS.out j fT
      subst e
      rw [xV,Option.map_eq_some_iff] at iQ
      obtain ⟨s,hs,rfl⟩:=iQ
      obtain ⟨sp,rfl⟩:=kZ FO
      have hszs:=vu (List.mem_of_getElem? hs)
      have q3:wr.cell? ⟨sb,so+j,none⟩=some (.pointer (some ⟨sp,0,none⟩)):=(HI.out.2.2.cell (p:=⟨sb,so+j,none⟩) IE).trans Be
      have BJ:Rep (fun i=>F i/\i<w.heap.size) w (qK s) (.pointer (some ⟨sp,0,none⟩)):=(Rep.keep fun i x h hx=>⟨⟨h,zZ hx⟩,hx⟩).1 _ _ FO
      have CC:=fX (IH.out (fun i=>F i/\i<w.heap.size) s n k (.pointer (some ⟨sp,0,none⟩)) wr.drew (by have:=HQ.out.1;omega) (by have:=HQ.out.2.1;omega) (bD ss HQ.out.2.2.2.1 j s hs) hn hk (Rep.below HI.out.2.2 (fun _ h=>h) BJ).drew)
      have HK:=fX (jx hs n k)
      have SY:Hid (∀ w',But (fun i=>(Value.slice ga j gc).ownBlock=some i) wr w'->w'.cell? ⟨P,2,none⟩=some (.slice ga j gc)/\True):=by
       show ∀ w',_->_
       intro w' fx
       exact ⟨(fx.cell (fG wr _ y2) HI.out.1.not).trans y2,trivial⟩
      have tP:j+1<=maxLen:=by unfold maxLen;omega
      have nA:(j+1)*8<=140737488355328:=by omega
      clear FO BJ hs Be
      go_wp2_with fail
      refine wp_region_noPanic ?_
      refine zB (fun w'=>But (fun i=>(Value.slice ga j gc).ownBlock=some i) wr w') (fun i=>i == 13) (by kernel_rfl) ?_
      have fF:(fun w'=>But (fun i=>(Value.slice ga j gc).ownBlock=some i) wr w') wr.drew:=(But.refl _ wr).drew
      refine tk [0,1,2,3,4,5,6,7] fF ?_
      (intro d hd;simp [tkD] at hd;subst hd;simp only [tks,pQ,pZ,pS])
      iterate 8 (refine ⟨?_,?_,?_⟩;rotate_left;· (intro oi ho;simp at ho;subst ho;refine Or.inl ⟨by rfl,fun w' fI=>?_⟩;obtain ⟨e2,_⟩:=SY.out w' fI;go_simp;try with_reducible rfl))
      (refine on 8 ?_;intro o ho K' hK;simp at ho;subst ho;go_simp)
      go_at_call 78
      (with_reducible refine CC.out.mono ?_)
      rintro Aw w6 ⟨vb,rfl,fO,m_⟩
      have nQ:Below wr.heap.size wr w6:=(Below.drew (fH _ _)).trans fO
      have mU:Hid (But (fun i=>(Value.slice ga j gc).ownBlock=some i) wr w6):=But.ofBelow nQ
      have mK:=HI.out.1.own6 nQ (.cells #[.pointer (some ⟨vb,0,none⟩)] 34)
      have H6:=fX (fW nQ m_);clear fO m_ nQ
      (refine hK.out _ _ (fun _=>mU.out) ?_;clear hK K';try simp only [pQ,pN,pZ,pS])
      (refine on 9 ?_;intro o ho K' hK;simp at ho;subst ho;go_simp)
      (refine hK.out _ _ (fun _=>mU.out.alloc _) ?_;clear hK K';try simp only [pQ,pN,pZ,pS])
      (refine on 10 ?_;intro o ho K' hK;simp at ho;subst ho)
      refine zF (by rfl) _ _ _ (by rfl) 34 (.pointer none) 1 8 Tryz.underlying66 Tryz.infoB rfl (by decide) (.slice ga j gc) j us (by rfl) mK _ 1 [.pointer (some ⟨vb,0,none⟩)] (by rfl) (zq.lit1 #[.pointer (some ⟨vb,0,none⟩)] rfl (by simp [Value.oneCell']) _ (by rfl)) tP nA ?_
      intro a' c' w7 fm fS fw
      (refine hK.out _ _ (fun _=>(mU.out.alloc _).trans fS) ?_;clear hK K';try simp only [pQ,pN,pZ,pS])
      have mw:=HI.out.1.cell7 H6.out.1 fS
      have rJ:w7.cell? ⟨P,2,none⟩=some (.slice ga j gc)/\w7.frozen? ⟨P,2,none⟩=false:=by rw [xI] at mw;exact ⟨by simp [World.cell?,mw],by simp [World.frozen?,mw]⟩
      obtain ⟨ig,sJ⟩:=rJ
      have ii:=fX mw;clear mw
      (refine on 11 ?_;intro o ho K' hK;simp at ho;subst ho;go_simp)
      (refine hK.out _ _ (fun _=>(mU.out.alloc _).trans fS) ?_;clear hK K';try simp only [pQ,pN,pZ,pS])
      (refine on 12 ?_;intro o ho K' hK;simp at ho;subst ho;go_simp)
      (refine hK.out _ _ (fun _=>(mU.out.alloc _).trans fS) ?_;clear hK K';try simp only [pQ,pN,pZ,pS])
      (refine on 13 ?_;intro o ho K' hK;simp at ho;subst ho;go_simp)
      (refine hK.out _ _ (fun h=>by simp at h) ?_;clear hK K';try simp only [pQ,pN,pZ,pS])
      refine zU (by kernel_rfl) (NoPanic.normal ?_) _
      have hX:=HI.out.1.next (fun i h=>fC h.2 EA) (w8:=w7.setCell ⟨P,2,none⟩ (.slice a' (j+1) c')) H6.out.1 (zX.one H6.out.2) fm fS fw (by rw [zy ii.out];rfl) (vf _ _ _ _)
      have nR:jJ (zg (ss.take j) n k)++[qK (zo s n k)]=jJ (zg (ss.take (j+1)) n k):=by rw [HK.out,wG]
      rw [nR] at hX
      have HN:=fX hX
      clear hX nR fm fS fw fF mK ig sJ
      go_wp2_with fail
      go_roundw
      case rel=>exact ⟨j+1,_,_,by omega,by go_num,HN.out⟩
      case measure=>simp [intOf];omega
     ·obtain rfl:j=ss.length:=by omega
      clear y2
      go_wp2_with fail
      go_ret
      refine ⟨P,rfl,HI.out.2.2,?_⟩
      have nU:=HI.out.1.sl
      rw [List.take_length] at nU
      have Ad:Below P v1 wr:=HW.out.2.1.trans HI.out.1.below
      rw [<- hP] at Ad
      have hL:(zg ss n k).length=ss.length:=by rw [uE];simp
      rw [zo,if_neg hv]
      refine ask_new (.inr EA) HI.out.2.1 ?_ (Rep.below Ad (fun _ h=>h) KY.out) (Rep.below Ad (fun _ h=>h) E_.out)
      rw [hL]
      exact nU.weak fun i h=>by rcases h with h | h;exact .inl h.1;exact .inr (by omega)
theorem raised_any (N:Nat):RaSaid N:=by
 induction N with
 | zero=>exact fun F b n k bv w h=>by have:=kW b;omega
 | succ N ih=>exact ra_step N ih
end Go.Proofs.YtjggkhmojjaomaaGreatDoor

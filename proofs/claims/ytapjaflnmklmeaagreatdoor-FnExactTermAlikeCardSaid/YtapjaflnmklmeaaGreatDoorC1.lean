import Derived.Test.YtapjaflnmklmeaaGreatDoorA14
import Derived.Test.YtapjaflnmklmeaaGreatDoorT6
import Derived.Deep.DeepCutAuto
import Derived.Test.YtapjaflnmklmeaaGreatDoorP17
/- The walk of impl's text of bodies. -/
namespace Go.Proofs.YtapjaflnmklmeaaGreatDoor
open Go.RowKit
theorem decNat (n:Nat):dec n=Lib.decDigits n:=by
 induction n using Nat.strongRecOn with
 | _ n ih =>
   by_cases h:n<10
   ·rw [dec_small h,Lib.decDigits,dif_pos h];rfl
   ·rw [dec_great h,Lib.decDigits,dif_neg h,ih (n / 10) (Nat.div_lt_self (by omega) (by omega))];rfl
theorem itoaNat (i:Nat):Lib.itoa (i:Int)=dec i:=by
 rw [decNat,Lib.itoa,if_neg (by omega)];rfl
theorem lvBs_of:∀ xs:List Bd,(∀ b∈xs,lvB b)→lvBs xs
 | [],_=>by rw [lvBs];trivial
 | b::bs,h=>by rw [lvBs];exact ⟨h b (by simp),lvBs_of bs fun x hx=>h x (by simp [hx])⟩
theorem fit_lv (n:Nat):∀ (b:Bd) (h:List Ty),sizeB b≤n→fitB h b→(∀ t∈h,atomsT t≤15)→h.length+15*n≤10000→lvB b:=by
 induction n with
 | zero=>intro b h hs;have:=sizeB_pos b;omega
 | succ n ih =>
   intro b h hs hf ha hl
   cases b with
   | leaf c=>rw [lvB];trivial
   | ask v ss y no =>
     rw [fitB] at hf
     obtain ⟨t,ht,f1,f2,f3⟩:=hf
     rw [sizeB] at hs
     have hy:=sizeB_pos y
     have hn:=sizeB_pos no
     have hv:=(List.getElem?_eq_some_iff.1 ht).1
     have ht15:=ha t (List.mem_of_getElem? ht)
     rw [lvB]
     refine ⟨by omega,lvBs_of ss fun b hb=>?_,ih y h (by omega) f2 ha (by omega),ih no h (by omega) f3 ha (by omega)⟩
     have hsz:=mem_sizeBs hb
     obtain ⟨k,hk⟩:=List.mem_iff_getElem?.1 hb
     obtain ⟨x,hx,hxf⟩:=fitBs_at _ _ f1 k b hk
     simp only [hands,List.getElem?_map,Option.map_eq_some_iff] at hx
     obtain ⟨a,haa,rfl⟩:=hx
     have ha15:=(args_atoms ht15).1 a (List.mem_of_getElem? haa)
     have hal:=args_atoms ha15
     refine ih b (h++a.args) (by omega) hxf (fun t ht=>?_) (by rw [List.length_append];omega)
     rcases List.mem_append.1 ht with h | h
     ·exact ha t h
     ·exact hal.1 t h
theorem Good.lv {t:Ty} {b:Bd} (h:Good t b):lvB b :=
 fit_lv 200 b t.args h.size h.fit (args_atoms h.atoms).1 (by have:=(args_atoms h.atoms).2;omega)
theorem joinTail_textBs:∀ bs:List Bd,Lib.joinTail [32] (bs.map textB)=textBs bs
 | []=>rfl
 | b::bs=>by
   have:=joinTail_textBs bs
   simp only [Lib.joinTail,List.map_cons,List.flatten_cons] at this ⊢
   rw [this,textBs]
theorem textB_join (v:Nat) (ss:List Bd) (y n:Bd):textB (.ask v ss y n)=[40]++Lib.join (dec v::(ss++[y,n]).map textB) [32]++[41]:=by
 rw [Lib.join_cons,joinTail_textBs,textBs_append,textB,textBs,textBs,textBs];simp
def textSaid (b:Bd):Prop:=∀ (F:Nat→Prop) (w:World) (v:Value),Glob w→Rep F w (encB b) v →
 Calls Tryz.prog 13 #[v] w fun en w'=>en=.returned (str (textB b))∧Below w.heap.size w w'
theorem Tryz.infoStrA:(Tryz.prog.info? 9).map (fun i=>(i.zero,i.size,i.bytes))=some (some (str []),1,16):=by kernel_rfl
theorem Own.strings {w:World} {e:TypeId} {v:Value} {n:Nat} {ts:List Bs} (h:Own w e 1 v n (ts.map str)) (hn:0<n) :
 ∃ g cap,v=.slice (some ⟨g,0,none⟩) n cap∧n≤cap∧g<w.heap.size∧ts.length=n∧∀ (j:Nat) (x:ByteArray),(ts.map fun t=>(⟨t.toArray⟩:ByteArray))[j]? = some x→w.cell? ⟨g,0+j,none⟩=some (.string x):=by
 have hl:=h.1
 rcases h.2 with ⟨_,h0⟩ | ⟨g,cap,cur,rfl,_,hg,hnc,_,hcs,ht⟩
 ·omega
 ·refine ⟨g,cap,rfl,hnc,lt_of_heap hg,by simpa using hl,fun j x hj=>?_⟩
  rw [List.getElem?_map,Option.map_eq_some_iff] at hj
  obtain ⟨t,ht1,rfl⟩:=hj
  have h1:(ts.map str)[j]? = some (str t):=by rw [List.getElem?_map,ht1];rfl
  rw [← ht,List.getElem?_take] at h1
  split at h1
  ·rw [Nat.zero_add];simp only [World.cell?,hg];simpa using h1
  ·simp at h1
structure TInv (lv:Nat) (ps:List Bd) (w w2 w4:World) (k:Nat) (v:Value) (wr:World):Prop where
 own:Own wr 9 1 v (k+1) ((dec lv::(ps.take k).map textB).map str)
 bel:Below w.heap.size w wr
 but:But (· = w2.heap.size) w4 wr
 fr:∀ g,v.ownBlock=some g→g=w2.heap.size∨w4.heap.size≤g
set_option maxRecDepth 100000 in
set_option maxHeartbeats 2000000 in
theorem text_step (b:Bd) (hl:sizeB b≤100000) (hlv:lvB b) (ih:∀ t,sizeB t<sizeB b→lvB t→textSaid t):textSaid b:=by
 intro F w v hg hv
 have IH:=Lib.hid ih;clear ih
 cases b with
 | leaf c =>
   obtain ⟨a0,sl,rfl,_,hblk,_⟩:=leaf_open hv
   have r0:w.cell? ⟨a0,0,none⟩=some (str [c]):=by simp [World.cell?,hblk]
   have CL:=Lib.hid (isList_leaf F w c _ hv)
   clear hblk hv
   go_enter Tryz.func13,Tryz.ntmps13
   go_wp2_with fail
   (with_reducible refine CL.out.mono ?_)
   rintro en w3 ⟨rfl,rfl⟩
   go_wp2_with fail
   go_ret
   exact ⟨by rw [textB];rfl,Below.refl _ _⟩
 | ask lv ss y no =>
   obtain ⟨a0,sl,yv,nv,rfl,_,hblk,_⟩:=ask_open hv
   have r1:w.cell? ⟨a0,1,none⟩=some (.int .i64 (lv:Nat)):=by simp [World.cell?,hblk]
   have ha0:=lt_of_heap hblk
   have CL:=Lib.hid (isList_ask F w lv ss y no _ hv)
   have hlv':=hlv
   rw [lvB] at hlv'
   have hlv1:=hlv'.1
   have C1:Calls Tryz.prog 34 #[.int .i64 (lv:Nat)] w fun en w'=>en=.returned (str (dec lv))∧Below w.heap.size w w':=by
    have:=itoa_any (lv:Nat) w hg (by omega) (by omega)
    rwa [itoaNat] at this
   have C1:=Lib.hid C1
   have HP:=Lib.hid (And.intro hv (And.intro hg (And.intro hlv hl)));clear hv hg hlv hl hblk hlv'
   go_enter Tryz.func13,Tryz.ntmps13
   go_wp2_with fail
   (with_reducible refine CL.out.mono ?_)
   rintro en w1 ⟨rfl,e⟩
   subst w1
   go_wp2_with fail
   (with_reducible refine C1.out.mono ?_)
   rintro en w2 ⟨rfl,hb2⟩
   have hbA:Below w.heap.size w (w2.alloc (.cells #[str (dec lv)] 9)):=hb2.alloc hb2.size _
   have hz2:=hb2.size
   have hvA:Rep (fun i=>F i∧i<w.heap.size) (w2.alloc (.cells #[str (dec lv)] 9)) (encB (.ask lv ss y no)) (.pointer (some ⟨a0,0,none⟩)):=Rep.below hbA (fun _ h=>h) (Rep.low HP.out.1)
   have CP:=Lib.hid (parts_any _ _ _ _ hvA (by have:=HP.out.2.2.2;unfold Lim;omega))
   have hp:partsOf (.ask lv ss y no)=ss++[y,no]:=rfl
   unfold PartsPost at CP
   rw [hp] at CP
   have hsz:sizeBs (ss++[y,no])+1=sizeB (.ask lv ss y no):=by rw [sizeBs_append,sizeB,sizeBs,sizeBs,sizeBs];omega
   have hall:∀ b∈ss++[y,no],lvB b:=by
    have:=HP.out.2.2.1
    rw [lvB] at this
    intro b hb
    rcases List.mem_append.1 hb with h | h
    ·obtain ⟨k,hk⟩:=List.mem_iff_getElem?.1 h
     exact lvBs_at _ this.2.1 k b hk
    ·simp at h
     rcases h with rfl | rfl
     ·exact this.2.2.1
     ·exact this.2.2.2
   have hjoin:=textB_join lv ss y no
   have hps:textBs (ss++[y,no])=Lib.joinTail [32] ((ss++[y,no]).map textB):=(joinTail_textBs _).symm
   have hlvs:=textBs_length (ss++[y,no]) (lvBs_of _ hall)
   have hdl:(dec lv).length≤5:=dec_length 4 lv (by omega)
   have hb100:=HP.out.2.2.2
   have hown0:=Own.litAt (w:=w2) (e:=9) (size:=1) #[str (dec lv)] 1 _ rfl (by decide) rfl
   generalize hpp:ss++[y,no]=ps at *
   have HQ:=Lib.hid (And.intro hsz (And.intro hall (And.intro hjoin (And.intro hps (And.intro hlvs (And.intro hbA hown0))))));clear hsz hall hjoin hps hlvs hbA hvA hb2 hown0 hp hpp
   go_wp2_with fail
   (with_reducible refine CP.out.mono ?_)
   rintro en w4 ⟨pv,rfl,hb4,hp4⟩
   obtain ⟨pa,pc,e,_,_,hat⟩:=Rep_sl1_open hp4
   subst e
   have hz4:=hb4.size
   rw [size_alloc] at hz4
   have hsp:=HQ.out.1
   have hplen:=length_le_sizeBs ps
   have HB4:=Lib.hid (And.intro hb4 hat);clear hb4 hp4 hat hsp
   have hpl:ps.length≤100000:=by have:=HQ.out.1;omega
   clear hplen
   go_wp2_with fail
   go_loopw [3,22] (fun o i wr=>∃ k:Nat,k≤ps.length∧i=.int .i64 k∧TInv lv ps w w2 w4 k o wr) (fun _ i _=>ps.length-(intOf i).toNat)
   case atStart =>
    refine ⟨0,Nat.zero_le _,rfl,?_,HQ.out.2.2.2.2.2.1.trans (HB4.out.1.mono (by rw [size_alloc];omega)),But.refl _ _,fun g hg=>.inl ?_⟩
    ·exact HQ.out.2.2.2.2.2.2.keep fun g o hg hh=>by rw [HB4.out.1.block g (lt_of_heap hh)];exact hh
    ·simp [Value.ownBlock] at hg;omega
   case round =>
    rename_i wr
    obtain ⟨k,hk,rfl,hinv⟩:=hrel
    obtain ⟨sa,sc,e⟩:=hinv.own.slice
    subst e
    have HI:=Lib.hid hinv;clear hinv
    by_cases hlt:k<ps.length
    ·obtain ⟨ba,oa,u,d,ea,hFb,hba,hd,hu,hr⟩:=HB4.out.2 k hlt
     subst ea
     rw [encBs_at,Option.map_eq_some_iff] at hd
     obtain ⟨t,ht,rfl⟩:=hd
     obtain ⟨ta,eu⟩:=encB_ptr hr
     subst eu
     have hne:ba≠w2.heap.size:=by
      rcases hFb with h | h
      ·have:=h.2;omega
      ·rw [size_alloc] at h;omega
     have hc:wr.cell? ⟨ba,oa+k,none⟩=some (.pointer (some ⟨ta,0,none⟩)):=(HI.out.but.cell hba hne).trans hu
     have hr':Rep (fun _=>True) wr (encB t) (.pointer (some ⟨ta,0,none⟩)):=by
      refine (Rep.keep fun b o hf hh=>⟨trivial,?_⟩).1 _ _ hr
      rw [HI.out.but.block b (lt_of_heap hh) (fun e=>?_)]
      ·exact hh
      ·have e:b=w2.heap.size:=e
       rcases hf with h | h
       ·have:=h.2;omega
       ·rw [size_alloc] at h;omega
     have hmem:=List.mem_of_getElem? ht
     have htlt:sizeB t<sizeB (.ask lv ss y no):=by have:=mem_sizeBs hmem;have:=HQ.out.1;omega
     have IH':=Lib.hid (IH.out t htlt (HQ.out.2.1 t hmem) _ wr _ (HP.out.2.1.below HI.out.bel) hr')
     have HT:=Lib.hid ht
     clear ht hu hr hr' hmem
     go_wp2_with fail
     (with_reducible refine IH'.out.mono ?_)
     rintro en w5 ⟨rfl,hb5⟩
     have HB5:=Lib.hid hb5;clear hb5
     go_wp2_with (at_builtin;refine wpList_append_gen rfl _ _ 39 rfl 9 (str []) 1 16 Tryz.underlying39 Tryz.infoStrA rfl (by decide) (.slice sa (k+1) sc) (k+1) ((dec lv::(ps.take k).map textB).map str) rfl ?c1 _ 1 [str (textB t)] rfl ?c2 ?c3 ?c4 ?_)
     case c1=>exact (HI.out.own.keep fun g o hg hh=>by rw [HB5.out.block g (lt_of_heap hh)];exact hh).alloc _
     case c2=>exact SrcSl.lit1 #[str (textB t)] rfl (by simp [Value.oneCell',str]) _ (by simp)
     case c3=>unfold maxLen;omega
     case c4=>omega
     intro a7 c7 w7 ho7 hb7 hg7
     have hz5:=HB5.out.size
     have hzb:=HI.out.bel.size
     have hzr:=HI.out.but.size
     have hN:TInv lv ps w w2 w4 (k+1) (.slice a7 (k+1+1) c7) w7:=by
      have hfr:∀ g,(Value.slice sa (k+1) sc).ownBlock=some g→w.heap.size≤g∧(g=w2.heap.size∨w4.heap.size≤g):=fun g hg=>by
       have:=HI.out.fr g hg
       exact ⟨by omega,this⟩
      refine ⟨?_,?_,?_,fun g hg=>?_⟩
      ·have:=ho7
       simpa [List.take_add_one,HT.out,List.map_take] using this
      ·exact ((HI.out.bel.trans (HB5.out.mono hzb)).alloc (by omega) _).trans (hb7.toBelow (by rw [size_alloc];omega) fun i hi e=>by have:=hfr i e;omega)
      ·refine But.trans' ((HI.out.but.trans (But.ofBelow HB5.out)).alloc _) hb7 fun i hi e=>?_
       have h1:=(hfr i e).2
       rcases h1 with h | h
       ·exact h
       ·omega
      ·rcases hg7 g hg with h | h
       ·exact (hfr g h).2
       ·exact .inr (by omega)
     have HN:=Lib.hid hN;clear hN ho7 hb7 hg7
     go_wp2_with fail
     go_roundw
     case rel=>exact ⟨k+1,by omega,by go_num,HN.out⟩
     case measure=>simp [intOf];omega
    ·obtain rfl:k=ps.length:=by omega
     have ho:=HI.out.own
     rw [List.take_length] at ho
     obtain ⟨g,cap,e,hcap,hglt,hlen,hcells⟩:=ho.strings (by omega)
     simp only [Value.slice.injEq] at e
     obtain ⟨rfl,_,rfl⟩:=e
     have hxl:((dec lv::ps.map textB).map fun t=>(⟨t.toArray⟩:ByteArray)).length=ps.length+1:=by simp
     have hxm:(((dec lv::ps.map textB).map fun t=>(⟨t.toArray⟩:ByteArray)).map (·.data.toList))=dec lv::ps.map textB:=by simp [Function.comp_def]
     have hsep:(⟨#[32]⟩:ByteArray).data.toList=[32]:=rfl
     have CJ:=Tryz.strings_Join g 0 sc ((dec lv::ps.map textB).map fun t=>(⟨t.toArray⟩:ByteArray)) ⟨#[32]⟩ wr hcells hglt (by rw [hxl];omega) (by rw [hxl];omega) (by
      rw [hxm,hsep,Lib.join_cons,List.length_append,← HQ.out.2.2.2.1];have:=HQ.out.2.2.2.2.1;have:=HQ.out.1;omega)
     rw [hxl,hxm,hsep] at CJ
     have CJ:=Lib.hid CJ
     have HJ:=Lib.hid HQ.out.2.2.1
     have hjl:(Lib.join (dec lv::ps.map textB) [32]).length≤2000000:=by
      rw [Lib.join_cons,List.length_append,← HQ.out.2.2.2.1];have:=HQ.out.2.2.2.2.1;have:=HQ.out.1;omega
     clear ho hcells hxl hxm hsep
     generalize hjn:Lib.join (dec lv::ps.map textB) [32]=jn at *
     go_wp2_with fail
     (with_reducible refine CJ.out.mono ?_)
     rintro en w8 ⟨rfl,hb8⟩
     have HB8:=Lib.hid (HI.out.bel.trans (hb8.mono HI.out.bel.size));clear hb8
     go_wp2_with fail
     go_ret
     refine ⟨?_,HB8.out⟩
     rw [HJ.out]
     have e1:=str_add [40] jn
     have e2:=str_add ([40]++jn) [41]
     show Ending.returned (.string ((⟨([40]:Bs).toArray⟩++⟨jn.toArray⟩)++⟨([41]:Bs).toArray⟩))=_
     rw [e1,e2]
theorem text_any (n:Nat):∀ b,sizeB b≤n→n≤100000→lvB b→textSaid b:=by
 induction n with
 | zero=>intro b h _;have:=sizeB_pos b;omega
 | succ n ih=>exact fun b h hn hlv=>text_step b (by omega) hlv (fun t h' hl'=>ih t (by omega) (by omega) hl')
end Go.Proofs.YtapjaflnmklmeaaGreatDoor
namespace Go.Proofs.YtapjaflnmklmeaaGreatDoor
open Go.RowKit
end Go.Proofs.YtapjaflnmklmeaaGreatDoor
namespace Go.Proofs.YtapjaflnmklmeaaGreatDoor
open Go.RowKit
end Go.Proofs.YtapjaflnmklmeaaGreatDoor

/- Walks of functions that the statement reaches, and plain words. No conditions. -/
import Derived.Maps.Own
import Derived.Maps.Views
import Derived.Test.YtdfkiicodfbibaaGreatDoorQ8
import Derived.Test.YtdfkiicodfbibaaGreatDoorQ9
set_option linter.unusedVariables false
set_option linter.unusedSimpArgs false
set_option maxHeartbeats 8000000
namespace Go.Proofs.YtdfkiicodfbibaaGreatDoor
open Go.RowKit
def NatAt (w:World) (ns:List Nat) (x:Value):Prop:=∃ b o c,x=.slice (some ⟨b,o,none⟩) ns.length c/\b<w.heap.size/\∀ (i n:Nat),ns[i]? = some n->w.cell? ⟨b,o+i,none⟩=some (.int .i64 (n:Nat))
theorem NatAt.below {w w':World} {ns:List Nat} {x:Value} (h:NatAt w ns x) (hb:Below w.heap.size w w'):NatAt w' ns x:=by
 obtain ⟨b,o,c,e,hl,hc⟩:=h
 exact ⟨b,o,c,e,Nat.lt_of_lt_of_le hl hb.size,fun i n hi=>(hb.cell (p:=⟨b,o+i,none⟩) hl).trans (hc i n hi)⟩
theorem Own.cells1 {w:World} {ns:List Nat} {v:Value} (h:Own w 3 1 v ns.length (intsV ns)) (hp:0<ns.length):∃ b c,v=.slice (some ⟨b,0,none⟩) ns.length c/\b<w.heap.size/\∀ (i n:Nat),ns[i]? = some n->w.cell? ⟨b,i,none⟩=some (.int .i64 (n:Nat))/\w.frozen? ⟨b,i,none⟩=false:=by
 rcases h.2 with ⟨_,h0⟩ | ⟨g,cap,cur,e,_,hg,hnc,_,hcs,ht⟩
 ·omega
 ·refine ⟨g,cap,e,lt_of_heap hg,fun i n hi=>?_⟩
  have hil:=(List.getElem?_eq_some_iff.1 hi).1
  have h2:(intsV ns)[i]? = some (.int .i64 (n:Nat)):=by unfold intsV;rw [List.getElem?_map,hi];rfl
  rw [<- ht,List.getElem?_take,if_pos (by omega),Array.getElem?_toList] at h2
  exact ⟨by simp only [World.cell?,hg];simpa using h2,by simp [World.frozen?,hg]⟩
theorem Own.natAt {w:World} {ns:List Nat} {v:Value} (h:Own w 3 1 v ns.length (intsV ns)) (hp:0<ns.length):NatAt w ns v:=by
 obtain ⟨b,c,e,hl,hc⟩:=h.cells1 hp
 exact ⟨b,0,c,e,hl,fun i n hi=>by rw [Nat.zero_add];exact (hc i n hi).1⟩
theorem below_setCs {B b:Nat} (hb:B<=b) {a:World}:∀ (vs:List Value) (o:Nat) (w:World),Below B a w->Below B a (w.setCells b o vs)
 | [],_,_,h=>h
 | v::r,o,_,h=>below_setCs hb r (o+1) _ (h.setCell (p:=⟨b,o,none⟩) hb v)
theorem reversed_at {w w':World} {ns:List Nat} {b c:Nat} {B:Nat} (hB:B<=b) (hl:b<w.heap.size) (hc:∀ (i n:Nat),ns[i]? = some n->w.cell? ⟨b,i,none⟩=some (.int .i64 (n:Nat))/\w.frozen? ⟨b,i,none⟩=false) {q:Nat}
 (e:w'=(w.drewN q).setCells b 0 ((ns.map fun n=>((n:Nat):Int)).reverse.map (Value.int .i64))):NatAt w' ns.reverse (.slice (some ⟨b,0,none⟩) ns.length c)/\Below B w w':=by
 have e2:(ns.map fun n=>((n:Nat):Int)).reverse.map (Value.int .i64)=intsV ns.reverse:=by unfold intsV;rw [<- List.map_reverse,List.map_map];rfl
 rw [e2] at e
 have hlen:(intsV ns.reverse).length=ns.length:=by unfold intsV;simp
 have hb:Below B w w':=by
  rw [e]
  exact below_setCs hB _ _ _ (below_dN (Below.refl _ _) q)
 refine ⟨⟨b,0,c,by rw [List.length_reverse],Nat.lt_of_lt_of_le hl hb.size,fun i n hi=>?_⟩,hb⟩
 have hil:=(List.getElem?_eq_some_iff.1 hi).1
 rw [List.length_reverse] at hil
 have h3:=World.cell?_setCells_in b (intsV ns.reverse) 0 (w.drewN q) (fun j hj=>by
  rw [hlen] at hj
  have:=(hc j (ns[j]) (List.getElem?_eq_getElem hj)).1
  rw [Nat.zero_add]
  rw [show (w.drewN q).cell? ⟨b,j,none⟩=w.cell? ⟨b,j,none⟩ from (below_dN (Below.refl w.heap.size w) q).cell hl,this];rfl) i (by omega)
 rw [e,h3]
 congr 1
 have h2:(intsV ns.reverse)[i]? = some (.int .i64 (n:Nat)):=by unfold intsV;rw [List.getElem?_map,hi];rfl
 exact (List.getElem?_eq_some_iff.1 h2).2
theorem wrap_low (x:Int) (h1 : -2000<=x) (h2:x<=1000000):IntKind.i64.wrap x=x:=by
 simp [IntKind.wrap,IntKind.bits,IntKind.signed];omega
theorem intsV_append (a b:List Nat):intsV (a++b)=intsV a++intsV b:=by simp [intsV]
theorem good_pos {t:Ty} {v:Pl} {i:Nat} {c:UInt8} {p:Bs} {z:Int} (h:OkMv t v i c p z) : -1<=z/\z<(i:Int):=by
 rcases Nat.eq_zero_or_pos i with h0 | h0
 ·have:=(h.zero h0).2.2;omega
 ·have:=h.pos h0;omega
set_option maxRecDepth 100000 in
theorem view_any (F:Nat->Prop) (t:Ty) (v:Pl) (opp:Bool) (n:Nat) (mv pt:Value) (w:World) (hm:MvRep F w v mv) (hp:PtRep F w v pt) (hv:validPl t v=true) (hn0:0<n) (hn:n<=v.length) (hl:∀ x∈v,x.1.length<=16777216) :
 Calls Tryz.prog 87 #[.agg #[mv,pt],.int .i64 (n:Nat),.bool opp] w fun en w'=>∃ x,en=.returned x/\Below w.heap.size w w'/\NatAt w' (viewP v opp n) x:=by
 have h60:=valid_len hv
 obtain ⟨ma,mc,rfl,hmc⟩:=hm.cells
 obtain ⟨pa,pc,rfl,hpc⟩:=hp.cells
 obtain ⟨W,hW,hbW,hz,b0⟩:=box_1 w (.cells #[.slice ma v.length mc,.slice pa v.length pc] 33)
 obtain ⟨c0,c1,_,_⟩:=cells_2 b0
 have hwn:IntKind.i64.wrap ((n:Int)-1)=(n:Int)-1:=wrap_small _ (by omega) (by omega)
 have HH:=Lib.hid (And.intro hmc (And.intro hpc (And.intro hbW (And.intro hv hl))))
 have HW:=Lib.hid hW
 clear hm hp hmc hpc hz b0 hbW hW hl hv
 go_enter Tryz.func87,Tryz.ntmps87
 go_upto_region 1 with (fail)
 rw [HW.out]
 go_wp2_with fail
 go_loopw [7,8] (fun o i wr=>∃ (r f:Nat) (ds:List Nat) (a:Option Addr) (c:Nat),i=.int .i64 ((r:Int)-1)/\r<=f/\ds.length+f=n/\ds++viewD v opp f r=viewD v opp n n/\o=.slice a ds.length c/\Own wr 3 1 (.slice a ds.length c) ds.length (intsV ds)/\Below W.heap.size W wr/\(∀ g,(Value.slice a ds.length c).ownBlock=some g->W.heap.size<=g)) (fun _ i _=>(intOf i+1).toNat)
 case atStart=>exact ⟨n,n,[],none,0,rfl,Nat.le_refl _,by simp,rfl,rfl,World.ownsRow_nil _ _ _ _,Below.refl _ _,fun g h=>by simp [Value.ownBlock] at h⟩
 case round =>
  obtain ⟨r,f,ds,a,c,rfl,hrf,hdf,hvd,rfl,ho,hB,hf⟩:=hrel
  have HO:=Lib.hid ho;have HF:=Lib.hid hf;have HB:=Lib.hid hB;have HV:=Lib.hid hvd
  clear ho hf hB hvd
  cases r with
  | zero =>
    have e0:(((0:Nat):Int)-1) = -1:=rfl
    rw [e0]
    have hds:ds=viewD v opp n n:=by
     have h:=HV.out
     rw [viewD_zero,List.append_nil] at h;exact h
    have hlp:0<ds.length:=by
     rw [hds]
     obtain ⟨n',rfl⟩:∃ n',n=n'+1:=⟨n-1,by omega⟩
     rw [viewD_succ,List.length_cons];omega
    obtain ⟨g,c',ev,hgl,hgc⟩:=Own.cells1 HO.out hlp
    simp only [Value.slice.injEq,true_and] at ev
    obtain ⟨rfl,rfl⟩:=ev
    have C:=Lib.hid (Tryz.slices_Reverse_int_cells g 0 ds.length c (ds.map fun n=>((n:Nat):Int)) wr (by simp) (by omega) (fun j hj=>by
     rw [List.length_map] at hj
     rw [Nat.zero_add,(hgc j ds[j] (List.getElem?_eq_getElem hj)).1,List.getD_eq_getElem?_getD,List.getElem?_map,List.getElem?_eq_getElem hj];rfl) (fun j hj=>by
     rw [Nat.zero_add];exact (hgc j ds[j] (List.getElem?_eq_getElem hj)).2))
    have HG:=Lib.hid (And.intro hgl hgc)
    have HD:=Lib.hid hds
    clear hgl hgc hlp hds
    go_wp2_with fail
    (with_reducible refine C.out.mono ?_)
    rintro en w1 ⟨rfl,q,e⟩
    obtain ⟨hN,hb⟩:=reversed_at (B:=W.heap.size) (c:=c) (HF.out g rfl) HG.out.1 HG.out.2 (e.trans (by rw [List.take_of_length_le (by simp)]))
    have HN:=Lib.hid (And.intro hN (HB.out.trans hb))
    clear e hN hb C
    go_wp2_with fail
    go_ret
    refine ⟨_,rfl,zzT HH.out.2.2.1 HN.out.2,?_⟩
    unfold viewP
    rw [<- HD.out]
    exact HN.out.1
  | succ k =>
    have ek:(((k+1:Nat):Int)-1)=(k:Int):=by omega
    rw [ek]
    have hkv:k<v.length:=by omega
    have hkvI:(k:Int)<(v.length:Int):=by omega
    obtain ⟨x,p,z,hvk,hok⟩:=valid_at HH.out.2.2.2.1 hkv
    have hpl:=HH.out.2.2.2.2 _ (List.mem_of_getElem? hvk)
    rw [List.length_cons] at hpl
    obtain ⟨mb,mo,rfl,_,hmb,hmk⟩:=HH.out.1 k _ hvk
    obtain ⟨pb,po,rfl,_,hpb,hpk⟩:=HH.out.2.1 k _ hvk
    have hz:=good_pos hok
    have hwk:IntKind.i64.wrap ((k:Int)-1)=(k:Int)-1:=wrap_low _ (by omega) (by omega)
    obtain ⟨f',rfl⟩:∃ f',f=f'+1:=⟨f-1,by omega⟩
    have KEY:Hid (∀ y,Below W.heap.size W y->y.cell? ⟨w.heap.size,0,none⟩=some (.slice (some ⟨mb,mo,none⟩) v.length mc)/\y.cell? ⟨w.heap.size,1,none⟩=some (.slice (some ⟨pb,po,none⟩) v.length pc)/\y.cell? ⟨mb,mo+k,none⟩=some (str (x::p))/\y.cell? ⟨pb,po+k,none⟩=some (.int .i64 z)):=Lib.hid (fun y hy=>by
     have hy2:=zzT HH.out.2.2.1 hy
     exact ⟨(hy.cell (World.block_lt_of_cell? _ _ c0)).trans c0,(hy.cell (World.block_lt_of_cell? _ _ c1)).trans c1,(hy2.cell (p:=⟨mb,mo+k,none⟩) hmb).trans hmk,(hy2.cell (p:=⟨pb,po+k,none⟩) hpb).trans hpk⟩)
    have CB:=byOpponent_any x p (show p.length<=16777216 by omega)
    have hbk:backTo v opp (k+1-1)=backTo v opp k:=rfl
    have HN:Hid (ds++[k]++viewD v opp f' (if byOpp (x::p)=opp then k else (z+1).toNat)=viewD v opp n n):=Lib.hid (by
     have h:=HV.out
     rw [viewD_succ] at h
     unfold backTo at h
     rw [hvk] at h
     rw [List.append_assoc];exact h)
    obtain ⟨bo,hbo⟩:=zzN (byOpp (x::p))
    rw [hbo] at CB HN
    have CB:=Lib.hid CB
    clear c0 c1 hvk hok hpl hmb hmk hpb hpk hbo hbk
    go_wp2_with (at_builtin;refine wpList_append_gen rfl _ _ 31 rfl 3 (.int .i64 0) 1 8 Tryz.underlying31 Tryz.infoInt2 rfl (by decide) (.slice a ds.length c) ds.length (intsV ds) rfl ?c1 _ 1 [.int .i64 (k:Nat)] rfl ?c2 ?c3 ?c4 ?_)
    case c1=>exact HO.out.alloc _
    case c2=>exact SrcSl.litk #[.int .i64 (k:Nat)] rfl (by simp [Value.oneCell']) _ (by rfl)
    case c3=>unfold maxLen;omega
    case c4=>omega
    intro a7 c7 w8 ho8 hb8 hg8
    have hzr:=HB.out.size
    have hB8:Below W.heap.size W w8:=(HB.out.alloc hzr _).trans (hb8.toBelow (by rw [size_alloc];omega) fun i hi e=>by have:=HF.out i e;omega)
    have hF8:∀ g,(Value.slice a7 (ds.length+1) c7).ownBlock=some g->W.heap.size<=g:=fun g hg=>by
     rcases hg8 g hg with e | e
     ·exact HF.out g e
     ·omega
    have ho8':Own w8 3 1 (.slice a7 (ds++[k]).length c7) (ds++[k]).length (intsV (ds++[k])):=by rw [intsV_append,List.length_append];exact ho8
    obtain ⟨d0,d1,m0,p0⟩:=KEY.out w8 hB8
    have H8:=Lib.hid (And.intro ho8' (And.intro hB8 (by rw [show ds.length+1=(ds++[k]).length from by simp] at hF8;exact hF8)))
    have el:ds.length+1=(ds++[k]).length:=by simp
    rw [el]
    generalize hds:ds++[k]=ds' at *
    have hdl:ds'.length=ds.length+1:=el.symm
    clear ho8 hb8 hg8 hB8 hF8 ho8' KEY hzr el hds HO HF HV
    go_wp2_with fail
    (with_reducible refine (CB.out _).mono ?_)
    rintro en w9 ⟨rfl,e⟩
    subst w9
    by_cases hbo:bo=opp
    ·rw [if_pos hbo] at HN
     have hb1:(bo == opp)=true:=by simp [hbo]
     clear hbo CB d1 p0
     go_wp2_with fail
     go_roundw
     case rel=>exact ⟨k,f',ds',a7,c7,rfl,by omega,by omega,HN.out,by rw [hdl],H8.out.1,H8.out.2.1,H8.out.2.2⟩
     case measure=>simp [intOf]
    ·rw [if_neg hbo] at HN
     have hb1:(bo == opp)=false:=by simp [hbo]
     clear hbo CB d0 m0
     go_wp2_with fail
     go_roundw
     case rel=>exact ⟨(z+1).toNat,f',ds',a7,c7,by congr 1;omega,by omega,by omega,HN.out,by rw [hdl],H8.out.1,H8.out.2.1,H8.out.2.2⟩
     case measure=>simp [intOf];omega
theorem Own.srcN {w:World} {e:TypeId} {n:Nat} {v:Value} {ns:List Nat} (h:Own w e 1 v n (intsV ns)):SrcSl 1 v n (intsV ns) w:=by
 refine ⟨h.1,fun u hu=>?_,?_⟩
 ·obtain ⟨m,_,rfl⟩:=List.mem_map.1 hu
  simp [Value.oneCell']
 ·rcases h.2 with ⟨e1,e2⟩ | ⟨g,cap,cur,e1,_,hg,_,_,_,ht⟩
  ·exact .inr ⟨e1,e2⟩
  ·refine .inl ⟨_,cap,e1,fun j u hu=>?_⟩
   rw [<- ht,List.getElem?_take] at hu
   split at hu
   ·unfold Addr.add
    split
    ·subst j;simp only [World.cell?,hg];simpa using hu
    ·simp only [World.cell?,hg];simpa using hu
   ·simp at hu
def whoI (opp:Bool):Nat:=if opp then 0 else 1
theorem who_eq (m:Bs) (opp:Bool):(((plN m:Nat):Int) == ((whoI opp:Nat):Int))=(byOpp m == opp):=by
 unfold plN whoI
 cases byOpp m <;> cases opp <;> rfl
set_option maxRecDepth 100000 in
theorem l2View_any (F:Nat->Prop) (t:Ty) (v:Pl) (opp:Bool) (n:Nat) (mv pt:Value) (w:World) (hm:MvRep F w v mv) (hp:PtRep F w v pt) (hv:validPl t v=true) (hn0:0<n) (hn:n<=v.length) (hl:∀ x∈v,x.1.length<=16777216) :
 Calls Tryz.prog 127 #[.agg #[mv,pt],.int .i64 (whoI opp:Nat),.int .i64 (n:Nat)] w fun en w'=>∃ x,en=.returned x/\Below w.heap.size w w'/\NatAt w' (viewP v opp n) x:=by
 have h60:=valid_len hv
 obtain ⟨ma,mc,rfl,hmc⟩:=hm.cells
 obtain ⟨pa,pc,rfl,hpc⟩:=hp.cells
 obtain ⟨W,hW,hbW,hz,b0⟩:=box_1 w (.cells #[.slice ma v.length mc,.slice pa v.length pc] 33)
 obtain ⟨c0,c1,_,_⟩:=cells_2 b0
 have HH:=Lib.hid (And.intro hmc (And.intro hpc (And.intro hbW (And.intro hv hl))))
 have HW:=Lib.hid hW
 have HWH:=Lib.hid (fun m=>who_eq m opp)
 generalize whoI opp=who at *
 clear hm hp hmc hpc hz b0 hbW hW hl hv
 go_enter Tryz.func127,Tryz.ntmps127
 go_upto_region 1 with (fail)
 rw [HW.out]
 go_wp2_with fail
 go_loopw [2,7,8] (fun i o _ wr=>∃ (r f:Nat) (os:List Nat) (a:Option Addr) (c:Nat),i=.int .i64 (r:Nat)/\r<=f/\os.length+f=n/\os.reverse++viewD v opp f r=viewD v opp n n/\o=.slice a os.length c/\Own wr 3 1 (.slice a os.length c) os.length (intsV os)/\Below W.heap.size W wr/\(∀ g,(Value.slice a os.length c).ownBlock=some g->W.heap.size<=g)) (fun i _ _ _=>(intOf i).toNat)
 case atStart=>exact ⟨n,n,[],_,_,rfl,Nat.le_refl _,by simp,rfl,rfl,Own.litAt #[] 0 _ rfl (by decide) rfl,(Below.refl _ _).alloc (Nat.le_refl _) _,own_some (Nat.le_refl _)⟩
 case round =>
  obtain ⟨r,f,os,a,c,rfl,hrf,hdf,hvd,rfl,ho,hB,hf⟩:=hrel
  have HO:=Lib.hid ho;have HF:=Lib.hid hf;have HB:=Lib.hid hB;have HV:=Lib.hid hvd
  clear ho hf hB hvd
  cases r with
  | zero =>
    have hds:os.reverse=viewD v opp n n:=by
     have h:=HV.out
     rw [viewD_zero,List.append_nil] at h;exact h
    have hlp:0<os.length:=by
     rw [<- List.length_reverse,hds]
     obtain ⟨n',rfl⟩:∃ n',n=n'+1:=⟨n-1,by omega⟩
     rw [viewD_succ,List.length_cons];omega
    have HN:=Lib.hid (show NatAt wr (viewP v opp n) (.slice a os.length c) by
     unfold viewP
     rw [<- hds,List.reverse_reverse]
     exact Own.natAt HO.out hlp)
    clear hlp hds
    go_wp2_with fail
    go_ret
    exact ⟨_,rfl,zzT HH.out.2.2.1 HB.out,HN.out⟩
  | succ k =>
    have hkp:(0:Int)<((k+1:Nat):Int):=by omega
    have hkn:(0<k+1)=True:=by simp
    have hwk:IntKind.i64.wrap (((k+1:Nat):Int)-1)=(k:Int):=by rw [show ((k+1:Nat):Int)-1=(k:Int) from by omega];exact wrap_nat _ (by omega)
    have hkv:k<v.length:=by omega
    have hkvI:(k:Int)<(v.length:Int):=by omega
    obtain ⟨x,p,z,hvk,hok⟩:=valid_at HH.out.2.2.2.1 hkv
    have hpl:=HH.out.2.2.2.2 _ (List.mem_of_getElem? hvk)
    rw [List.length_cons] at hpl
    obtain ⟨mb,mo,rfl,_,hmb,hmk⟩:=HH.out.1 k _ hvk
    obtain ⟨pb,po,rfl,_,hpb,hpk⟩:=HH.out.2.1 k _ hvk
    have hz:=good_pos hok
    obtain ⟨f',rfl⟩:∃ f',f=f'+1:=⟨f-1,by omega⟩
    have KEY:Hid (∀ y,Below W.heap.size W y->y.cell? ⟨w.heap.size,0,none⟩=some (.slice (some ⟨mb,mo,none⟩) v.length mc)/\y.cell? ⟨w.heap.size,1,none⟩=some (.slice (some ⟨pb,po,none⟩) v.length pc)/\y.cell? ⟨mb,mo+k,none⟩=some (str (x::p))/\y.cell? ⟨pb,po+k,none⟩=some (.int .i64 z)):=Lib.hid (fun y hy=>by
     have hy2:=zzT HH.out.2.2.1 hy
     exact ⟨(hy.cell (World.block_lt_of_cell? _ _ c0)).trans c0,(hy.cell (World.block_lt_of_cell? _ _ c1)).trans c1,(hy2.cell (p:=⟨mb,mo+k,none⟩) hmb).trans hmk,(hy2.cell (p:=⟨pb,po+k,none⟩) hpb).trans hpk⟩)
    have CB:=l1Player_any x p (show p.length<=16777216 by omega)
    have HN:Hid ((k::os).reverse++viewD v opp f' (if byOpp (x::p)=opp then k else (z+1).toNat)=viewD v opp n n):=Lib.hid (by
     have h:=HV.out
     rw [viewD_succ] at h
     unfold backTo at h
     rw [hvk] at h
     rw [List.reverse_cons,List.append_assoc];exact h)
    have HQ:=HWH.out (x::p)
    obtain ⟨bo,hbo⟩:=zzN (byOpp (x::p))
    obtain ⟨pn,hpn⟩:=zzN (plN (x::p))
    rw [hbo] at HN HQ
    rw [hpn] at CB HQ
    have CB:=Lib.hid CB
    clear c0 c1 hvk hok hpl hmb hmk hpb hpk hbo hpn
    go_wp2_with (at_builtin;refine wpList_append_gen rfl _ _ 31 rfl 3 (.int .i64 0) 1 8 Tryz.underlying31 Tryz.infoInt2 rfl (by decide) (.slice (some ⟨wr.heap.size,0,none⟩) 1 1) 1 (intsV [k]) rfl ?c1 _ os.length (intsV os) rfl ?c2 ?c3 ?c4 ?_)
    case c1=>exact Own.litAt #[.int .i64 (k:Nat)] 1 _ rfl (by decide) rfl
    case c2=>exact HO.out.srcN.alloc _
    case c3=>unfold maxLen;omega
    case c4=>omega
    intro a7 c7 w8 ho8 hb8 hg8
    have hzr:=HB.out.size
    have hB8:Below W.heap.size W w8:=(HB.out.alloc hzr _).trans (hb8.toBelow (by rw [size_alloc];omega) fun i hi e=>by
     simp [Value.ownBlock] at e;omega)
    have hF8:∀ g,(Value.slice a7 (1+os.length) c7).ownBlock=some g->W.heap.size<=g:=fun g hg=>by
     rcases hg8 g hg with e | e
     ·simp [Value.ownBlock] at e;omega
     ·omega
    have el:1+os.length=(k::os).length:=by rw [List.length_cons];omega
    rw [<- show intsV (k::os)=intsV [k]++intsV os from rfl] at ho8
    rw [el] at ho8 hF8 ⊢
    obtain ⟨d0,d1,m0,p0⟩:=KEY.out w8 hB8
    have H8:=Lib.hid (And.intro ho8 (And.intro hB8 hF8))
    generalize hds:k::os=os' at *
    have hdl:os'.length=os.length+1:=by rw [<- el];omega
    clear ho8 hb8 hg8 hB8 hF8 KEY hzr el hds HO HF HV
    go_wp2_with fail
    (with_reducible refine (CB.out _).mono ?_)
    rintro en w9 ⟨rfl,e⟩
    subst w9
    by_cases hbo:bo=opp
    ·rw [if_pos hbo] at HN
     have hb1:((pn:Int) == (who:Int))=true:=by rw [HQ];simp [hbo]
     clear hbo CB d1 p0 HQ
     go_wp2_with fail
     go_roundw
     case rel=>exact ⟨k,f',os',a7,c7,rfl,by omega,by omega,HN.out,by rw [hdl],H8.out.1,H8.out.2.1,H8.out.2.2⟩
     case measure=>simp [intOf]
    ·rw [if_neg hbo] at HN
     have hb1:((pn:Int) == (who:Int))=false:=by rw [HQ];simp [hbo]
     clear hbo CB d0 m0 HQ
     by_cases hz0:z<0
     ·go_wp2_with fail
      go_roundw
      case rel=>exact ⟨0,f',os',a7,c7,rfl,by omega,by omega,by have h:=HN.out;rw [show (z+1).toNat=0 from by omega] at h;exact h,by rw [hdl],H8.out.1,H8.out.2.1,H8.out.2.2⟩
      case measure=>simp [intOf]
     ·have hwz:IntKind.i64.wrap (z+1)=z+1:=wrap_low _ (by omega) (by omega)
      go_wp2_with fail
      go_roundw
      case rel=>exact ⟨(z+1).toNat,f',os',a7,c7,by congr 1;omega,by omega,by omega,HN.out,by rw [hdl],H8.out.1,H8.out.2.1,H8.out.2.2⟩
      case measure=>simp [intOf];omega
def pendF (v:Pl):Nat->List Int->Int
 | 0,_=>-1
 | k+1,ans=>match v[k]? with
   | none=>-1
   | some x=>if isQ x.1 then (if ans.contains (k:Int) then pendF v k ans else (k:Int)) else pendF v k (ans++[x.2])
theorem pendF_at {v:Pl} {k:Nat} {m:Bs} {z:Int} (h:v[k]? = some (m,z)) (ans:List Int):pendF v (k+1) ans=if isQ m then (if ans.contains (k:Int) then pendF v k ans else (k:Int)) else pendF v k (ans++[z]):=by
 rw [pendF,h]
def setD (ans:List Int):DataW Unit:=ans.foldl (fun D z=>D.put (.int .i64 z) (.lit (.bool true))) (.map [])
theorem setD_snoc (ans:List Int) (z:Int):setD (ans++[z])=(setD ans).put (.int .i64 z) (.lit (.bool true)):=by
 unfold setD;rw [List.foldl_append];rfl
theorem foldD_at (z:Int):∀ (ans:List Int) (D:DataW Unit) (b:Bool),Maps.IsMap D->D.atKey (.int .i64 z) (.lit (.bool false))=.lit (.bool b)->(ans.foldl (fun D z=>D.put (.int .i64 z) (.lit (.bool true))) D).atKey (.int .i64 z) (.lit (.bool false))=.lit (.bool (b || ans.contains z))
 | [],D,b,_,h=>by simpa using h
 | x::r,D,b,hm,h=>by
   rw [List.foldl_cons]
   by_cases hx:z=x
   ·subst hx
    rw [foldD_at z r _ true (hm.put _ _) (Maps.atKey_put_same hm (show WideAt.IsKeyLit (.int .i64 z) from trivial) _ _)]
    simp
   ·rw [foldD_at z r _ b (hm.put _ _) (by rw [Maps.atKey_put_other (by simpa using hx)];exact h)]
    simp [hx]
theorem setD_at (ans:List Int) (z:Int):(setD ans).atKey (.int .i64 z) (.lit (.bool false))=.lit (.bool (ans.contains z)):=by
 unfold setD
 rw [foldD_at z ans _ false Maps.isMap_empty rfl,Bool.false_or]
theorem ownsMap_bool {P:Program} {k:TypeId} {w:World} {b n:Nat} {D:DataW Unit} {t e:TypeId} (h:w.ownsMap P k (plainElem P e) b n D) (K:Maps.Keyed P k) (ht:P.underlying t=some (.map k e)) (he:P.underlying e=some .bool) (hz:(zeroValue e).run P w=.ok (.bool false) w)
 {key:Value} {kl:Lit} (hkey:keyOf P k key=some kl):∃ c,(Instr.lookup t (.map (some b)) key false).run P w=.ok (.bool c) w/\D.atKey kl (.lit (.bool false))=.lit (.bool c):=by
 obtain ⟨v,ps,hrun,hv⟩:=h.lookup K ht hz (plainElem_bool he false) hkey
 unfold plainElem at hv
 rw [he] at hv
 cases v <;> simp at hv
 exact ⟨_,hrun,hv.1.symm⟩
theorem Tryz.lawI:Maps.Keyed Tryz.prog 3:=Maps.int_keyed Tryz.underlying3
theorem Tryz.zeroB (w:World):(zeroValue 4).run Tryz.prog w=.ok (.bool false) w:=by kernel_rfl
theorem keyI {z:Int} (h1 : -2000<=z) (h2:z<=1000000):keyOf Tryz.prog 3 (.int .i64 z)=some (.int .i64 z):=Maps.keyOf_int_mk Tryz.underlying3 (WalkArith.wf_i64 ⟨by omega,by omega⟩)
set_option maxRecDepth 100000 in
theorem pending_any (F:Nat->Prop) (t:Ty) (v:Pl) (n:Nat) (mv pt:Value) (w:World) (hm:MvRep F w v mv) (hp:PtRep F w v pt) (hv:validPl t v=true) (hn:n<=v.length) :
 Calls Tryz.prog 172 #[.agg #[mv,pt],.int .i64 (n:Nat)] w fun en w'=>en=.returned (.int .i64 (pendF v n []))/\Below w.heap.size w w':=by
 have h60:=valid_len hv
 obtain ⟨ma,mc,rfl,hmc⟩:=hm.cells
 obtain ⟨pa,pc,rfl,hpc⟩:=hp.cells
 obtain ⟨W,hW,hbW,hz,b0⟩:=box_1 w (.cells #[.slice ma v.length mc,.slice pa v.length pc] 33)
 obtain ⟨c0,c1,_,_⟩:=cells_2 b0
 have hwn:IntKind.i64.wrap ((n:Int)-1)=(n:Int)-1:=wrap_low _ (by omega) (by omega)
 have HH:=Lib.hid (And.intro hmc (And.intro hpc (And.intro hbW hv)))
 have HW:=Lib.hid hW
 have hmm:=@run_makeMap Tryz.prog
 clear hm hp hmc hpc hz b0 hbW hW hv
 go_enter Tryz.func172,Tryz.ntmps172
 go_upto_region 1 with (fail)
 rw [HW.out]
 go_wp2_with fail
 go_loopw [6] (fun i wr=>∃ (r:Nat) (ans:List Int),i=.int .i64 ((r:Int)-1)/\r+ans.length<=n/\pendF v r ans=pendF v n []/\wr.ownsMap Tryz.prog 3 (plainElem (H:=Unit) Tryz.prog 4) W.heap.size ans.length (setD ans)/\Below W.heap.size W wr) (fun i _=>(intOf i+1).toNat)
 case atStart=>exact ⟨n,[],rfl,by simp,rfl,World.ownsMap_made _ _ _ _,(Below.refl _ _).alloc (Nat.le_refl _) _⟩
 case round =>
  obtain ⟨r,ans,rfl,hra,hpe,ho,hB⟩:=hrel
  have HB:=Lib.hid hB;have HP:=Lib.hid hpe;have HO:=Lib.hid ho
  clear hB hpe ho
  cases r with
  | zero =>
    have e0:(((0:Nat):Int)-1) = -1:=rfl
    have E:=Lib.hid (show pendF v n [] = -1 by rw [<- HP.out];rfl)
    rw [e0]
    go_wp2_with fail
    go_ret
    exact ⟨by rw [E.out];rfl,zzT HH.out.2.2.1 HB.out⟩
  | succ k =>
    have ek:(((k+1:Nat):Int)-1)=(k:Int):=by omega
    rw [ek]
    have hkv:k<v.length:=by omega
    have hkvI:(k:Int)<(v.length:Int):=by omega
    obtain ⟨x,p,z,hvk,hok⟩:=valid_at HH.out.2.2.2 hkv
    obtain ⟨mb,mo,rfl,_,hmb,hmk⟩:=HH.out.1 k _ hvk
    obtain ⟨pb,po,rfl,_,hpb,hpk⟩:=HH.out.2.1 k _ hvk
    have hz:=good_pos hok
    have hwk:IntKind.i64.wrap ((k:Int)-1)=(k:Int)-1:=wrap_low _ (by omega) (by omega)
    obtain ⟨d0,d1,m0,p0⟩:wr.cell? ⟨w.heap.size,0,none⟩=some (.slice (some ⟨mb,mo,none⟩) v.length mc)/\wr.cell? ⟨w.heap.size,1,none⟩=some (.slice (some ⟨pb,po,none⟩) v.length pc)/\wr.cell? ⟨mb,mo+k,none⟩=some (str (x::p))/\wr.cell? ⟨pb,po+k,none⟩=some (.int .i64 z):=by
     have hy:=HB.out
     have hy2:=zzT HH.out.2.2.1 hy
     exact ⟨(hy.cell (World.block_lt_of_cell? _ _ c0)).trans c0,(hy.cell (World.block_lt_of_cell? _ _ c1)).trans c1,(hy2.cell (p:=⟨mb,mo+k,none⟩) hmb).trans hmk,(hy2.cell (p:=⟨pb,po+k,none⟩) hpb).trans hpk⟩
    have CB:=isQuestion_any x p wr
    have HQ:=pendF_at hvk ans
    cases hq:isQ (x::p) with
    | false =>
      rw [hq] at CB HQ
      have E:=Lib.hid (HP.out.symm.trans HQ)
      have CB:=Lib.hid CB
      have kz:=Lib.hid (keyI (z:=z) (by omega) (by omega))
      clear c0 c1 hvk hok hmb hmk hpb hpk hq HQ
      go_wp2_with fail
      (with_reducible refine CB.out.mono ?_)
      rintro en w9 ⟨rfl,e⟩
      subst w9
      go_wp2_with (at_mapUpdate;refine wpList_mapUpdate_own (H:=Unit) _ rfl _ _ _ 257 rfl 3 4 Tryz.lawI Tryz.underlying257 (plainElem Tryz.prog 4) W.heap.size ans.length _ rfl HO.out (by unfold maxLen;omega) _ _ _ rfl rfl kz.out _ [] (plainElem_bool Tryz.underlying4 true) ?_)
      intro w1 ho1 hg1
      have hB1:Below W.heap.size W w1:=HB.out.trans ((But.ofGrown hg1).toBelow HB.out.size fun i hi e=>by simp at e;omega)
      rw [<- setD_snoc] at ho1
      have H1:=Lib.hid (And.intro ho1 hB1)
      clear ho1 hg1 hB1 d0 d1 m0 p0
      go_wp2_with fail
      go_roundw
      case rel=>exact ⟨k,ans++[z],rfl,by rw [List.length_append];simp;omega,E.out.symm,by rw [List.length_append];exact H1.out.1,H1.out.2⟩
      case measure=>simp [intOf]
    | true =>
      rw [hq] at CB HQ
      obtain ⟨c,hrun,hat⟩:=ownsMap_bool HO.out Tryz.lawI Tryz.underlying257 Tryz.underlying4 (Tryz.zeroB _) (keyI (z:=(k:Int)) (by omega) (by omega))
      rw [setD_at] at hat
      obtain rfl:ans.contains (k:Int)=c:=by simpa using hat
      have E:=Lib.hid (HP.out.symm.trans HQ)
      have CB:=Lib.hid CB
      clear c0 c1 hvk hok hmb hmk hpb hpk hq HQ hat
      cases hc:ans.contains (k:Int) with
      | true =>
        rw [hc] at hrun E
        clear hc
        go_wp2_with fail
        (with_reducible refine CB.out.mono ?_)
        rintro en w9 ⟨rfl,e⟩
        subst w9
        go_wp2_with fail
        go_roundw
        case rel=>exact ⟨k,ans,rfl,by omega,E.out.symm,HO.out,HB.out⟩
        case measure=>simp [intOf]
      | false =>
        rw [hc] at hrun E
        clear hc
        go_wp2_with fail
        (with_reducible refine CB.out.mono ?_)
        rintro en w9 ⟨rfl,e⟩
        subst w9
        go_wp2_with fail
        go_ret
        exact ⟨by rw [E.out];rfl,zzT HH.out.2.2.1 HB.out⟩
def IntAt (w:World) (zs:List Int) (x:Value):Prop:=∃ a c,x=.slice a zs.length c/\∀ (i:Nat) (z:Int),zs[i]? = some z->∃ b o,a=some ⟨b,o,none⟩/\b<w.heap.size/\w.cell? ⟨b,o+i,none⟩=some (.int .i64 z)
theorem NatAt.ints {w:World} {ns:List Nat} {x:Value} (h:NatAt w ns x):IntAt w (ns.map fun n=>((n:Nat):Int)) x:=by
 obtain ⟨b,o,c,e,hl,hc⟩:=h
 refine ⟨some ⟨b,o,none⟩,c,by rw [List.length_map];exact e,fun i z hz=>?_⟩
 rw [List.getElem?_map,Option.map_eq_some_iff] at hz
 obtain ⟨n,hn,rfl⟩:=hz
 exact ⟨b,o,rfl,hl,hc i n hn⟩
def zsV (zs:List Int):List Value:=zs.map fun z=>Value.int .i64 z
theorem Own.intAt {w:World} {zs:List Int} {v:Value} (h:Own w 3 1 v zs.length (zsV zs)):IntAt w zs v:=by
 rcases h.2 with ⟨e,h0⟩ | ⟨g,cap,cur,e,_,hg,hnc,_,hcs,ht⟩
 ·refine ⟨none,0,by rw [e,h0],fun i z hz=>?_⟩
  have:=(List.getElem?_eq_some_iff.1 hz).1;omega
 ·refine ⟨some ⟨g,0,none⟩,cap,e,fun i z hz=>⟨g,0,rfl,lt_of_heap hg,?_⟩⟩
  have hil:=(List.getElem?_eq_some_iff.1 hz).1
  have h2:(zsV zs)[i]? = some (.int .i64 z):=by unfold zsV;rw [List.getElem?_map,hz];rfl
  rw [<- ht,List.getElem?_take,if_pos (by omega),Array.getElem?_toList] at h2
  rw [Nat.zero_add]
  simp only [World.cell?,hg];simpa using h2
theorem take_has {zs:List Int} {k:Nat} {z n:Int} (h:zs[k]? = some z):(zs.take (k+1)).contains n=((zs.take k).contains n || (z == n)):=by
 rw [List.take_add_one,h]
 rw [Bool.eq_iff_iff,List.contains_iff_mem,Bool.or_eq_true,List.contains_iff_mem,beq_iff_eq,List.mem_append,Option.toList_some,List.mem_singleton]
 constructor
 ·rintro (h | h)
  ·exact .inl h
  ·exact .inr h.symm
 ·rintro (h | h)
  ·exact .inl h
  ·exact .inr h.symm
set_option maxRecDepth 20000 in
theorem l2Has_any (zs:List Int) (n:Int) (x:Value) (w:World) (h:IntAt w zs x) (hl:zs.length<=1000000) :
 Calls Tryz.prog 129 #[x,.int .i64 n] w fun en w'=>en=.returned (.bool (zs.contains n))/\w'=w:=by
 obtain ⟨a,c,rfl,hat⟩:=h
 have HA:=Lib.hid hat
 clear hat
 go_enter Tryz.func129,Tryz.ntmps129
 go_wp2_with fail
 go_loopw [5] (fun i wr=>wr=w/\∃ k:Nat,k<=zs.length/\i=.int .i64 k/\(zs.take k).contains n=false) (fun i _=>zs.length-(intOf i).toNat)
 case atStart=>exact ⟨rfl,0,Nat.zero_le _,rfl,rfl⟩
 case round =>
  obtain ⟨rfl,k,hk,rfl,hno⟩:=hrel
  by_cases hlt:k<zs.length
  ·have hltI:(k:Int)<(zs.length:Int):=by omega
   obtain ⟨z,hz⟩:∃ z,zs[k]? = some z:=⟨_,List.getElem?_eq_getElem hlt⟩
   obtain ⟨b,o,rfl,_,hc⟩:=HA.out k z hz
   have HT:=Lib.hid ((take_has (n:=n) hz).trans (by rw [hno,Bool.false_or]))
   clear hz hno
   cases hzn:(z == n) with
   | true =>
     have E:=Lib.hid (show zs.contains n=true by
      have h:=HT.out
      rw [hzn,List.contains_iff_mem] at h
      rw [List.contains_iff_mem];exact List.mem_of_mem_take h)
     clear HT
     go_wp2_with fail
     go_ret
     exact ⟨by rw [E.out];rfl,by first | trivial | rfl⟩
   | false =>
     have E:=Lib.hid (HT.out.trans hzn)
     clear HT
     go_wp2_with fail
     go_roundw
     case rel=>exact ⟨by first | trivial | rfl,k+1,by omega,by go_num,E.out⟩
     case measure=>simp [intOf];omega
  ·obtain rfl:k=zs.length:=by omega
   rw [List.take_length] at hno
   have E:=Lib.hid hno
   clear hno
   go_wp2_with fail
   go_ret
   exact ⟨by rw [E.out];rfl,by first | trivial | rfl⟩
theorem q_ne (c:UInt8) (p:Bs):((c.toNat:Int) != 113) = !isQ (c::p):=by
 rw [isQ_cons,bne,q_int]
theorem zsV_append (a b:List Int):zsV (a++b)=zsV a++zsV b:=by simp [zsV]
set_option maxRecDepth 100000 in
theorem l2Pending_any (F:Nat->Prop) (t:Ty) (v:Pl) (n:Nat) (mv pt:Value) (w:World) (hm:MvRep F w v mv) (hp:PtRep F w v pt) (hv:validPl t v=true) (hn:n<=v.length) (hl:∀ x∈v,x.1.length<=16777216) :
 Calls Tryz.prog 132 #[.agg #[mv,pt],.int .i64 (n:Nat)] w fun en w'=>en=.returned (.int .i64 (pendF v n []))/\Below w.heap.size w w':=by
 have h60:=valid_len hv
 obtain ⟨ma,mc,rfl,hmc⟩:=hm.cells
 obtain ⟨pa,pc,rfl,hpc⟩:=hp.cells
 obtain ⟨W,hW,hbW,hz,b0⟩:=box_1 w (.cells #[.slice ma v.length mc,.slice pa v.length pc] 33)
 obtain ⟨c0,c1,_,_⟩:=cells_2 b0
 have hwn:IntKind.i64.wrap ((n:Int)-1)=(n:Int)-1:=wrap_low _ (by omega) (by omega)
 have HH:=Lib.hid (And.intro hmc (And.intro hpc (And.intro hbW (And.intro hv hl))))
 have HW:=Lib.hid hW
 clear hm hp hmc hpc hz b0 hbW hW hv hl
 go_enter Tryz.func132,Tryz.ntmps132
 go_upto_region 1 with (fail)
 rw [HW.out]
 go_wp2_with fail
 go_loopw [5,6] (fun o i wr=>∃ (r:Nat) (ans:List Int) (a:Option Addr) (c:Nat),i=.int .i64 ((r:Int)-1)/\r+ans.length<=n/\pendF v r ans=pendF v n []/\o=.slice a ans.length c/\Own wr 3 1 (.slice a ans.length c) ans.length (zsV ans)/\Below W.heap.size W wr/\(∀ g,(Value.slice a ans.length c).ownBlock=some g->W.heap.size<=g)) (fun _ i _=>(intOf i+1).toNat)
 case atStart=>exact ⟨n,[],_,_,rfl,by simp,rfl,rfl,Own.litAt #[] 0 _ rfl (by decide) rfl,(Below.refl _ _).alloc (Nat.le_refl _) _,own_some (Nat.le_refl _)⟩
 case round =>
  obtain ⟨r,ans,a,c,rfl,hra,hpe,rfl,ho,hB,hf⟩:=hrel
  have HB:=Lib.hid hB;have HP:=Lib.hid hpe;have HO:=Lib.hid ho;have HF:=Lib.hid hf
  clear hB hpe ho hf
  cases r with
  | zero =>
    have e0:(((0:Nat):Int)-1) = -1:=rfl
    have E:=Lib.hid (show pendF v n [] = -1 by rw [<- HP.out];rfl)
    rw [e0]
    go_wp2_with fail
    go_ret
    exact ⟨by rw [E.out];rfl,zzT HH.out.2.2.1 HB.out⟩
  | succ k =>
    have ek:(((k+1:Nat):Int)-1)=(k:Int):=by omega
    rw [ek]
    have hkv:k<v.length:=by omega
    have hkvI:(k:Int)<(v.length:Int):=by omega
    obtain ⟨x,p,z,hvk,hok⟩:=valid_at HH.out.2.2.2.1 hkv
    obtain ⟨mb,mo,rfl,_,hmb,hmk⟩:=HH.out.1 k _ hvk
    obtain ⟨pb,po,rfl,_,hpb,hpk⟩:=HH.out.2.1 k _ hvk
    have hz:=good_pos hok
    have hwk:IntKind.i64.wrap ((k:Int)-1)=(k:Int)-1:=wrap_low _ (by omega) (by omega)
    obtain ⟨d0,d1,m0,p0⟩:wr.cell? ⟨w.heap.size,0,none⟩=some (.slice (some ⟨mb,mo,none⟩) v.length mc)/\wr.cell? ⟨w.heap.size,1,none⟩=some (.slice (some ⟨pb,po,none⟩) v.length pc)/\wr.cell? ⟨mb,mo+k,none⟩=some (str (x::p))/\wr.cell? ⟨pb,po+k,none⟩=some (.int .i64 z):=by
     have hy:=HB.out
     have hy2:=zzT HH.out.2.2.1 hy
     exact ⟨(hy.cell (World.block_lt_of_cell? _ _ c0)).trans c0,(hy.cell (World.block_lt_of_cell? _ _ c1)).trans c1,(hy2.cell (p:=⟨mb,mo+k,none⟩) hmb).trans hmk,(hy2.cell (p:=⟨pb,po+k,none⟩) hpb).trans hpk⟩
    have HQ:=pendF_at hvk ans
    have hne:=q_ne x p
    obtain ⟨M,hM⟩:=zzM (x::p)
    have hM0:0<M.length:=by rw [hM];simp
    have hM0I:(0:Int)<(M.length:Int):=by omega
    have B0:((((⟨M.toArray⟩:ByteArray)[0]'(lt_str hM0)).toNat:Int))=(x.toNat:Int):=by rw [byte_int hM0];subst hM;rfl
    cases hq:isQ (x::p) with
    | false =>
      rw [hq] at HQ hne
      have E:=Lib.hid (HP.out.symm.trans HQ)
      rw [<- hM] at m0
      clear c0 c1 hvk hok hmb hmk hpb hpk hq HQ hM
      go_wp2_with (at_builtin;refine wpList_append_gen rfl _ _ 31 rfl 3 (.int .i64 0) 1 8 Tryz.underlying31 Tryz.infoInt2 rfl (by decide) (.slice a ans.length c) ans.length (zsV ans) rfl ?c1 _ 1 [.int .i64 z] rfl ?c2 ?c3 ?c4 ?_)
      case c1=>exact HO.out.alloc _
      case c2=>exact SrcSl.litk #[.int .i64 z] rfl (by simp [Value.oneCell']) _ (by rfl)
      case c3=>unfold maxLen;omega
      case c4=>omega
      intro a7 c7 w8 ho8 hb8 hg8
      have hzr:=HB.out.size
      have hB8:Below W.heap.size W w8:=(HB.out.alloc hzr _).trans (hb8.toBelow (by rw [size_alloc];omega) fun i hi e=>by have:=HF.out i e;omega)
      have hF8:∀ g,(Value.slice a7 (ans.length+1) c7).ownBlock=some g->W.heap.size<=g:=fun g hg=>by
       rcases hg8 g hg with e | e
       ·exact HF.out g e
       ·omega
      have el:ans.length+1=(ans++[z]).length:=by simp
      rw [<- show zsV (ans++[z])=zsV ans++[.int .i64 z] from zsV_append _ _] at ho8
      have H8:=Lib.hid (And.intro ho8 (And.intro hB8 hF8))
      clear ho8 hb8 hg8 hB8 hF8 d0 d1 m0 p0
      go_wp2_with fail
      go_roundw
      case rel=>exact ⟨k,ans++[z],a7,c7,rfl,by rw [<- el];omega,E.out.symm,by rw [<- el],by rw [<- el];exact H8.out.1,H8.out.2.1,by rw [<- el];exact H8.out.2.2⟩
      case measure=>simp [intOf]
    | true =>
      rw [hq] at HQ hne
      have E:=Lib.hid (HP.out.symm.trans HQ)
      have CH:=Lib.hid (l2Has_any ans (k:Int) _ wr (Own.intAt HO.out) (by omega))
      rw [<- hM] at m0
      clear c0 c1 hvk hok hmb hmk hpb hpk hq HQ hM
      cases hc:ans.contains (k:Int) with
      | true =>
        rw [hc] at E CH
        clear hc
        go_wp2_with fail
        (with_reducible refine CH.out.mono ?_)
        rintro en w9 ⟨rfl,e⟩
        subst w9
        go_wp2_with fail
        go_roundw
        case rel=>exact ⟨k,ans,a,c,rfl,by omega,E.out.symm,rfl,HO.out,HB.out,HF.out⟩
        case measure=>simp [intOf]
      | false =>
        rw [hc] at E CH
        clear hc
        go_wp2_with fail
        (with_reducible refine CH.out.mono ?_)
        rintro en w9 ⟨rfl,e⟩
        subst w9
        go_wp2_with fail
        go_ret
        exact ⟨by rw [E.out];rfl,zzT HH.out.2.2.1 HB.out⟩
def allP (p:Nat->Bool):Nat->Bool
 | 0=>true
 | n+1=>allP p n && p n
theorem allP_at {p:Nat->Bool}:∀ {n i:Nat},allP p n=true->i<n->p i=true
 | 0,i,_,hi=>absurd hi (by omega)
 | n+1,i,h,hi=>by
   rw [allP,Bool.and_eq_true] at h
   rcases Nat.lt_or_ge i n with h' | h'
   ·exact allP_at h.1 h'
   ·obtain rfl:i=n:=by omega
    exact h.2
theorem allP_no {p:Nat->Bool} {n i:Nat} (h:p i=false) (hi:i<n):allP p n=false:=by
 cases hh:allP p n with
 | false=>rfl
 | true=>rw [allP_at hh hi] at h;simp at h
theorem allP_of {p:Nat->Bool}:∀ {n:Nat},(∀ i,i<n->p i=true)->allP p n=true
 | 0,_=>rfl
 | n+1,h=>by rw [allP,allP_of (fun i hi=>h i (by omega)),h n (by omega)];rfl
theorem allP_le {p:Nat->Bool} {n m:Nat} (h:allP p n=true) (hm:m<=n):allP p m=true:=allP_of fun i hi=>allP_at h (by omega)
def visAt (v:Pl) (i:Nat):Bool:=if i=0 then true else match v[i]? with
 | none=>true
 | some x=>((viewP v (byOpp x.1) i).map fun n=>((n:Nat):Int)).contains x.2
def brAt (v:Pl) (i:Nat):Bool:=match v[i]? with
 | none=>true
 | some x=>isQ x.1 || x.2 == pendF v i []
def visP (v:Pl):Bool:=allP (visAt v) v.length
def brP (v:Pl):Bool:=allP (brAt v) v.length
def legalP (v:Pl):Bool:=visP v && brP v
theorem visAt_at {v:Pl} {i:Nat} {m:Bs} {z:Int} (h:v[i]? = some (m,z)) (hi:0<i):visAt v i=((viewP v (byOpp m) i).map fun n=>((n:Nat):Int)).contains z:=by
 unfold visAt;rw [if_neg (by omega),h]
theorem brAt_at {v:Pl} {i:Nat} {m:Bs} {z:Int} (h:v[i]? = some (m,z)):brAt v i=(isQ m || z == pendF v i []):=by
 unfold brAt;rw [h]
theorem viewD_len (v:Pl) (opp:Bool):∀ f n,(viewD v opp f n).length<=f
 | 0,_=>by simp [viewD]
 | f+1,0=>by rw [viewD_zero];simp
 | f+1,n+1=>by rw [viewD_succ,List.length_cons];have:=viewD_len v opp f (backTo v opp n);omega
theorem viewP_len (v:Pl) (opp:Bool) (n:Nat):(viewP v opp n).length<=n:=by
 unfold viewP;rw [List.length_reverse];exact viewD_len v opp n n
theorem contains_view {w:World} {ns:List Nat} {x:Value} (h:NatAt w ns x) (hl:ns.length<=1000000) (z:Int) :
 Calls Tryz.prog 170 #[x,.int .i64 z] w fun en w'=>en=.returned (.bool ((ns.map fun n=>((n:Nat):Int)).contains z))/\w'=w:=by
 obtain ⟨b,o,c,rfl,hb,hc⟩:=h
 refine (Tryz.slices_Contains_int b o ns.length c (ns.map fun n=>((n:Nat):Int)) z w (by simp) (by omega) (fun j hj=>?_)).mono ?_
 ·rw [List.length_map] at hj
  rw [hc j ns[j] (List.getElem?_eq_getElem hj),List.getD_eq_getElem?_getD,List.getElem?_map,List.getElem?_eq_getElem hj];rfl
 ·rintro en w' ⟨rfl,e⟩
  exact ⟨by rw [List.take_of_length_le (by simp)],e⟩
structure PlIn (F:Nat->Prop) (t:Ty) (v:Pl) (mv pt:Value) (w:World):Prop where
 m:MvRep F w v mv
 p:PtRep F w v pt
 ok:validPl t v=true
 l:∀ x∈v,x.1.length<=16777216
theorem PlIn.below {F:Nat->Prop} {t:Ty} {v:Pl} {mv pt:Value} {w w':World} (h:PlIn F t v mv pt w) (hb:Below w.heap.size w w'):PlIn F t v mv pt w':=⟨Rep.below hb (fun _ h=>h) h.m,Rep.below hb (fun _ h=>h) h.p,h.ok,h.l⟩
set_option maxRecDepth 100000 in
theorem visible_any (F:Nat->Prop) (t:Ty) (v:Pl) (mv pt:Value) (w:World) (h:PlIn F t v mv pt w) :
 Calls Tryz.prog 124 #[.agg #[mv,pt]] w fun en w'=>en=.returned (.bool (visP v))/\Below w.heap.size w w':=by
 have h60:=valid_len h.ok
 obtain ⟨ma,mc,rfl,hmc⟩:=h.m.cells
 obtain ⟨pa,pc,rfl,hpc⟩:=h.p.cells
 obtain ⟨W,hW,hbW,hz,b0⟩:=box_1 w (.cells #[.slice ma v.length mc,.slice pa v.length pc] 33)
 obtain ⟨c0,c1,_,_⟩:=cells_2 b0
 have HH:=Lib.hid (And.intro hmc (And.intro hpc (And.intro hbW (h.below hbW))))
 have HW:=Lib.hid hW
 clear h hmc hpc hz b0 hbW hW
 go_enter Tryz.func124,Tryz.ntmps124
 go_upto_region 1 with (fail)
 rw [HW.out]
 go_wp2_with fail
 go_loopw [3] (fun i wr=>∃ (wz:World) (k:Nat),wz=wr/\1<=k/\k<=v.length+1/\i=.int .i64 k/\allP (visAt v) k=true/\Below W.heap.size W wz) (fun i _=>v.length+1-(intOf i).toNat)
 case atStart=>exact ⟨_,1,rfl,Nat.le_refl _,by omega,rfl,rfl,Below.refl _ _⟩
 case round =>
  obtain ⟨wr,k,rfl,hk1,hk,rfl,hall,hB⟩:=hrel
  have d0:=(hB.cell (World.block_lt_of_cell? _ _ c0)).trans c0
  have d1:=(hB.cell (World.block_lt_of_cell? _ _ c1)).trans c1
  clear c0 c1
  have HB:=Lib.hid (And.intro hB (zzT HH.out.2.2.1 hB))
  clear hB
  by_cases hlt:k<v.length
  ·have hltI:(k:Int)<(v.length:Int):=by omega
   obtain ⟨x,p,z,hvk,hok⟩:=valid_at HH.out.2.2.2.ok hlt
   have hpl:=HH.out.2.2.2.l _ (List.mem_of_getElem? hvk)
   rw [List.length_cons] at hpl
   obtain ⟨mb,mo,rfl,_,hmb,hmk⟩:=HH.out.1 k _ hvk
   obtain ⟨pb,po,rfl,_,hpb,hpk⟩:=HH.out.2.1 k _ hvk
   have m0:=(HB.out.2.cell (p:=⟨mb,mo+k,none⟩) hmb).trans hmk
   have p0:=(HB.out.2.cell (p:=⟨pb,po+k,none⟩) hpb).trans hpk
   have PLR:=Lib.hid (fun (y:World) (hy:Below wr.heap.size wr y)=>(HH.out.2.2.2.below HB.out.1).below hy)
   have VK:=visAt_at hvk (by omega)
   have CB:=Lib.hid (byOpponent_any x p (show p.length<=16777216 by omega))
   obtain ⟨bo,hbo⟩:=zzN (byOpp (x::p))
   rw [hbo] at VK CB
   obtain ⟨cn,hcn⟩:=zzN (visAt v k)
   rw [hcn] at VK
   have CV:=Lib.hid (fun (y:World) (hy:Below wr.heap.size wr y)=>view_any F t v bo k _ _ y (PLR.out y hy).m (PLR.out y hy).p HH.out.2.2.2.ok (by omega) (by omega) HH.out.2.2.2.l)
   have HV:=Lib.hid (And.intro VK (And.intro hcn (And.intro hall hlt)))
   have KEY:=Lib.hid (fun (y:World) (hy:Below wr.heap.size wr y)=>(show y.cell? ⟨w.heap.size,0,none⟩=some (.slice (some ⟨mb,mo,none⟩) v.length mc)/\y.cell? ⟨w.heap.size,1,none⟩=some (.slice (some ⟨pb,po,none⟩) v.length pc)/\y.cell? ⟨mb,mo+k,none⟩=some (str (x::p))/\y.cell? ⟨pb,po+k,none⟩=some (.int .i64 z) from
    ⟨(hy.cell (World.block_lt_of_cell? _ _ d0)).trans d0,(hy.cell (World.block_lt_of_cell? _ _ d1)).trans d1,(hy.cell (World.block_lt_of_cell? _ _ m0)).trans m0,(hy.cell (World.block_lt_of_cell? _ _ p0)).trans p0⟩))
   clear hvk hok hpl hmb hmk hpb hpk hbo hcn VK hall
   go_upto_region 4 with (fail)
   clear d0 d1 m0 p0
   refine wp_region_noPanic ?_
   refine wp_region_S (fun w'=>Below wr.heap.size wr w') (fun _=>false) (by kernel_rfl) ?_
   have hSd:(fun w'=>Below wr.heap.size wr w') wr.drew:=Below.drew (Below.refl _ _)
   refine wpAnyS_take 0 (v:=?_) (by kernel_rfl) (by kernel_rfl) (by kernel_rfl) (by kernel_rfl) (fun _ _ _ _ h=>h) hSd ?_ ?_
   rotate_left
   ·(intro oi ho;simp at ho;subst ho;refine Or.inl ⟨by rfl,fun w' hw'=>?_⟩;have e0:=(KEY.out w' hw').1;have e1:=(KEY.out w' hw').2.1;go_simp;try with_reducible rfl)
   (intro d hd;simp at hd;subst hd;simp only [Act.put,List.setIfInBounds_toArray,List.set_cons_zero,List.set_cons_succ])
   refine wpAnyS_take 1 (v:=?_) (by kernel_rfl) (by kernel_rfl) (by kernel_rfl) (by kernel_rfl) (fun _ _ _ _ h=>h) hSd ?_ ?_
   rotate_left
   ·(intro oi ho;simp at ho;subst ho;refine Or.inl ⟨by rfl,fun w' hw'=>?_⟩;go_simp;try with_reducible rfl)
   (intro d hd;simp at hd;subst hd;simp only [Act.put,List.setIfInBounds_toArray,List.set_cons_zero,List.set_cons_succ])
   refine wpAnyS_take 2 (v:=?_) (by kernel_rfl) (by kernel_rfl) (by kernel_rfl) (by kernel_rfl) (fun _ _ _ _ h=>h) hSd ?_ ?_
   rotate_left
   ·(intro oi ho;simp at ho;subst ho;refine Or.inl ⟨by rfl,fun w' hw'=>?_⟩;go_simp;try with_reducible rfl)
   (intro d hd;simp at hd;subst hd;simp only [Act.put,List.setIfInBounds_toArray,List.set_cons_zero,List.set_cons_succ])
   refine wpAnyS_take 3 (v:=?_) (by kernel_rfl) (by kernel_rfl) (by kernel_rfl) (by kernel_rfl) (fun _ _ _ _ h=>h) hSd ?_ ?_
   rotate_left
   ·(intro oi ho;simp at ho;subst ho;refine Or.inl ⟨by rfl,fun w' hw'=>?_⟩;have e0:=(KEY.out w' hw').1;go_simp;try with_reducible rfl)
   (intro d hd;simp at hd;subst hd;simp only [Act.put,List.setIfInBounds_toArray,List.set_cons_zero,List.set_cons_succ])
   refine wpAnyS_take 4 (v:=?_) (by kernel_rfl) (by kernel_rfl) (by kernel_rfl) (by kernel_rfl) (fun _ _ _ _ h=>h) hSd ?_ ?_
   rotate_left
   ·(intro oi ho;simp at ho;subst ho;refine Or.inl ⟨by rfl,fun w' hw'=>?_⟩;go_simp;try with_reducible rfl)
   (intro d hd;simp at hd;subst hd;simp only [Act.put,List.setIfInBounds_toArray,List.set_cons_zero,List.set_cons_succ])
   refine wpAnyS_take 5 (v:=?_) (by kernel_rfl) (by kernel_rfl) (by kernel_rfl) (by kernel_rfl) (fun _ _ _ _ h=>h) hSd ?_ ?_
   rotate_left
   ·(intro oi ho;simp at ho;subst ho;refine Or.inl ⟨by rfl,fun w' hw'=>?_⟩;go_simp;try with_reducible rfl)
   (intro d hd;simp at hd;subst hd;simp only [Act.put,List.setIfInBounds_toArray,List.set_cons_zero,List.set_cons_succ])
   refine wpAnyS_take 6 (v:=?_) (by kernel_rfl) (by kernel_rfl) (by kernel_rfl) (by kernel_rfl) (fun _ _ _ _ h=>h) hSd ?_ ?_
   rotate_left
   ·(intro oi ho;simp at ho;subst ho;refine Or.inl ⟨by rfl,fun w' hw'=>?_⟩;have e0:=(KEY.out w' hw').2.2.1;go_simp;try with_reducible rfl)
   (intro d hd;simp at hd;subst hd;simp only [Act.put,List.setIfInBounds_toArray,List.set_cons_zero,List.set_cons_succ])
   refine wpAnyS_take 9 (v:=?_) (by kernel_rfl) (by kernel_rfl) (by kernel_rfl) (by kernel_rfl) (fun _ _ _ _ h=>h) hSd ?_ ?_
   rotate_left
   ·(intro oi ho;simp at ho;subst ho;refine Or.inl ⟨by rfl,fun w' hw'=>?_⟩;go_simp;try with_reducible rfl)
   (intro d hd;simp at hd;subst hd;simp only [Act.put,List.setIfInBounds_toArray,List.set_cons_zero,List.set_cons_succ])
   refine wpAnyS_take 10 (v:=?_) (by kernel_rfl) (by kernel_rfl) (by kernel_rfl) (by kernel_rfl) (fun _ _ _ _ h=>h) hSd ?_ ?_
   rotate_left
   ·(intro oi ho;simp at ho;subst ho;refine Or.inl ⟨by rfl,fun w' hw'=>?_⟩;have e0:=(KEY.out w' hw').2.1;go_simp;try with_reducible rfl)
   (intro d hd;simp at hd;subst hd;simp only [Act.put,List.setIfInBounds_toArray,List.set_cons_zero,List.set_cons_succ])
   refine wpAnyS_take 11 (v:=?_) (by kernel_rfl) (by kernel_rfl) (by kernel_rfl) (by kernel_rfl) (fun _ _ _ _ h=>h) hSd ?_ ?_
   rotate_left
   ·(intro oi ho;simp at ho;subst ho;refine Or.inl ⟨by rfl,fun w' hw'=>?_⟩;go_simp;try with_reducible rfl)
   (intro d hd;simp at hd;subst hd;simp only [Act.put,List.setIfInBounds_toArray,List.set_cons_zero,List.set_cons_succ])
   refine wpAnyS_take 12 (v:=?_) (by kernel_rfl) (by kernel_rfl) (by kernel_rfl) (by kernel_rfl) (fun _ _ _ _ h=>h) hSd ?_ ?_
   rotate_left
   ·(intro oi ho;simp at ho;subst ho;refine Or.inl ⟨by rfl,fun w' hw'=>?_⟩;go_simp;try with_reducible rfl)
   (intro d hd;simp at hd;subst hd;simp only [Act.put,List.setIfInBounds_toArray,List.set_cons_zero,List.set_cons_succ])
   refine wpAnyS_take 13 (v:=?_) (by kernel_rfl) (by kernel_rfl) (by kernel_rfl) (by kernel_rfl) (fun _ _ _ _ h=>h) hSd ?_ ?_
   rotate_left
   ·(intro oi ho;simp at ho;subst ho;refine Or.inl ⟨by rfl,fun w' hw'=>?_⟩;have e0:=(KEY.out w' hw').2.2.2;go_simp;try with_reducible rfl)
   (intro d hd;simp at hd;subst hd;simp only [Act.put,List.setIfInBounds_toArray,List.set_cons_zero,List.set_cons_succ])
   refine wpAnyS_one 7 (by kernel_rfl) ?_
   (intro o7 ho K' hK;simp at ho;subst ho)
   go_simp
   go_at_call 141
   (with_reducible refine (CB.out _).mono ?_)
   rintro en x7 ⟨rfl,e⟩
   subst x7
   refine hK.out _ _ ?_ ?_
   ·exact fun _=>hSd
   clear hK K'
   (try simp only [Act.put,List.setIfInBounds_toArray,List.set_cons_zero,List.set_cons_succ])
   refine wpAnyS_one 8 (by kernel_rfl) ?_
   (intro o8 ho K' hK;simp at ho;subst ho)
   go_simp
   go_at_call 87
   (with_reducible refine (CV.out _ hSd).mono ?_)
   rintro en x8 ⟨xv,rfl,hb8,hn8⟩
   have hB8:Below wr.heap.size wr x8:=zzT hSd hb8
   have CC:=contains_view hn8 (by have:=viewP_len v bo k;omega) z
   rw [<- HV.out.1] at CC
   refine hK.out _ _ ?_ ?_
   ·exact fun _=>hB8
   clear hK K'
   (try simp only [Act.put,List.setIfInBounds_toArray,List.set_cons_zero,List.set_cons_succ])
   refine wpAnyS_one 14 (by kernel_rfl) ?_
   (intro o14 ho K' hK;simp at ho;subst ho)
   go_simp
   go_at_call 170
   (with_reducible refine CC.mono ?_)
   rintro en x14 ⟨rfl,e⟩
   subst x14
   clear CC
   refine hK.out _ _ ?_ ?_
   ·exact fun _=>hB8
   clear hK K'
   (try simp only [Act.put,List.setIfInBounds_toArray,List.set_cons_zero,List.set_cons_succ])
   have hS14:=hB8
   refine wpAnyS_take 15 (v:=?_) (by kernel_rfl) (by kernel_rfl) (by kernel_rfl) (by kernel_rfl) (fun _ _ _ _ h=>h) hS14 ?_ ?_
   rotate_left
   ·(intro oi ho;simp at ho;subst ho;refine Or.inl ⟨by rfl,fun w' hw'=>?_⟩;go_simp;try with_reducible rfl)
   (intro d hd;simp at hd;subst hd;simp only [Act.put,List.setIfInBounds_toArray,List.set_cons_zero,List.set_cons_succ])
   refine wpAnyS_done (by kernel_rfl) (NoPanic.normal ?_) _
   have HB8:=Lib.hid hB8
   clear hB8 hb8 hn8 hSd hS14 KEY CV CB PLR
   cases cn with
   | true =>
     have E:=Lib.hid (show allP (visAt v) (k+1)=true by rw [allP,HV.out.2.2.1,HV.out.2.1];rfl)
     go_wp2_with fail
     go_roundw
     case rel=>exact ⟨_,k+1,rfl,by omega,by omega,by go_num,E.out,zzT HB.out.1 HB8.out⟩
     case measure=>simp [intOf];omega
   | false =>
     have E:=Lib.hid (show visP v=false from allP_no HV.out.2.1 HV.out.2.2.2)
     go_wp2_with fail
     go_ret
     exact ⟨by rw [E.out];rfl,zzT HB.out.2 HB8.out⟩
  ·have E:=Lib.hid (show visP v=true from allP_le hall (by omega))
   have hltI:¬ (k:Int)<(v.length:Int):=by omega
   clear hall
   go_wp2_with fail
   go_ret
   exact ⟨by rw [E.out];rfl,HB.out.2⟩
set_option maxRecDepth 100000 in
theorem bracketed_any (F:Nat->Prop) (t:Ty) (v:Pl) (mv pt:Value) (w:World) (h:PlIn F t v mv pt w) :
 Calls Tryz.prog 125 #[.agg #[mv,pt]] w fun en w'=>en=.returned (.bool (brP v))/\Below w.heap.size w w':=by
 have h60:=valid_len h.ok
 obtain ⟨ma,mc,rfl,hmc⟩:=h.m.cells
 obtain ⟨pa,pc,rfl,hpc⟩:=h.p.cells
 obtain ⟨W,hW,hbW,hz,b0⟩:=box_1 w (.cells #[.slice ma v.length mc,.slice pa v.length pc] 33)
 obtain ⟨c0,c1,_,_⟩:=cells_2 b0
 have HH:=Lib.hid (And.intro hmc (And.intro hpc (And.intro hbW (h.below hbW))))
 have HW:=Lib.hid hW
 clear h hmc hpc hz b0 hbW hW
 go_enter Tryz.func125,Tryz.ntmps125
 go_upto_region 1 with (fail)
 rw [HW.out]
 go_wp2_with fail
 go_loopw [8] (fun i wr=>∃ (wz:World) (k:Nat),wz=wr/\k<=v.length/\i=.int .i64 k/\allP (brAt v) k=true/\Below W.heap.size W wz) (fun i _=>v.length-(intOf i).toNat)
 case atStart=>exact ⟨_,0,rfl,Nat.zero_le _,rfl,rfl,Below.refl _ _⟩
 case round =>
  obtain ⟨wr,k,rfl,hk,rfl,hall,hB⟩:=hrel
  have d0:=(hB.cell (World.block_lt_of_cell? _ _ c0)).trans c0
  have d1:=(hB.cell (World.block_lt_of_cell? _ _ c1)).trans c1
  clear c0 c1
  have HB:=Lib.hid (And.intro hB (zzT HH.out.2.2.1 hB))
  clear hB
  by_cases hlt:k<v.length
  ·have hltI:(k:Int)<(v.length:Int):=by omega
   obtain ⟨x,p,z,hvk,hok⟩:=valid_at HH.out.2.2.2.ok hlt
   obtain ⟨mb,mo,rfl,_,hmb,hmk⟩:=HH.out.1 k _ hvk
   obtain ⟨pb,po,rfl,_,hpb,hpk⟩:=HH.out.2.1 k _ hvk
   have m0:=(HB.out.2.cell (p:=⟨mb,mo+k,none⟩) hmb).trans hmk
   have p0:=(HB.out.2.cell (p:=⟨pb,po+k,none⟩) hpb).trans hpk
   have PLR:=Lib.hid (fun (y:World) (hy:Below wr.heap.size wr y)=>(HH.out.2.2.2.below HB.out.1).below hy)
   have VK:=brAt_at hvk
   have CB:=Lib.hid (isQuestion_any x p)
   obtain ⟨q,hq⟩:=zzN (isQ (x::p))
   obtain ⟨M,hM⟩:=zzM (x::p)
   obtain ⟨cn,hcn⟩:=zzN (brAt v k)
   rw [hq] at VK CB
   rw [hcn] at VK
   rw [<- hM] at m0 CB
   have CV:=Lib.hid (fun (y:World) (hy:Below wr.heap.size wr y)=>pending_any F t v k _ _ y (PLR.out y hy).m (PLR.out y hy).p HH.out.2.2.2.ok (by omega))
   have KEY:=Lib.hid (fun (y:World) (hy:Below wr.heap.size wr y)=>(show y.cell? ⟨w.heap.size,0,none⟩=some (.slice (some ⟨mb,mo,none⟩) v.length mc)/\y.cell? ⟨w.heap.size,1,none⟩=some (.slice (some ⟨pb,po,none⟩) v.length pc)/\y.cell? ⟨pb,po+k,none⟩=some (.int .i64 z) from
    ⟨(hy.cell (World.block_lt_of_cell? _ _ d0)).trans d0,(hy.cell (World.block_lt_of_cell? _ _ d1)).trans d1,(hy.cell (World.block_lt_of_cell? _ _ p0)).trans p0⟩))
   have HV:=Lib.hid (And.intro hcn (And.intro hall hlt))
   generalize hpe:pendF v k []=pe at *
   clear hvk hok hmb hmk hpb hpk hq hcn hall hpe hM
   cases q with
   | true =>
     obtain rfl:cn=true:=by rw [VK];rfl
     clear VK
     go_upto_region 4 with (fail)
     clear d0 d1 m0 p0
     refine wp_region_noPanic ?_
     refine wp_region_S (fun w'=>Below wr.heap.size wr w') (fun _=>false) (by kernel_rfl) ?_
     have hSd:(fun w'=>Below wr.heap.size wr w') wr.drew:=Below.drew (Below.refl _ _)
     refine wpAnyS_take 0 (v:=?_) (by kernel_rfl) (by kernel_rfl) (by kernel_rfl) (by kernel_rfl) (fun _ _ _ _ h=>h) hSd ?_ ?_
     rotate_left
     ·(intro oi ho;simp at ho;subst ho;refine Or.inl ⟨by rfl,fun w' hw'=>?_⟩;go_simp;try with_reducible rfl)
     (intro d hd;simp at hd;subst hd;simp only [Act.put,List.setIfInBounds_toArray,List.set_cons_zero,List.set_cons_succ])
     refine wpAnyS_one 1 (by kernel_rfl) ?_
     (intro o1 ho K' hK;simp at ho;subst ho)
     go_simp
     go_at_call 171
     (with_reducible refine (CB.out _).mono ?_)
     rintro en x1 ⟨rfl,e⟩
     subst x1
     refine hK.out _ _ ?_ ?_
     ·exact fun _=>hSd
     clear hK K'
     (try simp only [Act.put,List.setIfInBounds_toArray,List.set_cons_zero,List.set_cons_succ])
     refine wpAnyS_take 2 (v:=?_) (by kernel_rfl) (by kernel_rfl) (by kernel_rfl) (by kernel_rfl) (fun _ _ _ _ h=>h) hSd ?_ ?_
     rotate_left
     ·(intro oi ho;simp at ho;subst ho;refine Or.inl ⟨by rfl,fun w' hw'=>?_⟩;go_simp;try with_reducible rfl)
     (intro d hd;simp at hd;subst hd;simp only [Act.put,List.setIfInBounds_toArray,List.set_cons_zero,List.set_cons_succ])
     refine wpAnyS_take 3 (v:=?_) (by kernel_rfl) (by kernel_rfl) (by kernel_rfl) (by kernel_rfl) (fun _ _ _ _ h=>h) hSd ?_ ?_
     rotate_left
     ·(intro oi ho;simp at ho;subst ho;refine Or.inl ⟨by rfl,fun w' hw'=>?_⟩;go_simp;try with_reducible rfl)
     (intro d hd;simp at hd;subst hd;simp only [Act.put,List.setIfInBounds_toArray,List.set_cons_zero,List.set_cons_succ])
     refine wpAnyS_take 4 (v:=undef) (by kernel_rfl) (by kernel_rfl) (by kernel_rfl) (by kernel_rfl) (fun _ _ _ _ h=>h) hSd (fun oi ho=>by simp at ho;subst ho;exact Or.inr ⟨by rfl,rfl⟩) ?_
     (intro d hd;simp at hd;subst hd;simp only [Act.put,List.setIfInBounds_toArray,List.set_cons_zero,List.set_cons_succ])
     refine wpAnyS_take 5 (v:=undef) (by kernel_rfl) (by kernel_rfl) (by kernel_rfl) (by kernel_rfl) (fun _ _ _ _ h=>h) hSd (fun oi ho=>by simp at ho;subst ho;exact Or.inr ⟨by rfl,rfl⟩) ?_
     (intro d hd;simp at hd;subst hd;simp only [Act.put,List.setIfInBounds_toArray,List.set_cons_zero,List.set_cons_succ])
     refine wpAnyS_take 6 (v:=undef) (by kernel_rfl) (by kernel_rfl) (by kernel_rfl) (by kernel_rfl) (fun _ _ _ _ h=>h) hSd (fun oi ho=>by simp at ho;subst ho;exact Or.inr ⟨by rfl,rfl⟩) ?_
     (intro d hd;simp at hd;subst hd;simp only [Act.put,List.setIfInBounds_toArray,List.set_cons_zero,List.set_cons_succ])
     refine wpAnyS_take 7 (v:=undef) (by kernel_rfl) (by kernel_rfl) (by kernel_rfl) (by kernel_rfl) (fun _ _ _ _ h=>h) hSd (fun oi ho=>by simp at ho;subst ho;exact Or.inr ⟨by rfl,rfl⟩) ?_
     (intro d hd;simp at hd;subst hd;simp only [Act.put,List.setIfInBounds_toArray,List.set_cons_zero,List.set_cons_succ])
     refine wpAnyS_take 8 (v:=undef) (by kernel_rfl) (by kernel_rfl) (by kernel_rfl) (by kernel_rfl) (fun _ _ _ _ h=>h) hSd (fun oi ho=>by simp at ho;subst ho;exact Or.inr ⟨by rfl,rfl⟩) ?_
     (intro d hd;simp at hd;subst hd;simp only [Act.put,List.setIfInBounds_toArray,List.set_cons_zero,List.set_cons_succ])
     refine wpAnyS_take 9 (v:=undef) (by kernel_rfl) (by kernel_rfl) (by kernel_rfl) (by kernel_rfl) (fun _ _ _ _ h=>h) hSd (fun oi ho=>by simp at ho;subst ho;exact Or.inr ⟨by rfl,rfl⟩) ?_
     (intro d hd;simp at hd;subst hd;simp only [Act.put,List.setIfInBounds_toArray,List.set_cons_zero,List.set_cons_succ])
     refine wpAnyS_take 10 (v:=undef) (by kernel_rfl) (by kernel_rfl) (by kernel_rfl) (by kernel_rfl) (fun _ _ _ _ h=>h) hSd (fun oi ho=>by simp at ho;subst ho;exact Or.inr ⟨by rfl,rfl⟩) ?_
     (intro d hd;simp at hd;subst hd;simp only [Act.put,List.setIfInBounds_toArray,List.set_cons_zero,List.set_cons_succ])
     refine wpAnyS_take 11 (v:=undef) (by kernel_rfl) (by kernel_rfl) (by kernel_rfl) (by kernel_rfl) (fun _ _ _ _ h=>h) hSd (fun oi ho=>by simp at ho;subst ho;exact Or.inr ⟨by rfl,rfl⟩) ?_
     (intro d hd;simp at hd;subst hd;simp only [Act.put,List.setIfInBounds_toArray,List.set_cons_zero,List.set_cons_succ])
     refine wpAnyS_take 12 (v:=undef) (by kernel_rfl) (by kernel_rfl) (by kernel_rfl) (by kernel_rfl) (fun _ _ _ _ h=>h) hSd (fun oi ho=>by simp at ho;subst ho;exact Or.inr ⟨by rfl,rfl⟩) ?_
     (intro d hd;simp at hd;subst hd;simp only [Act.put,List.setIfInBounds_toArray,List.set_cons_zero,List.set_cons_succ])
     refine wpAnyS_take 13 (v:=?_) (by kernel_rfl) (by kernel_rfl) (by kernel_rfl) (by kernel_rfl) (fun _ _ _ _ h=>h) hSd ?_ ?_
     rotate_left
     ·(intro oi ho;simp at ho;subst ho;refine Or.inl ⟨by rfl,fun w' hw'=>?_⟩;go_simp;try with_reducible rfl)
     (intro d hd;simp at hd;subst hd;simp only [Act.put,List.setIfInBounds_toArray,List.set_cons_zero,List.set_cons_succ])
     refine wpAnyS_done (by kernel_rfl) (NoPanic.normal ?_) _
     have E:=Lib.hid (show allP (brAt v) (k+1)=true by rw [allP,HV.out.2.1,HV.out.1];rfl)
     clear KEY CV CB PLR hSd
     go_wp2_with fail
     go_roundw
     case rel=>exact ⟨_,k+1,rfl,by omega,by go_num,E.out,HB.out.1.drew⟩
     case measure=>simp [intOf];omega
   | false =>
     rw [Bool.false_or] at VK
     go_upto_region 4 with (fail)
     clear d0 d1 m0 p0
     refine wp_region_noPanic ?_
     refine wp_region_S (fun w'=>Below wr.heap.size wr w') (fun _=>false) (by kernel_rfl) ?_
     have hSd:(fun w'=>Below wr.heap.size wr w') wr.drew:=Below.drew (Below.refl _ _)
     refine wpAnyS_take 0 (v:=?_) (by kernel_rfl) (by kernel_rfl) (by kernel_rfl) (by kernel_rfl) (fun _ _ _ _ h=>h) hSd ?_ ?_
     rotate_left
     ·(intro oi ho;simp at ho;subst ho;refine Or.inl ⟨by rfl,fun w' hw'=>?_⟩;go_simp;try with_reducible rfl)
     (intro d hd;simp at hd;subst hd;simp only [Act.put,List.setIfInBounds_toArray,List.set_cons_zero,List.set_cons_succ])
     refine wpAnyS_one 1 (by kernel_rfl) ?_
     (intro o1 ho K' hK;simp at ho;subst ho)
     go_simp
     go_at_call 171
     (with_reducible refine (CB.out _).mono ?_)
     rintro en x1 ⟨rfl,e⟩
     subst x1
     refine hK.out _ _ ?_ ?_
     ·exact fun _=>hSd
     clear hK K'
     (try simp only [Act.put,List.setIfInBounds_toArray,List.set_cons_zero,List.set_cons_succ])
     refine wpAnyS_take 2 (v:=?_) (by kernel_rfl) (by kernel_rfl) (by kernel_rfl) (by kernel_rfl) (fun _ _ _ _ h=>h) hSd ?_ ?_
     rotate_left
     ·(intro oi ho;simp at ho;subst ho;refine Or.inl ⟨by rfl,fun w' hw'=>?_⟩;go_simp;try with_reducible rfl)
     (intro d hd;simp at hd;subst hd;simp only [Act.put,List.setIfInBounds_toArray,List.set_cons_zero,List.set_cons_succ])
     refine wpAnyS_take 3 (v:=?_) (by kernel_rfl) (by kernel_rfl) (by kernel_rfl) (by kernel_rfl) (fun _ _ _ _ h=>h) hSd ?_ ?_
     rotate_left
     ·(intro oi ho;simp at ho;subst ho;refine Or.inl ⟨by rfl,fun w' hw'=>?_⟩;go_simp;try with_reducible rfl)
     (intro d hd;simp at hd;subst hd;simp only [Act.put,List.setIfInBounds_toArray,List.set_cons_zero,List.set_cons_succ])
     refine wpAnyS_take 4 (v:=?_) (by kernel_rfl) (by kernel_rfl) (by kernel_rfl) (by kernel_rfl) (fun _ _ _ _ h=>h) hSd ?_ ?_
     rotate_left
     ·(intro oi ho;simp at ho;subst ho;refine Or.inl ⟨by rfl,fun w' hw'=>?_⟩;go_simp;try with_reducible rfl)
     (intro d hd;simp at hd;subst hd;simp only [Act.put,List.setIfInBounds_toArray,List.set_cons_zero,List.set_cons_succ])
     refine wpAnyS_take 5 (v:=?_) (by kernel_rfl) (by kernel_rfl) (by kernel_rfl) (by kernel_rfl) (fun _ _ _ _ h=>h) hSd ?_ ?_
     rotate_left
     ·(intro oi ho;simp at ho;subst ho;refine Or.inl ⟨by rfl,fun w' hw'=>?_⟩;have e0:=(KEY.out w' hw').2.1;go_simp;try with_reducible rfl)
     (intro d hd;simp at hd;subst hd;simp only [Act.put,List.setIfInBounds_toArray,List.set_cons_zero,List.set_cons_succ])
     refine wpAnyS_take 6 (v:=?_) (by kernel_rfl) (by kernel_rfl) (by kernel_rfl) (by kernel_rfl) (fun _ _ _ _ h=>h) hSd ?_ ?_
     rotate_left
     ·(intro oi ho;simp at ho;subst ho;refine Or.inl ⟨by rfl,fun w' hw'=>?_⟩;go_simp;try with_reducible rfl)
     (intro d hd;simp at hd;subst hd;simp only [Act.put,List.setIfInBounds_toArray,List.set_cons_zero,List.set_cons_succ])
     refine wpAnyS_take 7 (v:=?_) (by kernel_rfl) (by kernel_rfl) (by kernel_rfl) (by kernel_rfl) (fun _ _ _ _ h=>h) hSd ?_ ?_
     rotate_left
     ·(intro oi ho;simp at ho;subst ho;refine Or.inl ⟨by rfl,fun w' hw'=>?_⟩;go_simp;try with_reducible rfl)
     (intro d hd;simp at hd;subst hd;simp only [Act.put,List.setIfInBounds_toArray,List.set_cons_zero,List.set_cons_succ])
     refine wpAnyS_take 8 (v:=?_) (by kernel_rfl) (by kernel_rfl) (by kernel_rfl) (by kernel_rfl) (fun _ _ _ _ h=>h) hSd ?_ ?_
     rotate_left
     ·(intro oi ho;simp at ho;subst ho;refine Or.inl ⟨by rfl,fun w' hw'=>?_⟩;have e0:=(KEY.out w' hw').2.2;go_simp;try with_reducible rfl)
     (intro d hd;simp at hd;subst hd;simp only [Act.put,List.setIfInBounds_toArray,List.set_cons_zero,List.set_cons_succ])
     refine wpAnyS_take 9 (v:=?_) (by kernel_rfl) (by kernel_rfl) (by kernel_rfl) (by kernel_rfl) (fun _ _ _ _ h=>h) hSd ?_ ?_
     rotate_left
     ·(intro oi ho;simp at ho;subst ho;refine Or.inl ⟨by rfl,fun w' hw'=>?_⟩;have e0:=(KEY.out w' hw').1;have e1:=(KEY.out w' hw').2.1;go_simp;try with_reducible rfl)
     (intro d hd;simp at hd;subst hd;simp only [Act.put,List.setIfInBounds_toArray,List.set_cons_zero,List.set_cons_succ])
     refine wpAnyS_take 10 (v:=?_) (by kernel_rfl) (by kernel_rfl) (by kernel_rfl) (by kernel_rfl) (fun _ _ _ _ h=>h) hSd ?_ ?_
     rotate_left
     ·(intro oi ho;simp at ho;subst ho;refine Or.inl ⟨by rfl,fun w' hw'=>?_⟩;go_simp;try with_reducible rfl)
     (intro d hd;simp at hd;subst hd;simp only [Act.put,List.setIfInBounds_toArray,List.set_cons_zero,List.set_cons_succ])
     refine wpAnyS_one 11 (by kernel_rfl) ?_
     (intro o11 ho K' hK;simp at ho;subst ho)
     go_simp
     go_at_call 172
     (with_reducible refine (CV.out _ hSd).mono ?_)
     rintro en x11 ⟨rfl,hb11⟩
     have hB8:Below wr.heap.size wr x11:=zzT hSd hb11
     refine hK.out _ _ ?_ ?_
     ·exact fun _=>hB8
     clear hK K'
     (try simp only [Act.put,List.setIfInBounds_toArray,List.set_cons_zero,List.set_cons_succ])
     have hS11:=hB8
     refine wpAnyS_take 12 (v:=?_) (by kernel_rfl) (by kernel_rfl) (by kernel_rfl) (by kernel_rfl) (fun _ _ _ _ h=>h) hS11 ?_ ?_
     rotate_left
     ·(intro oi ho;simp at ho;subst ho;refine Or.inl ⟨by rfl,fun w' hw'=>?_⟩;go_simp;try with_reducible rfl)
     (intro d hd;simp at hd;subst hd;simp only [Act.put,List.setIfInBounds_toArray,List.set_cons_zero,List.set_cons_succ])
     refine wpAnyS_take 13 (v:=?_) (by kernel_rfl) (by kernel_rfl) (by kernel_rfl) (by kernel_rfl) (fun _ _ _ _ h=>h) hS11 ?_ ?_
     rotate_left
     ·(intro oi ho;simp at ho;subst ho;refine Or.inl ⟨by rfl,fun w' hw'=>?_⟩;go_simp;try with_reducible rfl)
     (intro d hd;simp at hd;subst hd;simp only [Act.put,List.setIfInBounds_toArray,List.set_cons_zero,List.set_cons_succ])
     refine wpAnyS_done (by kernel_rfl) (NoPanic.normal ?_) _
     have HB8:=Lib.hid hB8
     clear KEY CV CB PLR hSd hB8 hS11 hb11
     cases cn with
     | true =>
       have hne:(z != pe)=false:=by rw [bne,<- VK];rfl
       clear VK
       have E:=Lib.hid (show allP (brAt v) (k+1)=true by rw [allP,HV.out.2.1,HV.out.1];rfl)
       go_wp2_with fail
       go_roundw
       case rel=>exact ⟨_,k+1,rfl,by omega,by go_num,E.out,zzT HB.out.1 HB8.out⟩
       case measure=>simp [intOf];omega
     | false =>
       have hne:(z != pe)=true:=by rw [bne,<- VK];rfl
       clear VK
       have E:=Lib.hid (show brP v=false from allP_no HV.out.1 HV.out.2.2)
       go_wp2_with fail
       go_ret
       exact ⟨by rw [E.out];rfl,zzT HB.out.2 HB8.out⟩
  ·obtain rfl:k=v.length:=by omega
   have E:=Lib.hid (show brP v=true from hall)
   clear hall
   go_wp2_with fail
   go_ret
   exact ⟨by rw [E.out];rfl,HB.out.2⟩
set_option maxRecDepth 100000 in
theorem legal_any (F:Nat->Prop) (t:Ty) (v:Pl) (mv pt:Value) (w:World) (h:PlIn F t v mv pt w) :
 Calls Tryz.prog 73 #[.agg #[mv,pt]] w fun en w'=>en=.returned (.bool (legalP v))/\Below w.heap.size w w':=by
 obtain ⟨ma,mc,rfl,hmc⟩:=h.m.cells
 obtain ⟨pa,pc,rfl,hpc⟩:=h.p.cells
 obtain ⟨W,hW,hbW,hz,b0⟩:=box_1 w (.cells #[.slice ma v.length mc,.slice pa v.length pc] 33)
 have C1:=Lib.hid (visible_any F t v _ _ W (h.below hbW))
 have C2:=Lib.hid (fun (y:World) (hy:Below W.heap.size W y)=>bracketed_any F t v _ _ y ((h.below hbW).below hy))
 have HL:Hid (legalP v=(visP v && brP v)):=Lib.hid rfl
 have HW:=Lib.hid (And.intro hW (And.intro hbW b0))
 generalize visP v=b1 at *
 generalize brP v=b2 at *
 obtain ⟨c0,c1,_,_⟩:=cells_2 b0
 clear h hmc hpc hz b0 hbW hW
 go_enter Tryz.func73,Tryz.ntmps73
 go_upto_region 1 with (fail)
 rw [HW.out.1]
 go_wp2_with fail
 (with_reducible refine C1.out.mono ?_)
 rintro en w1 ⟨rfl,hb1⟩
 cases b1 with
 | false =>
   have HB:=Lib.hid (zzT HW.out.2.1 hb1)
   clear hb1 c0 c1
   go_wp2_with fail
   go_ret
   exact ⟨by rw [HL.out];rfl,HB.out⟩
 | true =>
   have d0:=(hb1.cell (World.block_lt_of_cell? _ _ c0)).trans c0
   have d1:=(hb1.cell (World.block_lt_of_cell? _ _ c1)).trans c1
   have C2':=Lib.hid (C2.out w1 hb1)
   have HB:=Lib.hid (zzT HW.out.2.1 hb1)
   clear hb1 c0 c1 C2
   go_wp2_with fail
   (with_reducible refine C2'.out.mono ?_)
   rintro en w2 ⟨rfl,hb2⟩
   have HB2:=Lib.hid (zzT HB.out hb2)
   clear hb2
   go_wp2_with fail
   go_ret
   exact ⟨by rw [HL.out,Bool.true_and];rfl,HB2.out⟩
def legalOk (s:Bs) (ms:List Bs) (ps:List Int):Bool:=playOk s ms ps && legalP (ms.zip ps)
theorem playOk_zip {s:Bs} {ms:List Bs} {ps:List Int} (h:playOk s ms ps=true):ps.length=ms.length/\validPl (specType s).1 (ms.zip ps)=true/\atomsT (specType s).1<=15:=by
 unfold playOk validIn at h
 simp only [Bool.and_eq_true,decide_eq_true_eq] at h
 obtain ⟨h1,h2,h3,h4⟩:=h
 refine ⟨h3,?_,(specType_canon h1).2⟩
 unfold validPl
 rw [h4,Bool.and_true]
 simp only [decide_eq_true_eq]
 rw [List.length_zip];omega
theorem plIn_zip {F:Nat->Prop} {s:Bs} {ms:List Bs} {ps:List Int} {mv pt:Value} {w:World} (hm:MsRep F w ms mv) (hp:PsRep F w ps pt) (hl:∀ x∈ms,Lim x.length) (h:playOk s ms ps=true):PlIn F (specType s).1 (ms.zip ps) mv pt w:=by
 obtain ⟨h1,h2,_⟩:=playOk_zip h
 exact ⟨hm.zip h1,hp.zip h1,h2,fun x hx=>(hl _ (List.of_mem_zip hx).1).le⟩
set_option maxRecDepth 100000 in
theorem implPlayLegal_any (F:Nat->Prop) (s:Bs) (mv pt:Value) (ms:List Bs) (ps:List Int) (w:World) (hs:Lim s.length) (hm:MsRep F w ms mv) (hp:PsRep F w ps pt) (hl:∀ x∈ms,Lim x.length) :
 Calls Tryz.prog 27 #[str s,.agg #[mv,pt]] w fun en w'=>en=.returned (.bool (legalOk s ms ps))/\Below w.heap.size w w':=by
 obtain ⟨ma,mc,rfl⟩:=hm.slice
 obtain ⟨pa,pc,rfl⟩:=hp.slice
 obtain ⟨W,hW,hbW,hz,b0⟩:=box_1 w (.cells #[.slice ma ms.length mc,.slice pa ps.length pc] 33)
 obtain ⟨c0,c1,_,_⟩:=cells_2 b0
 have hmW:=hm.below hbW (fun _ h=>h)
 have hpW:=hp.below hbW (fun _ h=>h)
 have C1:=Lib.hid (implPlayValid_any F s _ _ ms ps W hs hmW hpW hl)
 have C2:=Lib.hid (fun (y:World) (hy:Below W.heap.size W y) (h:playOk s ms ps=true)=>legal_any F _ _ _ _ y ((plIn_zip hmW hpW hl h).below hy))
 have HL:Hid (legalOk s ms ps=(playOk s ms ps && legalP (ms.zip ps))):=Lib.hid rfl
 have HW:=Lib.hid (And.intro hW (And.intro hbW b0))
 generalize playOk s ms ps=b1 at *
 generalize legalP (ms.zip ps)=b2 at *
 clear hm hp hz b0 hbW hW hmW hpW hl hs
 go_enter Tryz.func27,Tryz.ntmps27
 go_upto_region 1 with (fail)
 rw [HW.out.1]
 go_wp2_with fail
 (with_reducible refine C1.out.mono ?_)
 rintro en w1 ⟨rfl,hb1⟩
 cases b1 with
 | false =>
   have HB:=Lib.hid (zzT HW.out.2.1 hb1)
   clear hb1 c0 c1
   go_wp2_with fail
   go_ret
   exact ⟨by rw [HL.out];rfl,HB.out⟩
 | true =>
   have d0:=(hb1.cell (World.block_lt_of_cell? _ _ c0)).trans c0
   have d1:=(hb1.cell (World.block_lt_of_cell? _ _ c1)).trans c1
   have C2':=Lib.hid (C2.out w1 hb1 rfl)
   have HB:=Lib.hid (zzT HW.out.2.1 hb1)
   clear hb1 c0 c1 C2
   go_wp2_with fail
   (with_reducible refine C2'.out.mono ?_)
   rintro en w2 ⟨rfl,hb2⟩
   have HB2:=Lib.hid (zzT HB.out hb2)
   clear hb2
   go_wp2_with fail
   go_ret
   exact ⟨by rw [HL.out,Bool.true_and];rfl,HB2.out⟩
set_option maxRecDepth 100000 in
theorem l2Visible_any (F:Nat->Prop) (t:Ty) (v:Pl) (mv pt:Value) (w:World) (h:PlIn F t v mv pt w) :
 Calls Tryz.prog 114 #[.agg #[mv,pt]] w fun en w'=>en=.returned (.bool (visP v))/\Below w.heap.size w w':=by
 have h60:=valid_len h.ok
 obtain ⟨ma,mc,rfl,hmc⟩:=h.m.cells
 obtain ⟨pa,pc,rfl,hpc⟩:=h.p.cells
 obtain ⟨W,hW,hbW,hz,b0⟩:=box_1 w (.cells #[.slice ma v.length mc,.slice pa v.length pc] 33)
 obtain ⟨c0,c1,_,_⟩:=cells_2 b0
 have HH:=Lib.hid (And.intro hmc (And.intro hpc (And.intro hbW (h.below hbW))))
 have HW:=Lib.hid hW
 clear h hmc hpc hz b0 hbW hW
 go_enter Tryz.func114,Tryz.ntmps114
 go_upto_region 1 with (fail)
 rw [HW.out]
 go_wp2_with fail
 go_loopw [3] (fun i wr=>∃ (wz:World) (k:Nat),wz=wr/\1<=k/\k<=v.length+1/\i=.int .i64 k/\allP (visAt v) k=true/\Below W.heap.size W wz) (fun i _=>v.length+1-(intOf i).toNat)
 case atStart=>exact ⟨_,1,rfl,Nat.le_refl _,by omega,rfl,rfl,Below.refl _ _⟩
 case round =>
  obtain ⟨wr,k,rfl,hk1,hk,rfl,hall,hB⟩:=hrel
  have d0:=(hB.cell (World.block_lt_of_cell? _ _ c0)).trans c0
  have d1:=(hB.cell (World.block_lt_of_cell? _ _ c1)).trans c1
  clear c0 c1
  have HB:=Lib.hid (And.intro hB (zzT HH.out.2.2.1 hB))
  clear hB
  by_cases hlt:k<v.length
  ·have hltI:(k:Int)<(v.length:Int):=by omega
   obtain ⟨x,p,z,hvk,hok⟩:=valid_at HH.out.2.2.2.ok hlt
   obtain ⟨pb,po,rfl,_,hpb,hpk⟩:=HH.out.2.1 k _ hvk
   have p0:=(HB.out.2.cell (p:=⟨pb,po+k,none⟩) hpb).trans hpk
   have PLR:=Lib.hid (fun (y:World) (hy:Below wr.heap.size wr y)=>(HH.out.2.2.2.below HB.out.1).below hy)
   have VK:=visAt_at hvk (by omega)
   obtain ⟨kk,hkk⟩:=zzM (k % 2)
   have hr:(k:Int).tmod 2=(kk:Int):=by rw [Int.tmod_eq_emod_of_nonneg (by omega)];omega
   have hw:whoI (byOpp (x::p))=kk:=by
    rw [hok.opp,hkk]
    unfold whoI
    rcases Nat.mod_two_eq_zero_or_one k with h | h <;> rw [h] <;> rfl
   obtain ⟨bo,hbo⟩:=zzN (byOpp (x::p))
   rw [hbo] at VK hw
   obtain ⟨cn,hcn⟩:=zzN (visAt v k)
   rw [hcn] at VK
   have CV:=Lib.hid (fun (y:World) (hy:Below wr.heap.size wr y)=>l2View_any F t v bo k _ _ y (PLR.out y hy).m (PLR.out y hy).p HH.out.2.2.2.ok (by omega) (by omega) HH.out.2.2.2.l)
   rw [hw] at CV
   have HV:=Lib.hid (And.intro VK (And.intro hcn (And.intro hall hlt)))
   have KEY:=Lib.hid (fun (y:World) (hy:Below wr.heap.size wr y)=>(show y.cell? ⟨w.heap.size,0,none⟩=some (.slice ma v.length mc)/\y.cell? ⟨w.heap.size,1,none⟩=some (.slice (some ⟨pb,po,none⟩) v.length pc)/\y.cell? ⟨pb,po+k,none⟩=some (.int .i64 z) from
    ⟨(hy.cell (World.block_lt_of_cell? _ _ d0)).trans d0,(hy.cell (World.block_lt_of_cell? _ _ d1)).trans d1,(hy.cell (World.block_lt_of_cell? _ _ p0)).trans p0⟩))
   clear hvk hok hpb hpk hbo hcn VK hall hkk hw
   go_upto_region 4 with (fail)
   clear d0 d1 p0
   refine wp_region_noPanic ?_
   refine wp_region_S (fun w'=>Below wr.heap.size wr w') (fun _=>false) (by kernel_rfl) ?_
   have hSd:(fun w'=>Below wr.heap.size wr w') wr.drew:=Below.drew (Below.refl _ _)
   refine wpAnyS_take 0 (v:=?_) (by kernel_rfl) (by kernel_rfl) (by kernel_rfl) (by kernel_rfl) (fun _ _ _ _ h=>h) hSd ?_ ?_
   rotate_left
   ·(intro oi ho;simp at ho;subst ho;refine Or.inl ⟨by rfl,fun w' hw'=>?_⟩;have e0:=(KEY.out w' hw').1;have e1:=(KEY.out w' hw').2.1;go_simp;try with_reducible rfl)
   (intro d hd;simp at hd;subst hd;simp only [Act.put,List.setIfInBounds_toArray,List.set_cons_zero,List.set_cons_succ])
   refine wpAnyS_take 1 (v:=?_) (by kernel_rfl) (by kernel_rfl) (by kernel_rfl) (by kernel_rfl) (fun _ _ _ _ h=>h) hSd ?_ ?_
   rotate_left
   ·(intro oi ho;simp at ho;subst ho;refine Or.inl ⟨by rfl,fun w' hw'=>?_⟩;go_simp;try with_reducible rfl)
   (intro d hd;simp at hd;subst hd;simp only [Act.put,List.setIfInBounds_toArray,List.set_cons_zero,List.set_cons_succ])
   refine wpAnyS_take 2 (v:=?_) (by kernel_rfl) (by kernel_rfl) (by kernel_rfl) (by kernel_rfl) (fun _ _ _ _ h=>h) hSd ?_ ?_
   rotate_left
   ·(intro oi ho;simp at ho;subst ho;refine Or.inl ⟨by rfl,fun w' hw'=>?_⟩;go_simp;try with_reducible rfl)
   (intro d hd;simp at hd;subst hd;simp only [Act.put,List.setIfInBounds_toArray,List.set_cons_zero,List.set_cons_succ])
   refine wpAnyS_take 3 (v:=?_) (by kernel_rfl) (by kernel_rfl) (by kernel_rfl) (by kernel_rfl) (fun _ _ _ _ h=>h) hSd ?_ ?_
   rotate_left
   ·(intro oi ho;simp at ho;subst ho;refine Or.inl ⟨by rfl,fun w' hw'=>?_⟩;go_simp;try with_reducible rfl)
   (intro d hd;simp at hd;subst hd;simp only [Act.put,List.setIfInBounds_toArray,List.set_cons_zero,List.set_cons_succ])
   refine wpAnyS_take 5 (v:=?_) (by kernel_rfl) (by kernel_rfl) (by kernel_rfl) (by kernel_rfl) (fun _ _ _ _ h=>h) hSd ?_ ?_
   rotate_left
   ·(intro oi ho;simp at ho;subst ho;refine Or.inl ⟨by rfl,fun w' hw'=>?_⟩;go_simp;try with_reducible rfl)
   (intro d hd;simp at hd;subst hd;simp only [Act.put,List.setIfInBounds_toArray,List.set_cons_zero,List.set_cons_succ])
   refine wpAnyS_take 6 (v:=?_) (by kernel_rfl) (by kernel_rfl) (by kernel_rfl) (by kernel_rfl) (fun _ _ _ _ h=>h) hSd ?_ ?_
   rotate_left
   ·(intro oi ho;simp at ho;subst ho;refine Or.inl ⟨by rfl,fun w' hw'=>?_⟩;have e0:=(KEY.out w' hw').2.1;go_simp;try with_reducible rfl)
   (intro d hd;simp at hd;subst hd;simp only [Act.put,List.setIfInBounds_toArray,List.set_cons_zero,List.set_cons_succ])
   refine wpAnyS_take 7 (v:=?_) (by kernel_rfl) (by kernel_rfl) (by kernel_rfl) (by kernel_rfl) (fun _ _ _ _ h=>h) hSd ?_ ?_
   rotate_left
   ·(intro oi ho;simp at ho;subst ho;refine Or.inl ⟨by rfl,fun w' hw'=>?_⟩;go_simp;try with_reducible rfl)
   (intro d hd;simp at hd;subst hd;simp only [Act.put,List.setIfInBounds_toArray,List.set_cons_zero,List.set_cons_succ])
   refine wpAnyS_take 8 (v:=?_) (by kernel_rfl) (by kernel_rfl) (by kernel_rfl) (by kernel_rfl) (fun _ _ _ _ h=>h) hSd ?_ ?_
   rotate_left
   ·(intro oi ho;simp at ho;subst ho;refine Or.inl ⟨by rfl,fun w' hw'=>?_⟩;go_simp;try with_reducible rfl)
   (intro d hd;simp at hd;subst hd;simp only [Act.put,List.setIfInBounds_toArray,List.set_cons_zero,List.set_cons_succ])
   refine wpAnyS_take 9 (v:=?_) (by kernel_rfl) (by kernel_rfl) (by kernel_rfl) (by kernel_rfl) (fun _ _ _ _ h=>h) hSd ?_ ?_
   rotate_left
   ·(intro oi ho;simp at ho;subst ho;refine Or.inl ⟨by rfl,fun w' hw'=>?_⟩;have e0:=(KEY.out w' hw').2.2;go_simp;try with_reducible rfl)
   (intro d hd;simp at hd;subst hd;simp only [Act.put,List.setIfInBounds_toArray,List.set_cons_zero,List.set_cons_succ])
   refine wpAnyS_one 4 (by kernel_rfl) ?_
   (intro o4 ho K' hK;simp at ho;subst ho)
   go_simp
   go_at_call 127
   (with_reducible refine (CV.out _ hSd).mono ?_)
   rintro en x8 ⟨xv,rfl,hb8,hn8⟩
   have hB8:Below wr.heap.size wr x8:=zzT hSd hb8
   have CC:=l2Has_any _ z _ x8 hn8.ints (by rw [List.length_map];have:=viewP_len v bo k;omega)
   rw [<- HV.out.1] at CC
   refine hK.out _ _ ?_ ?_
   ·exact fun _=>hB8
   clear hK K'
   (try simp only [Act.put,List.setIfInBounds_toArray,List.set_cons_zero,List.set_cons_succ])
   refine wpAnyS_one 10 (by kernel_rfl) ?_
   (intro o10 ho K' hK;simp at ho;subst ho)
   go_simp
   go_at_call 129
   (with_reducible refine CC.mono ?_)
   rintro en x14 ⟨rfl,e⟩
   subst x14
   clear CC
   refine hK.out _ _ ?_ ?_
   ·exact fun _=>hB8
   clear hK K'
   (try simp only [Act.put,List.setIfInBounds_toArray,List.set_cons_zero,List.set_cons_succ])
   have hS10:=hB8
   refine wpAnyS_take 11 (v:=?_) (by kernel_rfl) (by kernel_rfl) (by kernel_rfl) (by kernel_rfl) (fun _ _ _ _ h=>h) hS10 ?_ ?_
   rotate_left
   ·(intro oi ho;simp at ho;subst ho;refine Or.inl ⟨by rfl,fun w' hw'=>?_⟩;go_simp;try with_reducible rfl)
   (intro d hd;simp at hd;subst hd;simp only [Act.put,List.setIfInBounds_toArray,List.set_cons_zero,List.set_cons_succ])
   refine wpAnyS_done (by kernel_rfl) (NoPanic.normal ?_) _
   have HB8:=Lib.hid hB8
   clear hB8 hb8 hn8 hSd hS10 KEY CV PLR
   cases cn with
   | true =>
     have E:=Lib.hid (show allP (visAt v) (k+1)=true by rw [allP,HV.out.2.2.1,HV.out.2.1];rfl)
     go_wp2_with fail
     go_roundw
     case rel=>exact ⟨_,k+1,rfl,by omega,by omega,by go_num,E.out,zzT HB.out.1 HB8.out⟩
     case measure=>simp [intOf];omega
   | false =>
     have E:=Lib.hid (show visP v=false from allP_no HV.out.2.1 HV.out.2.2.2)
     go_wp2_with fail
     go_ret
     exact ⟨by rw [E.out];rfl,zzT HB.out.2 HB8.out⟩
  ·have E:=Lib.hid (show visP v=true from allP_le hall (by omega))
   have hltI:¬ (k:Int)<(v.length:Int):=by omega
   clear hall
   go_wp2_with fail
   go_ret
   exact ⟨by rw [E.out];rfl,HB.out.2⟩
set_option maxRecDepth 100000 in
theorem l2Bracketed_any (F:Nat->Prop) (t:Ty) (v:Pl) (mv pt:Value) (w:World) (h:PlIn F t v mv pt w) :
 Calls Tryz.prog 115 #[.agg #[mv,pt]] w fun en w'=>en=.returned (.bool (brP v))/\Below w.heap.size w w':=by
 have h60:=valid_len h.ok
 obtain ⟨ma,mc,rfl,hmc⟩:=h.m.cells
 obtain ⟨pa,pc,rfl,hpc⟩:=h.p.cells
 obtain ⟨W,hW,hbW,hz,b0⟩:=box_1 w (.cells #[.slice ma v.length mc,.slice pa v.length pc] 33)
 obtain ⟨c0,c1,_,_⟩:=cells_2 b0
 have HH:=Lib.hid (And.intro hmc (And.intro hpc (And.intro hbW (h.below hbW))))
 have HW:=Lib.hid hW
 clear h hmc hpc hz b0 hbW hW
 go_enter Tryz.func115,Tryz.ntmps115
 go_upto_region 1 with (fail)
 rw [HW.out]
 go_wp2_with fail
 go_loopw [3] (fun i wr=>∃ (wz:World) (k:Nat),wz=wr/\k<=v.length/\i=.int .i64 k/\allP (brAt v) k=true/\Below W.heap.size W wz) (fun i _=>v.length-(intOf i).toNat)
 case atStart=>exact ⟨_,0,rfl,Nat.zero_le _,rfl,rfl,Below.refl _ _⟩
 case round =>
  obtain ⟨wr,k,rfl,hk,rfl,hall,hB⟩:=hrel
  have d0:=(hB.cell (World.block_lt_of_cell? _ _ c0)).trans c0
  have d1:=(hB.cell (World.block_lt_of_cell? _ _ c1)).trans c1
  clear c0 c1
  have HB:=Lib.hid (And.intro hB (zzT HH.out.2.2.1 hB))
  clear hB
  by_cases hlt:k<v.length
  ·have hltI:(k:Int)<(v.length:Int):=by omega
   obtain ⟨x,p,z,hvk,hok⟩:=valid_at HH.out.2.2.2.ok hlt
   obtain ⟨mb,mo,rfl,_,hmb,hmk⟩:=HH.out.1 k _ hvk
   obtain ⟨pb,po,rfl,_,hpb,hpk⟩:=HH.out.2.1 k _ hvk
   have m0:=(HB.out.2.cell (p:=⟨mb,mo+k,none⟩) hmb).trans hmk
   have p0:=(HB.out.2.cell (p:=⟨pb,po+k,none⟩) hpb).trans hpk
   have PLR:=Lib.hid (fun (y:World) (hy:Below wr.heap.size wr y)=>(HH.out.2.2.2.below HB.out.1).below hy)
   have VK:=brAt_at hvk
   have hqn:=q_ne x p
   obtain ⟨q,hq⟩:=zzN (isQ (x::p))
   obtain ⟨M,hM⟩:=zzM (x::p)
   have hM0:0<M.length:=by rw [hM];simp
   have hM0I:(0:Int)<(M.length:Int):=by omega
   have B0:((((⟨M.toArray⟩:ByteArray)[0]'(lt_str hM0)).toNat:Int))=(x.toNat:Int):=by rw [byte_int hM0];subst hM;rfl
   obtain ⟨cn,hcn⟩:=zzN (brAt v k)
   rw [hq] at VK hqn
   rw [hcn] at VK
   rw [<- hM] at m0
   have CV:=Lib.hid (fun (y:World) (hy:Below wr.heap.size wr y)=>l2Pending_any F t v k _ _ y (PLR.out y hy).m (PLR.out y hy).p HH.out.2.2.2.ok (by omega) HH.out.2.2.2.l)
   have KEY:=Lib.hid (fun (y:World) (hy:Below wr.heap.size wr y)=>(show y.cell? ⟨w.heap.size,0,none⟩=some (.slice (some ⟨mb,mo,none⟩) v.length mc)/\y.cell? ⟨w.heap.size,1,none⟩=some (.slice (some ⟨pb,po,none⟩) v.length pc)/\y.cell? ⟨mb,mo+k,none⟩=some (str M)/\y.cell? ⟨pb,po+k,none⟩=some (.int .i64 z) from
    ⟨(hy.cell (World.block_lt_of_cell? _ _ d0)).trans d0,(hy.cell (World.block_lt_of_cell? _ _ d1)).trans d1,(hy.cell (World.block_lt_of_cell? _ _ m0)).trans m0,(hy.cell (World.block_lt_of_cell? _ _ p0)).trans p0⟩))
   have HV:=Lib.hid (And.intro hcn (And.intro hall hlt))
   generalize hpe:pendF v k []=pe at *
   clear hvk hok hmb hmk hpb hpk hq hcn hall hpe hM
   cases q with
   | true =>
     obtain rfl:cn=true:=by rw [VK];rfl
     clear VK
     have hqn':((x.toNat:Int) != 113)=false:=hqn
     clear hqn
     go_upto_region 4 with (fail)
     clear d0 d1 m0 p0
     refine wp_region_noPanic ?_
     refine wp_region_S (fun w'=>Below wr.heap.size wr w') (fun _=>false) (by kernel_rfl) ?_
     have hSd:(fun w'=>Below wr.heap.size wr w') wr.drew:=Below.drew (Below.refl _ _)
     refine wpAnyS_take 0 (v:=?_) (by kernel_rfl) (by kernel_rfl) (by kernel_rfl) (by kernel_rfl) (fun _ _ _ _ h=>h) hSd ?_ ?_
     rotate_left
     ·(intro oi ho;simp at ho;subst ho;refine Or.inl ⟨by rfl,fun w' hw'=>?_⟩;go_simp;try with_reducible rfl)
     (intro d hd;simp at hd;subst hd;simp only [Act.put,List.setIfInBounds_toArray,List.set_cons_zero,List.set_cons_succ])
     refine wpAnyS_take 1 (v:=?_) (by kernel_rfl) (by kernel_rfl) (by kernel_rfl) (by kernel_rfl) (fun _ _ _ _ h=>h) hSd ?_ ?_
     rotate_left
     ·(intro oi ho;simp at ho;subst ho;refine Or.inl ⟨by rfl,fun w' hw'=>?_⟩;have e0:=(KEY.out w' hw').1;go_simp;try with_reducible rfl)
     (intro d hd;simp at hd;subst hd;simp only [Act.put,List.setIfInBounds_toArray,List.set_cons_zero,List.set_cons_succ])
     refine wpAnyS_take 2 (v:=?_) (by kernel_rfl) (by kernel_rfl) (by kernel_rfl) (by kernel_rfl) (fun _ _ _ _ h=>h) hSd ?_ ?_
     rotate_left
     ·(intro oi ho;simp at ho;subst ho;refine Or.inl ⟨by rfl,fun w' hw'=>?_⟩;go_simp;try with_reducible rfl)
     (intro d hd;simp at hd;subst hd;simp only [Act.put,List.setIfInBounds_toArray,List.set_cons_zero,List.set_cons_succ])
     refine wpAnyS_take 3 (v:=?_) (by kernel_rfl) (by kernel_rfl) (by kernel_rfl) (by kernel_rfl) (fun _ _ _ _ h=>h) hSd ?_ ?_
     rotate_left
     ·(intro oi ho;simp at ho;subst ho;refine Or.inl ⟨by rfl,fun w' hw'=>?_⟩;go_simp;try with_reducible rfl)
     (intro d hd;simp at hd;subst hd;simp only [Act.put,List.setIfInBounds_toArray,List.set_cons_zero,List.set_cons_succ])
     refine wpAnyS_take 4 (v:=?_) (by kernel_rfl) (by kernel_rfl) (by kernel_rfl) (by kernel_rfl) (fun _ _ _ _ h=>h) hSd ?_ ?_
     rotate_left
     ·(intro oi ho;simp at ho;subst ho;refine Or.inl ⟨by rfl,fun w' hw'=>?_⟩;have e0:=(KEY.out w' hw').2.2.1;go_simp;try with_reducible rfl)
     (intro d hd;simp at hd;subst hd;simp only [Act.put,List.setIfInBounds_toArray,List.set_cons_zero,List.set_cons_succ])
     refine wpAnyS_take 5 (v:=?_) (by kernel_rfl) (by kernel_rfl) (by kernel_rfl) (by kernel_rfl) (fun _ _ _ _ h=>h) hSd ?_ ?_
     rotate_left
     ·(intro oi ho;simp at ho;subst ho;refine Or.inl ⟨by rfl,fun w' hw'=>?_⟩;go_simp;try with_reducible rfl)
     (intro d hd;simp at hd;subst hd;simp only [Act.put,List.setIfInBounds_toArray,List.set_cons_zero,List.set_cons_succ])
     refine wpAnyS_take 6 (v:=?_) (by kernel_rfl) (by kernel_rfl) (by kernel_rfl) (by kernel_rfl) (fun _ _ _ _ h=>h) hSd ?_ ?_
     rotate_left
     ·(intro oi ho;simp at ho;subst ho;refine Or.inl ⟨by rfl,fun w' hw'=>?_⟩;go_simp;try with_reducible rfl)
     (intro d hd;simp at hd;subst hd;simp only [Act.put,List.setIfInBounds_toArray,List.set_cons_zero,List.set_cons_succ])
     refine wpAnyS_take 7 (v:=?_) (by kernel_rfl) (by kernel_rfl) (by kernel_rfl) (by kernel_rfl) (fun _ _ _ _ h=>h) hSd ?_ ?_
     rotate_left
     ·(intro oi ho;simp at ho;subst ho;refine Or.inl ⟨by rfl,fun w' hw'=>?_⟩;go_simp;try with_reducible rfl)
     (intro d hd;simp at hd;subst hd;simp only [Act.put,List.setIfInBounds_toArray,List.set_cons_zero,List.set_cons_succ])
     refine wpAnyS_take 8 (v:=undef) (by kernel_rfl) (by kernel_rfl) (by kernel_rfl) (by kernel_rfl) (fun _ _ _ _ h=>h) hSd (fun oi ho=>by simp at ho;subst ho;exact Or.inr ⟨by rfl,rfl⟩) ?_
     (intro d hd;simp at hd;subst hd;simp only [Act.put,List.setIfInBounds_toArray,List.set_cons_zero,List.set_cons_succ])
     refine wpAnyS_take 9 (v:=undef) (by kernel_rfl) (by kernel_rfl) (by kernel_rfl) (by kernel_rfl) (fun _ _ _ _ h=>h) hSd (fun oi ho=>by simp at ho;subst ho;exact Or.inr ⟨by rfl,rfl⟩) ?_
     (intro d hd;simp at hd;subst hd;simp only [Act.put,List.setIfInBounds_toArray,List.set_cons_zero,List.set_cons_succ])
     refine wpAnyS_take 10 (v:=undef) (by kernel_rfl) (by kernel_rfl) (by kernel_rfl) (by kernel_rfl) (fun _ _ _ _ h=>h) hSd (fun oi ho=>by simp at ho;subst ho;exact Or.inr ⟨by rfl,rfl⟩) ?_
     (intro d hd;simp at hd;subst hd;simp only [Act.put,List.setIfInBounds_toArray,List.set_cons_zero,List.set_cons_succ])
     refine wpAnyS_take 11 (v:=undef) (by kernel_rfl) (by kernel_rfl) (by kernel_rfl) (by kernel_rfl) (fun _ _ _ _ h=>h) hSd (fun oi ho=>by simp at ho;subst ho;exact Or.inr ⟨by rfl,rfl⟩) ?_
     (intro d hd;simp at hd;subst hd;simp only [Act.put,List.setIfInBounds_toArray,List.set_cons_zero,List.set_cons_succ])
     refine wpAnyS_take 12 (v:=undef) (by kernel_rfl) (by kernel_rfl) (by kernel_rfl) (by kernel_rfl) (fun _ _ _ _ h=>h) hSd (fun oi ho=>by simp at ho;subst ho;exact Or.inr ⟨by rfl,rfl⟩) ?_
     (intro d hd;simp at hd;subst hd;simp only [Act.put,List.setIfInBounds_toArray,List.set_cons_zero,List.set_cons_succ])
     refine wpAnyS_take 13 (v:=undef) (by kernel_rfl) (by kernel_rfl) (by kernel_rfl) (by kernel_rfl) (fun _ _ _ _ h=>h) hSd (fun oi ho=>by simp at ho;subst ho;exact Or.inr ⟨by rfl,rfl⟩) ?_
     (intro d hd;simp at hd;subst hd;simp only [Act.put,List.setIfInBounds_toArray,List.set_cons_zero,List.set_cons_succ])
     refine wpAnyS_take 14 (v:=undef) (by kernel_rfl) (by kernel_rfl) (by kernel_rfl) (by kernel_rfl) (fun _ _ _ _ h=>h) hSd (fun oi ho=>by simp at ho;subst ho;exact Or.inr ⟨by rfl,rfl⟩) ?_
     (intro d hd;simp at hd;subst hd;simp only [Act.put,List.setIfInBounds_toArray,List.set_cons_zero,List.set_cons_succ])
     refine wpAnyS_take 15 (v:=undef) (by kernel_rfl) (by kernel_rfl) (by kernel_rfl) (by kernel_rfl) (fun _ _ _ _ h=>h) hSd (fun oi ho=>by simp at ho;subst ho;exact Or.inr ⟨by rfl,rfl⟩) ?_
     (intro d hd;simp at hd;subst hd;simp only [Act.put,List.setIfInBounds_toArray,List.set_cons_zero,List.set_cons_succ])
     refine wpAnyS_take 16 (v:=undef) (by kernel_rfl) (by kernel_rfl) (by kernel_rfl) (by kernel_rfl) (fun _ _ _ _ h=>h) hSd (fun oi ho=>by simp at ho;subst ho;exact Or.inr ⟨by rfl,rfl⟩) ?_
     (intro d hd;simp at hd;subst hd;simp only [Act.put,List.setIfInBounds_toArray,List.set_cons_zero,List.set_cons_succ])
     refine wpAnyS_take 17 (v:=?_) (by kernel_rfl) (by kernel_rfl) (by kernel_rfl) (by kernel_rfl) (fun _ _ _ _ h=>h) hSd ?_ ?_
     rotate_left
     ·(intro oi ho;simp at ho;subst ho;refine Or.inl ⟨by rfl,fun w' hw'=>?_⟩;go_simp;try with_reducible rfl)
     (intro d hd;simp at hd;subst hd;simp only [Act.put,List.setIfInBounds_toArray,List.set_cons_zero,List.set_cons_succ])
     refine wpAnyS_done (by kernel_rfl) (NoPanic.normal ?_) _
     have E:=Lib.hid (show allP (brAt v) (k+1)=true by rw [allP,HV.out.2.1,HV.out.1];rfl)
     clear KEY CV PLR hSd
     go_wp2_with fail
     go_roundw
     case rel=>exact ⟨_,k+1,rfl,by omega,by go_num,E.out,HB.out.1.drew⟩
     case measure=>simp [intOf];omega
   | false =>
     rw [Bool.false_or] at VK
     have hqn':((x.toNat:Int) != 113)=true:=hqn
     clear hqn
     go_upto_region 4 with (fail)
     clear d0 d1 m0 p0
     refine wp_region_noPanic ?_
     refine wp_region_S (fun w'=>Below wr.heap.size wr w') (fun _=>false) (by kernel_rfl) ?_
     have hSd:(fun w'=>Below wr.heap.size wr w') wr.drew:=Below.drew (Below.refl _ _)
     refine wpAnyS_take 0 (v:=?_) (by kernel_rfl) (by kernel_rfl) (by kernel_rfl) (by kernel_rfl) (fun _ _ _ _ h=>h) hSd ?_ ?_
     rotate_left
     ·(intro oi ho;simp at ho;subst ho;refine Or.inl ⟨by rfl,fun w' hw'=>?_⟩;go_simp;try with_reducible rfl)
     (intro d hd;simp at hd;subst hd;simp only [Act.put,List.setIfInBounds_toArray,List.set_cons_zero,List.set_cons_succ])
     refine wpAnyS_take 1 (v:=?_) (by kernel_rfl) (by kernel_rfl) (by kernel_rfl) (by kernel_rfl) (fun _ _ _ _ h=>h) hSd ?_ ?_
     rotate_left
     ·(intro oi ho;simp at ho;subst ho;refine Or.inl ⟨by rfl,fun w' hw'=>?_⟩;have e0:=(KEY.out w' hw').1;go_simp;try with_reducible rfl)
     (intro d hd;simp at hd;subst hd;simp only [Act.put,List.setIfInBounds_toArray,List.set_cons_zero,List.set_cons_succ])
     refine wpAnyS_take 2 (v:=?_) (by kernel_rfl) (by kernel_rfl) (by kernel_rfl) (by kernel_rfl) (fun _ _ _ _ h=>h) hSd ?_ ?_
     rotate_left
     ·(intro oi ho;simp at ho;subst ho;refine Or.inl ⟨by rfl,fun w' hw'=>?_⟩;go_simp;try with_reducible rfl)
     (intro d hd;simp at hd;subst hd;simp only [Act.put,List.setIfInBounds_toArray,List.set_cons_zero,List.set_cons_succ])
     refine wpAnyS_take 3 (v:=?_) (by kernel_rfl) (by kernel_rfl) (by kernel_rfl) (by kernel_rfl) (fun _ _ _ _ h=>h) hSd ?_ ?_
     rotate_left
     ·(intro oi ho;simp at ho;subst ho;refine Or.inl ⟨by rfl,fun w' hw'=>?_⟩;go_simp;try with_reducible rfl)
     (intro d hd;simp at hd;subst hd;simp only [Act.put,List.setIfInBounds_toArray,List.set_cons_zero,List.set_cons_succ])
     refine wpAnyS_take 4 (v:=?_) (by kernel_rfl) (by kernel_rfl) (by kernel_rfl) (by kernel_rfl) (fun _ _ _ _ h=>h) hSd ?_ ?_
     rotate_left
     ·(intro oi ho;simp at ho;subst ho;refine Or.inl ⟨by rfl,fun w' hw'=>?_⟩;have e0:=(KEY.out w' hw').2.2.1;go_simp;try with_reducible rfl)
     (intro d hd;simp at hd;subst hd;simp only [Act.put,List.setIfInBounds_toArray,List.set_cons_zero,List.set_cons_succ])
     refine wpAnyS_take 5 (v:=?_) (by kernel_rfl) (by kernel_rfl) (by kernel_rfl) (by kernel_rfl) (fun _ _ _ _ h=>h) hSd ?_ ?_
     rotate_left
     ·(intro oi ho;simp at ho;subst ho;refine Or.inl ⟨by rfl,fun w' hw'=>?_⟩;go_simp;try with_reducible rfl)
     (intro d hd;simp at hd;subst hd;simp only [Act.put,List.setIfInBounds_toArray,List.set_cons_zero,List.set_cons_succ])
     refine wpAnyS_take 6 (v:=?_) (by kernel_rfl) (by kernel_rfl) (by kernel_rfl) (by kernel_rfl) (fun _ _ _ _ h=>h) hSd ?_ ?_
     rotate_left
     ·(intro oi ho;simp at ho;subst ho;refine Or.inl ⟨by rfl,fun w' hw'=>?_⟩;go_simp;try with_reducible rfl)
     (intro d hd;simp at hd;subst hd;simp only [Act.put,List.setIfInBounds_toArray,List.set_cons_zero,List.set_cons_succ])
     refine wpAnyS_take 7 (v:=?_) (by kernel_rfl) (by kernel_rfl) (by kernel_rfl) (by kernel_rfl) (fun _ _ _ _ h=>h) hSd ?_ ?_
     rotate_left
     ·(intro oi ho;simp at ho;subst ho;refine Or.inl ⟨by rfl,fun w' hw'=>?_⟩;go_simp;try with_reducible rfl)
     (intro d hd;simp at hd;subst hd;simp only [Act.put,List.setIfInBounds_toArray,List.set_cons_zero,List.set_cons_succ])
     refine wpAnyS_take 8 (v:=?_) (by kernel_rfl) (by kernel_rfl) (by kernel_rfl) (by kernel_rfl) (fun _ _ _ _ h=>h) hSd ?_ ?_
     rotate_left
     ·(intro oi ho;simp at ho;subst ho;refine Or.inl ⟨by rfl,fun w' hw'=>?_⟩;go_simp;try with_reducible rfl)
     (intro d hd;simp at hd;subst hd;simp only [Act.put,List.setIfInBounds_toArray,List.set_cons_zero,List.set_cons_succ])
     refine wpAnyS_take 9 (v:=?_) (by kernel_rfl) (by kernel_rfl) (by kernel_rfl) (by kernel_rfl) (fun _ _ _ _ h=>h) hSd ?_ ?_
     rotate_left
     ·(intro oi ho;simp at ho;subst ho;refine Or.inl ⟨by rfl,fun w' hw'=>?_⟩;have e0:=(KEY.out w' hw').2.1;go_simp;try with_reducible rfl)
     (intro d hd;simp at hd;subst hd;simp only [Act.put,List.setIfInBounds_toArray,List.set_cons_zero,List.set_cons_succ])
     refine wpAnyS_take 10 (v:=?_) (by kernel_rfl) (by kernel_rfl) (by kernel_rfl) (by kernel_rfl) (fun _ _ _ _ h=>h) hSd ?_ ?_
     rotate_left
     ·(intro oi ho;simp at ho;subst ho;refine Or.inl ⟨by rfl,fun w' hw'=>?_⟩;go_simp;try with_reducible rfl)
     (intro d hd;simp at hd;subst hd;simp only [Act.put,List.setIfInBounds_toArray,List.set_cons_zero,List.set_cons_succ])
     refine wpAnyS_take 11 (v:=?_) (by kernel_rfl) (by kernel_rfl) (by kernel_rfl) (by kernel_rfl) (fun _ _ _ _ h=>h) hSd ?_ ?_
     rotate_left
     ·(intro oi ho;simp at ho;subst ho;refine Or.inl ⟨by rfl,fun w' hw'=>?_⟩;go_simp;try with_reducible rfl)
     (intro d hd;simp at hd;subst hd;simp only [Act.put,List.setIfInBounds_toArray,List.set_cons_zero,List.set_cons_succ])
     refine wpAnyS_take 12 (v:=?_) (by kernel_rfl) (by kernel_rfl) (by kernel_rfl) (by kernel_rfl) (fun _ _ _ _ h=>h) hSd ?_ ?_
     rotate_left
     ·(intro oi ho;simp at ho;subst ho;refine Or.inl ⟨by rfl,fun w' hw'=>?_⟩;have e0:=(KEY.out w' hw').2.2.2;go_simp;try with_reducible rfl)
     (intro d hd;simp at hd;subst hd;simp only [Act.put,List.setIfInBounds_toArray,List.set_cons_zero,List.set_cons_succ])
     refine wpAnyS_take 13 (v:=?_) (by kernel_rfl) (by kernel_rfl) (by kernel_rfl) (by kernel_rfl) (fun _ _ _ _ h=>h) hSd ?_ ?_
     rotate_left
     ·(intro oi ho;simp at ho;subst ho;refine Or.inl ⟨by rfl,fun w' hw'=>?_⟩;have e0:=(KEY.out w' hw').1;have e1:=(KEY.out w' hw').2.1;go_simp;try with_reducible rfl)
     (intro d hd;simp at hd;subst hd;simp only [Act.put,List.setIfInBounds_toArray,List.set_cons_zero,List.set_cons_succ])
     refine wpAnyS_take 14 (v:=?_) (by kernel_rfl) (by kernel_rfl) (by kernel_rfl) (by kernel_rfl) (fun _ _ _ _ h=>h) hSd ?_ ?_
     rotate_left
     ·(intro oi ho;simp at ho;subst ho;refine Or.inl ⟨by rfl,fun w' hw'=>?_⟩;go_simp;try with_reducible rfl)
     (intro d hd;simp at hd;subst hd;simp only [Act.put,List.setIfInBounds_toArray,List.set_cons_zero,List.set_cons_succ])
     refine wpAnyS_one 15 (by kernel_rfl) ?_
     (intro o15 ho K' hK;simp at ho;subst ho)
     go_simp
     go_at_call 132
     (with_reducible refine (CV.out _ hSd).mono ?_)
     rintro en x11 ⟨rfl,hb11⟩
     have hB8:Below wr.heap.size wr x11:=zzT hSd hb11
     refine hK.out _ _ ?_ ?_
     ·exact fun _=>hB8
     clear hK K'
     (try simp only [Act.put,List.setIfInBounds_toArray,List.set_cons_zero,List.set_cons_succ])
     have hS15:=hB8
     refine wpAnyS_take 16 (v:=?_) (by kernel_rfl) (by kernel_rfl) (by kernel_rfl) (by kernel_rfl) (fun _ _ _ _ h=>h) hS15 ?_ ?_
     rotate_left
     ·(intro oi ho;simp at ho;subst ho;refine Or.inl ⟨by rfl,fun w' hw'=>?_⟩;go_simp;try with_reducible rfl)
     (intro d hd;simp at hd;subst hd;simp only [Act.put,List.setIfInBounds_toArray,List.set_cons_zero,List.set_cons_succ])
     refine wpAnyS_take 17 (v:=?_) (by kernel_rfl) (by kernel_rfl) (by kernel_rfl) (by kernel_rfl) (fun _ _ _ _ h=>h) hS15 ?_ ?_
     rotate_left
     ·(intro oi ho;simp at ho;subst ho;refine Or.inl ⟨by rfl,fun w' hw'=>?_⟩;go_simp;try with_reducible rfl)
     (intro d hd;simp at hd;subst hd;simp only [Act.put,List.setIfInBounds_toArray,List.set_cons_zero,List.set_cons_succ])
     refine wpAnyS_done (by kernel_rfl) (NoPanic.normal ?_) _
     have HB8:=Lib.hid hB8
     clear KEY CV PLR hSd hB8 hS15 hb11
     cases cn with
     | true =>
       have hne:(z != pe)=false:=by rw [bne,<- VK];rfl
       clear VK
       have E:=Lib.hid (show allP (brAt v) (k+1)=true by rw [allP,HV.out.2.1,HV.out.1];rfl)
       go_wp2_with fail
       go_roundw
       case rel=>exact ⟨_,k+1,rfl,by omega,by go_num,E.out,zzT HB.out.1 HB8.out⟩
       case measure=>simp [intOf];omega
     | false =>
       have hne:(z != pe)=true:=by rw [bne,<- VK];rfl
       clear VK
       have E:=Lib.hid (show brP v=false from allP_no HV.out.1 HV.out.2.2)
       go_wp2_with fail
       go_ret
       exact ⟨by rw [E.out];rfl,zzT HB.out.2 HB8.out⟩
  ·obtain rfl:k=v.length:=by omega
   have E:=Lib.hid (show brP v=true from hall)
   clear hall
   go_wp2_with fail
   go_ret
   exact ⟨by rw [E.out];rfl,HB.out.2⟩
set_option maxRecDepth 100000 in
theorem specPlayLegal_any (F:Nat->Prop) (s:Bs) (mv pt:Value) (ms:List Bs) (ps:List Int) (w:World) (hs:Lim s.length) (hm:MsRep F w ms mv) (hp:PsRep F w ps pt) (hl:∀ x∈ms,Lim x.length) :
 Calls Tryz.prog 61 #[str s,.agg #[mv,pt]] w fun en w'=>en=.returned (.bool (legalOk s ms ps))/\Below w.heap.size w w':=by
 obtain ⟨ma,mc,rfl⟩:=hm.slice
 obtain ⟨pa,pc,rfl⟩:=hp.slice
 obtain ⟨W,hW,hbW,hz,b0⟩:=box_1 w (.cells #[.slice ma ms.length mc,.slice pa ps.length pc] 33)
 obtain ⟨c0,c1,_,_⟩:=cells_2 b0
 have hmW:=hm.below hbW (fun _ h=>h)
 have hpW:=hp.below hbW (fun _ h=>h)
 have C1:=Lib.hid (specPlayValid_any F s _ _ ms ps W hs hmW hpW hl)
 have C2:=Lib.hid (fun (y:World) (hy:Below W.heap.size W y) (h:playOk s ms ps=true)=>l2Visible_any F _ _ _ _ y ((plIn_zip hmW hpW hl h).below hy))
 have C3:=Lib.hid (fun (y:World) (hy:Below W.heap.size W y) (h:playOk s ms ps=true)=>l2Bracketed_any F _ _ _ _ y ((plIn_zip hmW hpW hl h).below hy))
 have HL:Hid (legalOk s ms ps=(playOk s ms ps && (visP (ms.zip ps) && brP (ms.zip ps)))):=Lib.hid rfl
 have HW:=Lib.hid (And.intro hW (And.intro hbW b0))
 generalize playOk s ms ps=b1 at *
 generalize visP (ms.zip ps)=b2 at *
 generalize brP (ms.zip ps)=b3 at *
 clear hm hp hz b0 hbW hW hmW hpW hl hs
 go_enter Tryz.func61,Tryz.ntmps61
 go_upto_region 1 with (fail)
 rw [HW.out.1]
 go_wp2_with fail
 (with_reducible refine C1.out.mono ?_)
 rintro en w1 ⟨rfl,hb1⟩
 cases b1 with
 | false =>
   have HB:=Lib.hid (zzT HW.out.2.1 hb1)
   clear hb1 c0 c1
   go_wp2_with fail
   go_ret
   exact ⟨by rw [HL.out];rfl,HB.out⟩
 | true =>
   have d0:=(hb1.cell (World.block_lt_of_cell? _ _ c0)).trans c0
   have d1:=(hb1.cell (World.block_lt_of_cell? _ _ c1)).trans c1
   have C2':=Lib.hid (C2.out w1 hb1 rfl)
   have HB:=Lib.hid (And.intro hb1 (zzT HW.out.2.1 hb1))
   clear hb1 c0 c1 C2
   go_wp2_with fail
   (with_reducible refine C2'.out.mono ?_)
   rintro en w2 ⟨rfl,hb2⟩
   have HB2:=Lib.hid (And.intro (zzT HB.out.1 hb2) (zzT HB.out.2 hb2))
   cases b2 with
   | false =>
     clear hb2 d0 d1
     go_wp2_with fail
     go_ret
     exact ⟨by rw [HL.out];rfl,HB2.out.2⟩
   | true =>
     have e0:=(hb2.cell (World.block_lt_of_cell? _ _ d0)).trans d0
     have e1:=(hb2.cell (World.block_lt_of_cell? _ _ d1)).trans d1
     have C3':=Lib.hid (C3.out w2 HB2.out.1 (by first | trivial | rfl))
     clear hb2 d0 d1 C3
     go_wp2_with fail
     (with_reducible refine C3'.out.mono ?_)
     rintro en w3 ⟨rfl,hb3⟩
     have HB3:=Lib.hid (zzT HB2.out.2 hb3)
     clear hb3
     go_wp2_with fail
     go_ret
     exact ⟨by rw [HL.out,Bool.true_and,Bool.true_and];rfl,HB3.out⟩
end Go.Proofs.YtdfkiicodfbibaaGreatDoor

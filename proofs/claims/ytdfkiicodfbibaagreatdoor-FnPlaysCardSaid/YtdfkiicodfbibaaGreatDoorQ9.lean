/- Walks of functions that the statement reaches, and plain words. No conditions. -/
import Derived.Maps.Own
import Derived.Maps.Views
import Derived.Test.YtdfkiicodfbibaaGreatDoorQ8
set_option linter.unusedVariables false
set_option linter.unusedSimpArgs false
set_option maxHeartbeats 8000000
namespace Go.Proofs.YtdfkiicodfbibaaGreatDoor
open Go.RowKit
def NatAt (w:World) (ns:List Nat) (x:Value):Prop:=∃ b o c,x=.slice (some ⟨b,o,none⟩) ns.length c/\b<w.heap.size/\∀ (i n:Nat),ns[i]? = some n->w.cell? ⟨b,o+i,none⟩=some (.int .i64 (n:Nat))
theorem NatAt.below {w w':World} {ns:List Nat} {x:Value} (h:NatAt w ns x) (hb:Below w.heap.size w w'):NatAt w' ns x:=by
 obtain ⟨b,o,c,e,hl,hc⟩:=h
 exact ⟨b,o,c,e,Nat.lt_of_lt_of_le hl hb.size,fun i n hi=>(hb.cell (p:=⟨b,o+i,none⟩) hl).trans (hc i n hi)⟩
theorem Own.cells1 {w:World} {ns:List Nat} {v:Value} (h:Own w 3 1 v ns.length (intsV ns)) (hp:0<ns.length):∃ b c,v=.slice (some ⟨b,0,none⟩) ns.length c/\b<w.heap.size/\∀ (i n:Nat),ns[i]? = some n->w.cell? ⟨b,i,none⟩=some (.int .i64 (n:Nat))/\w.frozen? ⟨b,i,none⟩=false:=by
 rcases h.2 with ⟨_,h0⟩ | ⟨g,cap,cur,e,_,hg,hnc,_,hcs,ht⟩
 ·omega
 ·refine ⟨g,cap,e,lt_of_heap hg,fun i n hi=>?_⟩
  have hil:=(List.getElem?_eq_some_iff.1 hi).1
  have h2:(intsV ns)[i]? = some (.int .i64 (n:Nat)):=by unfold intsV;rw [List.getElem?_map,hi];rfl
  rw [<- ht,List.getElem?_take,if_pos (by omega),Array.getElem?_toList] at h2
  exact ⟨by simp only [World.cell?,hg];simpa using h2,by simp [World.frozen?,hg]⟩
theorem Own.natAt {w:World} {ns:List Nat} {v:Value} (h:Own w 3 1 v ns.length (intsV ns)) (hp:0<ns.length):NatAt w ns v:=by
 obtain ⟨b,c,e,hl,hc⟩:=h.cells1 hp
 exact ⟨b,0,c,e,hl,fun i n hi=>by rw [Nat.zero_add];exact (hc i n hi).1⟩
theorem below_setCs {B b:Nat} (hb:B<=b) {a:World}:∀ (vs:List Value) (o:Nat) (w:World),Below B a w->Below B a (w.setCells b o vs)
 | [],_,_,h=>h
 | v::r,o,_,h=>below_setCs hb r (o+1) _ (h.setCell (p:=⟨b,o,none⟩) hb v)
theorem reversed_at {w w':World} {ns:List Nat} {b c:Nat} {B:Nat} (hB:B<=b) (hl:b<w.heap.size) (hc:∀ (i n:Nat),ns[i]? = some n->w.cell? ⟨b,i,none⟩=some (.int .i64 (n:Nat))/\w.frozen? ⟨b,i,none⟩=false) {q:Nat}
 (e:w'=(w.drewN q).setCells b 0 ((ns.map fun n=>((n:Nat):Int)).reverse.map (Value.int .i64))):NatAt w' ns.reverse (.slice (some ⟨b,0,none⟩) ns.length c)/\Below B w w':=by
 have e2:(ns.map fun n=>((n:Nat):Int)).reverse.map (Value.int .i64)=intsV ns.reverse:=by unfold intsV;rw [<- List.map_reverse,List.map_map];rfl
 rw [e2] at e
 have hlen:(intsV ns.reverse).length=ns.length:=by unfold intsV;simp
 have hb:Below B w w':=by
  rw [e]
  exact below_setCs hB _ _ _ (below_dN (Below.refl _ _) q)
 refine ⟨⟨b,0,c,by rw [List.length_reverse],Nat.lt_of_lt_of_le hl hb.size,fun i n hi=>?_⟩,hb⟩
 have hil:=(List.getElem?_eq_some_iff.1 hi).1
 rw [List.length_reverse] at hil
 have h3:=World.cell?_setCells_in b (intsV ns.reverse) 0 (w.drewN q) (fun j hj=>by
  rw [hlen] at hj
  have:=(hc j (ns[j]) (List.getElem?_eq_getElem hj)).1
  rw [Nat.zero_add]
  rw [show (w.drewN q).cell? ⟨b,j,none⟩=w.cell? ⟨b,j,none⟩ from (below_dN (Below.refl w.heap.size w) q).cell hl,this];rfl) i (by omega)
 rw [e,h3]
 congr 1
 have h2:(intsV ns.reverse)[i]? = some (.int .i64 (n:Nat)):=by unfold intsV;rw [List.getElem?_map,hi];rfl
 exact (List.getElem?_eq_some_iff.1 h2).2
theorem wrap_low (x:Int) (h1 : -2000<=x) (h2:x<=1000000):IntKind.i64.wrap x=x:=by
 simp [IntKind.wrap,IntKind.bits,IntKind.signed];omega
theorem intsV_append (a b:List Nat):intsV (a++b)=intsV a++intsV b:=by simp [intsV]
theorem good_pos {t:Ty} {v:Pl} {i:Nat} {c:UInt8} {p:Bs} {z:Int} (h:OkMv t v i c p z) : -1<=z/\z<(i:Int):=by
 rcases Nat.eq_zero_or_pos i with h0 | h0
 ·have:=(h.zero h0).2.2;omega
 ·have:=h.pos h0;omega
set_option maxRecDepth 100000 in
theorem view_any (F:Nat->Prop) (t:Ty) (v:Pl) (opp:Bool) (n:Nat) (mv pt:Value) (w:World) (hm:MvRep F w v mv) (hp:PtRep F w v pt) (hv:validPl t v=true) (hn0:0<n) (hn:n<=v.length) (hl:∀ x∈v,x.1.length<=16777216) :
 Calls Tryz.prog 87 #[.agg #[mv,pt],.int .i64 (n:Nat),.bool opp] w fun en w'=>∃ x,en=.returned x/\Below w.heap.size w w'/\NatAt w' (viewP v opp n) x:=by
 have h60:=valid_len hv
 obtain ⟨ma,mc,rfl,hmc⟩:=hm.cells
 obtain ⟨pa,pc,rfl,hpc⟩:=hp.cells
 obtain ⟨W,hW,hbW,hz,b0⟩:=box_1 w (.cells #[.slice ma v.length mc,.slice pa v.length pc] 33)
 obtain ⟨c0,c1,_,_⟩:=cells_2 b0
 have hwn:IntKind.i64.wrap ((n:Int)-1)=(n:Int)-1:=wrap_small _ (by omega) (by omega)
 have HH:=Lib.hid (And.intro hmc (And.intro hpc (And.intro hbW (And.intro hv hl))))
 have HW:=Lib.hid hW
 clear hm hp hmc hpc hz b0 hbW hW hl hv
 go_enter Tryz.func87,Tryz.ntmps87
 go_upto_region 1 with (fail)
 rw [HW.out]
 go_wp2_with fail
 go_loopw [7,8] (fun o i wr=>∃ (r f:Nat) (ds:List Nat) (a:Option Addr) (c:Nat),i=.int .i64 ((r:Int)-1)/\r<=f/\ds.length+f=n/\ds++viewD v opp f r=viewD v opp n n/\o=.slice a ds.length c/\Own wr 3 1 (.slice a ds.length c) ds.length (intsV ds)/\Below W.heap.size W wr/\(∀ g,(Value.slice a ds.length c).ownBlock=some g->W.heap.size<=g)) (fun _ i _=>(intOf i+1).toNat)
 case atStart=>exact ⟨n,n,[],none,0,rfl,Nat.le_refl _,by simp,rfl,rfl,World.ownsRow_nil _ _ _ _,Below.refl _ _,fun g h=>by simp [Value.ownBlock] at h⟩
 case round =>
  obtain ⟨r,f,ds,a,c,rfl,hrf,hdf,hvd,rfl,ho,hB,hf⟩:=hrel
  have HO:=Lib.hid ho;have HF:=Lib.hid hf;have HB:=Lib.hid hB;have HV:=Lib.hid hvd
  clear ho hf hB hvd
  cases r with
  | zero =>
    have e0:(((0:Nat):Int)-1) = -1:=rfl
    rw [e0]
    have hds:ds=viewD v opp n n:=by
     have h:=HV.out
     rw [viewD_zero,List.append_nil] at h;exact h
    have hlp:0<ds.length:=by
     rw [hds]
     obtain ⟨n',rfl⟩:∃ n',n=n'+1:=⟨n-1,by omega⟩
     rw [viewD_succ,List.length_cons];omega
    obtain ⟨g,c',ev,hgl,hgc⟩:=Own.cells1 HO.out hlp
    simp only [Value.slice.injEq,true_and] at ev
    obtain ⟨rfl,rfl⟩:=ev
    have C:=Lib.hid (Tryz.slices_Reverse_int_cells g 0 ds.length c (ds.map fun n=>((n:Nat):Int)) wr (by simp) (by omega) (fun j hj=>by
     rw [List.length_map] at hj
     rw [Nat.zero_add,(hgc j ds[j] (List.getElem?_eq_getElem hj)).1,List.getD_eq_getElem?_getD,List.getElem?_map,List.getElem?_eq_getElem hj];rfl) (fun j hj=>by
     rw [Nat.zero_add];exact (hgc j ds[j] (List.getElem?_eq_getElem hj)).2))
    have HG:=Lib.hid (And.intro hgl hgc)
    have HD:=Lib.hid hds
    clear hgl hgc hlp hds
    go_wp2_with fail
    (with_reducible refine C.out.mono ?_)
    rintro en w1 ⟨rfl,q,e⟩
    obtain ⟨hN,hb⟩:=reversed_at (B:=W.heap.size) (c:=c) (HF.out g rfl) HG.out.1 HG.out.2 (e.trans (by rw [List.take_of_length_le (by simp)]))
    have HN:=Lib.hid (And.intro hN (HB.out.trans hb))
    clear e hN hb C
    go_wp2_with fail
    go_ret
    refine ⟨_,rfl,zzT HH.out.2.2.1 HN.out.2,?_⟩
    unfold viewP
    rw [<- HD.out]
    exact HN.out.1
  | succ k =>
    have ek:(((k+1:Nat):Int)-1)=(k:Int):=by omega
    rw [ek]
    have hkv:k<v.length:=by omega
    have hkvI:(k:Int)<(v.length:Int):=by omega
    obtain ⟨x,p,z,hvk,hok⟩:=valid_at HH.out.2.2.2.1 hkv
    have hpl:=HH.out.2.2.2.2 _ (List.mem_of_getElem? hvk)
    rw [List.length_cons] at hpl
    obtain ⟨mb,mo,rfl,_,hmb,hmk⟩:=HH.out.1 k _ hvk
    obtain ⟨pb,po,rfl,_,hpb,hpk⟩:=HH.out.2.1 k _ hvk
    have hz:=good_pos hok
    have hwk:IntKind.i64.wrap ((k:Int)-1)=(k:Int)-1:=wrap_low _ (by omega) (by omega)
    obtain ⟨f',rfl⟩:∃ f',f=f'+1:=⟨f-1,by omega⟩
    have KEY:Hid (∀ y,Below W.heap.size W y->y.cell? ⟨w.heap.size,0,none⟩=some (.slice (some ⟨mb,mo,none⟩) v.length mc)/\y.cell? ⟨w.heap.size,1,none⟩=some (.slice (some ⟨pb,po,none⟩) v.length pc)/\y.cell? ⟨mb,mo+k,none⟩=some (str (x::p))/\y.cell? ⟨pb,po+k,none⟩=some (.int .i64 z)):=Lib.hid (fun y hy=>by
     have hy2:=zzT HH.out.2.2.1 hy
     exact ⟨(hy.cell (World.block_lt_of_cell? _ _ c0)).trans c0,(hy.cell (World.block_lt_of_cell? _ _ c1)).trans c1,(hy2.cell (p:=⟨mb,mo+k,none⟩) hmb).trans hmk,(hy2.cell (p:=⟨pb,po+k,none⟩) hpb).trans hpk⟩)
    have CB:=byOpponent_any x p (show p.length<=16777216 by omega)
    have hbk:backTo v opp (k+1-1)=backTo v opp k:=rfl
    have HN:Hid (ds++[k]++viewD v opp f' (if byOpp (x::p)=opp then k else (z+1).toNat)=viewD v opp n n):=Lib.hid (by
     have h:=HV.out
     rw [viewD_succ] at h
     unfold backTo at h
     rw [hvk] at h
     rw [List.append_assoc];exact h)
    obtain ⟨bo,hbo⟩:=zzN (byOpp (x::p))
    rw [hbo] at CB HN
    have CB:=Lib.hid CB
    clear c0 c1 hvk hok hpl hmb hmk hpb hpk hbo hbk
    go_wp2_with (at_builtin;refine wpList_append_gen rfl _ _ 31 rfl 3 (.int .i64 0) 1 8 Tryz.underlying31 Tryz.infoInt2 rfl (by decide) (.slice a ds.length c) ds.length (intsV ds) rfl ?c1 _ 1 [.int .i64 (k:Nat)] rfl ?c2 ?c3 ?c4 ?_)
    case c1=>exact HO.out.alloc _
    case c2=>exact SrcSl.litk #[.int .i64 (k:Nat)] rfl (by simp [Value.oneCell']) _ (by rfl)
    case c3=>unfold maxLen;omega
    case c4=>omega
    intro a7 c7 w8 ho8 hb8 hg8
    have hzr:=HB.out.size
    have hB8:Below W.heap.size W w8:=(HB.out.alloc hzr _).trans (hb8.toBelow (by rw [size_alloc];omega) fun i hi e=>by have:=HF.out i e;omega)
    have hF8:∀ g,(Value.slice a7 (ds.length+1) c7).ownBlock=some g->W.heap.size<=g:=fun g hg=>by
     rcases hg8 g hg with e | e
     ·exact HF.out g e
     ·omega
    have ho8':Own w8 3 1 (.slice a7 (ds++[k]).length c7) (ds++[k]).length (intsV (ds++[k])):=by rw [intsV_append,List.length_append];exact ho8
    obtain ⟨d0,d1,m0,p0⟩:=KEY.out w8 hB8
    have H8:=Lib.hid (And.intro ho8' (And.intro hB8 (by rw [show ds.length+1=(ds++[k]).length from by simp] at hF8;exact hF8)))
    have el:ds.length+1=(ds++[k]).length:=by simp
    rw [el]
    generalize hds:ds++[k]=ds' at *
    have hdl:ds'.length=ds.length+1:=el.symm
    clear ho8 hb8 hg8 hB8 hF8 ho8' KEY hzr el hds HO HF HV
    go_wp2_with fail
    (with_reducible refine (CB.out _).mono ?_)
    rintro en w9 ⟨rfl,e⟩
    subst w9
    by_cases hbo:bo=opp
    ·rw [if_pos hbo] at HN
     have hb1:(bo == opp)=true:=by simp [hbo]
     clear hbo CB d1 p0
     go_wp2_with fail
     go_roundw
     case rel=>exact ⟨k,f',ds',a7,c7,rfl,by omega,by omega,HN.out,by rw [hdl],H8.out.1,H8.out.2.1,H8.out.2.2⟩
     case measure=>simp [intOf]
    ·rw [if_neg hbo] at HN
     have hb1:(bo == opp)=false:=by simp [hbo]
     clear hbo CB d0 m0
     go_wp2_with fail
     go_roundw
     case rel=>exact ⟨(z+1).toNat,f',ds',a7,c7,by congr 1;omega,by omega,by omega,HN.out,by rw [hdl],H8.out.1,H8.out.2.1,H8.out.2.2⟩
     case measure=>simp [intOf];omega
theorem Own.srcN {w:World} {e:TypeId} {n:Nat} {v:Value} {ns:List Nat} (h:Own w e 1 v n (intsV ns)):SrcSl 1 v n (intsV ns) w:=by
 refine ⟨h.1,fun u hu=>?_,?_⟩
 ·obtain ⟨m,_,rfl⟩:=List.mem_map.1 hu
  simp [Value.oneCell']
 ·rcases h.2 with ⟨e1,e2⟩ | ⟨g,cap,cur,e1,_,hg,_,_,_,ht⟩
  ·exact .inr ⟨e1,e2⟩
  ·refine .inl ⟨_,cap,e1,fun j u hu=>?_⟩
   rw [<- ht,List.getElem?_take] at hu
   split at hu
   ·unfold Addr.add
    split
    ·subst j;simp only [World.cell?,hg];simpa using hu
    ·simp only [World.cell?,hg];simpa using hu
   ·simp at hu
def whoI (opp:Bool):Nat:=if opp then 0 else 1
theorem who_eq (m:Bs) (opp:Bool):(((plN m:Nat):Int) == ((whoI opp:Nat):Int))=(byOpp m == opp):=by
 unfold plN whoI
 cases byOpp m <;> cases opp <;> rfl
set_option maxRecDepth 100000 in
theorem l2View_any (F:Nat->Prop) (t:Ty) (v:Pl) (opp:Bool) (n:Nat) (mv pt:Value) (w:World) (hm:MvRep F w v mv) (hp:PtRep F w v pt) (hv:validPl t v=true) (hn0:0<n) (hn:n<=v.length) (hl:∀ x∈v,x.1.length<=16777216) :
 Calls Tryz.prog 127 #[.agg #[mv,pt],.int .i64 (whoI opp:Nat),.int .i64 (n:Nat)] w fun en w'=>∃ x,en=.returned x/\Below w.heap.size w w'/\NatAt w' (viewP v opp n) x:=by
 have h60:=valid_len hv
 obtain ⟨ma,mc,rfl,hmc⟩:=hm.cells
 obtain ⟨pa,pc,rfl,hpc⟩:=hp.cells
 obtain ⟨W,hW,hbW,hz,b0⟩:=box_1 w (.cells #[.slice ma v.length mc,.slice pa v.length pc] 33)
 obtain ⟨c0,c1,_,_⟩:=cells_2 b0
 have HH:=Lib.hid (And.intro hmc (And.intro hpc (And.intro hbW (And.intro hv hl))))
 have HW:=Lib.hid hW
 have HWH:=Lib.hid (fun m=>who_eq m opp)
 generalize whoI opp=who at *
 clear hm hp hmc hpc hz b0 hbW hW hl hv
 go_enter Tryz.func127,Tryz.ntmps127
 go_upto_region 1 with (fail)
 rw [HW.out]
 go_wp2_with fail
 go_loopw [2,7,8] (fun i o _ wr=>∃ (r f:Nat) (os:List Nat) (a:Option Addr) (c:Nat),i=.int .i64 (r:Nat)/\r<=f/\os.length+f=n/\os.reverse++viewD v opp f r=viewD v opp n n/\o=.slice a os.length c/\Own wr 3 1 (.slice a os.length c) os.length (intsV os)/\Below W.heap.size W wr/\(∀ g,(Value.slice a os.length c).ownBlock=some g->W.heap.size<=g)) (fun i _ _ _=>(intOf i).toNat)
 case atStart=>exact ⟨n,n,[],_,_,rfl,Nat.le_refl _,by simp,rfl,rfl,Own.litAt #[] 0 _ rfl (by decide) rfl,(Below.refl _ _).alloc (Nat.le_refl _) _,own_some (Nat.le_refl _)⟩
 case round =>
  obtain ⟨r,f,os,a,c,rfl,hrf,hdf,hvd,rfl,ho,hB,hf⟩:=hrel
  have HO:=Lib.hid ho;have HF:=Lib.hid hf;have HB:=Lib.hid hB;have HV:=Lib.hid hvd
  clear ho hf hB hvd
  cases r with
  | zero =>
    have hds:os.reverse=viewD v opp n n:=by
     have h:=HV.out
     rw [viewD_zero,List.append_nil] at h;exact h
    have hlp:0<os.length:=by
     rw [<- List.length_reverse,hds]
     obtain ⟨n',rfl⟩:∃ n',n=n'+1:=⟨n-1,by omega⟩
     rw [viewD_succ,List.length_cons];omega
    have HN:=Lib.hid (show NatAt wr (viewP v opp n) (.slice a os.length c) by
     unfold viewP
     rw [<- hds,List.reverse_reverse]
     exact Own.natAt HO.out hlp)
    clear hlp hds
    go_wp2_with fail
    go_ret
    exact ⟨_,rfl,zzT HH.out.2.2.1 HB.out,HN.out⟩
  | succ k =>
    have hkp:(0:Int)<((k+1:Nat):Int):=by omega
    have hkn:(0<k+1)=True:=by simp
    have hwk:IntKind.i64.wrap (((k+1:Nat):Int)-1)=(k:Int):=by rw [show ((k+1:Nat):Int)-1=(k:Int) from by omega];exact wrap_nat _ (by omega)
    have hkv:k<v.length:=by omega
    have hkvI:(k:Int)<(v.length:Int):=by omega
    obtain ⟨x,p,z,hvk,hok⟩:=valid_at HH.out.2.2.2.1 hkv
    have hpl:=HH.out.2.2.2.2 _ (List.mem_of_getElem? hvk)
    rw [List.length_cons] at hpl
    obtain ⟨mb,mo,rfl,_,hmb,hmk⟩:=HH.out.1 k _ hvk
    obtain ⟨pb,po,rfl,_,hpb,hpk⟩:=HH.out.2.1 k _ hvk
    have hz:=good_pos hok
    obtain ⟨f',rfl⟩:∃ f',f=f'+1:=⟨f-1,by omega⟩
    have KEY:Hid (∀ y,Below W.heap.size W y->y.cell? ⟨w.heap.size,0,none⟩=some (.slice (some ⟨mb,mo,none⟩) v.length mc)/\y.cell? ⟨w.heap.size,1,none⟩=some (.slice (some ⟨pb,po,none⟩) v.length pc)/\y.cell? ⟨mb,mo+k,none⟩=some (str (x::p))/\y.cell? ⟨pb,po+k,none⟩=some (.int .i64 z)):=Lib.hid (fun y hy=>by
     have hy2:=zzT HH.out.2.2.1 hy
     exact ⟨(hy.cell (World.block_lt_of_cell? _ _ c0)).trans c0,(hy.cell (World.block_lt_of_cell? _ _ c1)).trans c1,(hy2.cell (p:=⟨mb,mo+k,none⟩) hmb).trans hmk,(hy2.cell (p:=⟨pb,po+k,none⟩) hpb).trans hpk⟩)
    have CB:=l1Player_any x p (show p.length<=16777216 by omega)
    have HN:Hid ((k::os).reverse++viewD v opp f' (if byOpp (x::p)=opp then k else (z+1).toNat)=viewD v opp n n):=Lib.hid (by
     have h:=HV.out
     rw [viewD_succ] at h
     unfold backTo at h
     rw [hvk] at h
     rw [List.reverse_cons,List.append_assoc];exact h)
    have HQ:=HWH.out (x::p)
    obtain ⟨bo,hbo⟩:=zzN (byOpp (x::p))
    obtain ⟨pn,hpn⟩:=zzN (plN (x::p))
    rw [hbo] at HN HQ
    rw [hpn] at CB HQ
    have CB:=Lib.hid CB
    clear c0 c1 hvk hok hpl hmb hmk hpb hpk hbo hpn
    go_wp2_with (at_builtin;refine wpList_append_gen rfl _ _ 31 rfl 3 (.int .i64 0) 1 8 Tryz.underlying31 Tryz.infoInt2 rfl (by decide) (.slice (some ⟨wr.heap.size,0,none⟩) 1 1) 1 (intsV [k]) rfl ?c1 _ os.length (intsV os) rfl ?c2 ?c3 ?c4 ?_)
    case c1=>exact Own.litAt #[.int .i64 (k:Nat)] 1 _ rfl (by decide) rfl
    case c2=>exact HO.out.srcN.alloc _
    case c3=>unfold maxLen;omega
    case c4=>omega
    intro a7 c7 w8 ho8 hb8 hg8
    have hzr:=HB.out.size
    have hB8:Below W.heap.size W w8:=(HB.out.alloc hzr _).trans (hb8.toBelow (by rw [size_alloc];omega) fun i hi e=>by
     simp [Value.ownBlock] at e;omega)
    have hF8:∀ g,(Value.slice a7 (1+os.length) c7).ownBlock=some g->W.heap.size<=g:=fun g hg=>by
     rcases hg8 g hg with e | e
     ·simp [Value.ownBlock] at e;omega
     ·omega
    have el:1+os.length=(k::os).length:=by rw [List.length_cons];omega
    rw [<- show intsV (k::os)=intsV [k]++intsV os from rfl] at ho8
    rw [el] at ho8 hF8 ⊢
    obtain ⟨d0,d1,m0,p0⟩:=KEY.out w8 hB8
    have H8:=Lib.hid (And.intro ho8 (And.intro hB8 hF8))
    generalize hds:k::os=os' at *
    have hdl:os'.length=os.length+1:=by rw [<- el];omega
    clear ho8 hb8 hg8 hB8 hF8 KEY hzr el hds HO HF HV
    go_wp2_with fail
    (with_reducible refine (CB.out _).mono ?_)
    rintro en w9 ⟨rfl,e⟩
    subst w9
    by_cases hbo:bo=opp
    ·rw [if_pos hbo] at HN
     have hb1:((pn:Int) == (who:Int))=true:=by rw [HQ];simp [hbo]
     clear hbo CB d1 p0 HQ
     go_wp2_with fail
     go_roundw
     case rel=>exact ⟨k,f',os',a7,c7,rfl,by omega,by omega,HN.out,by rw [hdl],H8.out.1,H8.out.2.1,H8.out.2.2⟩
     case measure=>simp [intOf]
    ·rw [if_neg hbo] at HN
     have hb1:((pn:Int) == (who:Int))=false:=by rw [HQ];simp [hbo]
     clear hbo CB d0 m0 HQ
     by_cases hz0:z<0
     ·go_wp2_with fail
      go_roundw
      case rel=>exact ⟨0,f',os',a7,c7,rfl,by omega,by omega,by have h:=HN.out;rw [show (z+1).toNat=0 from by omega] at h;exact h,by rw [hdl],H8.out.1,H8.out.2.1,H8.out.2.2⟩
      case measure=>simp [intOf]
     ·have hwz:IntKind.i64.wrap (z+1)=z+1:=wrap_low _ (by omega) (by omega)
      go_wp2_with fail
      go_roundw
      case rel=>exact ⟨(z+1).toNat,f',os',a7,c7,by congr 1;omega,by omega,by omega,HN.out,by rw [hdl],H8.out.1,H8.out.2.1,H8.out.2.2⟩
      case measure=>simp [intOf];omega
def pendF (v:Pl):Nat->List Int->Int
 | 0,_=>-1
 | k+1,ans=>match v[k]? with
   | none=>-1
   | some x=>if isQ x.1 then (if ans.contains (k:Int) then pendF v k ans else (k:Int)) else pendF v k (ans++[x.2])
theorem pendF_at {v:Pl} {k:Nat} {m:Bs} {z:Int} (h:v[k]? = some (m,z)) (ans:List Int):pendF v (k+1) ans=if isQ m then (if ans.contains (k:Int) then pendF v k ans else (k:Int)) else pendF v k (ans++[z]):=by
 rw [pendF,h]
def setD (ans:List Int):DataW Unit:=ans.foldl (fun D z=>D.put (.int .i64 z) (.lit (.bool true))) (.map [])
theorem setD_snoc (ans:List Int) (z:Int):setD (ans++[z])=(setD ans).put (.int .i64 z) (.lit (.bool true)):=by
 unfold setD;rw [List.foldl_append];rfl
theorem foldD_at (z:Int):∀ (ans:List Int) (D:DataW Unit) (b:Bool),Maps.IsMap D->D.atKey (.int .i64 z) (.lit (.bool false))=.lit (.bool b)->(ans.foldl (fun D z=>D.put (.int .i64 z) (.lit (.bool true))) D).atKey (.int .i64 z) (.lit (.bool false))=.lit (.bool (b || ans.contains z))
 | [],D,b,_,h=>by simpa using h
 | x::r,D,b,hm,h=>by
   rw [List.foldl_cons]
   by_cases hx:z=x
   ·subst hx
    rw [foldD_at z r _ true (hm.put _ _) (Maps.atKey_put_same hm (show WideAt.IsKeyLit (.int .i64 z) from trivial) _ _)]
    simp
   ·rw [foldD_at z r _ b (hm.put _ _) (by rw [Maps.atKey_put_other (by simpa using hx)];exact h)]
    simp [hx]
theorem setD_at (ans:List Int) (z:Int):(setD ans).atKey (.int .i64 z) (.lit (.bool false))=.lit (.bool (ans.contains z)):=by
 unfold setD
 rw [foldD_at z ans _ false Maps.isMap_empty rfl,Bool.false_or]
theorem ownsMap_bool {P:Program} {k:TypeId} {w:World} {b n:Nat} {D:DataW Unit} {t e:TypeId} (h:w.ownsMap P k (plainElem P e) b n D) (K:Maps.Keyed P k) (ht:P.underlying t=some (.map k e)) (he:P.underlying e=some .bool) (hz:(zeroValue e).run P w=.ok (.bool false) w)
 {key:Value} {kl:Lit} (hkey:keyOf P k key=some kl):∃ c,(Instr.lookup t (.map (some b)) key false).run P w=.ok (.bool c) w/\D.atKey kl (.lit (.bool false))=.lit (.bool c):=by
 obtain ⟨v,ps,hrun,hv⟩:=h.lookup K ht hz (plainElem_bool he false) hkey
 unfold plainElem at hv
 rw [he] at hv
 cases v <;> simp at hv
 exact ⟨_,hrun,hv.1.symm⟩
theorem Tryz.lawI:Maps.Keyed Tryz.prog 3:=Maps.int_keyed Tryz.underlying3
theorem Tryz.zeroB (w:World):(zeroValue 4).run Tryz.prog w=.ok (.bool false) w:=by kernel_rfl
theorem keyI {z:Int} (h1 : -2000<=z) (h2:z<=1000000):keyOf Tryz.prog 3 (.int .i64 z)=some (.int .i64 z):=Maps.keyOf_int_mk Tryz.underlying3 (WalkArith.wf_i64 ⟨by omega,by omega⟩)
set_option maxRecDepth 100000 in
theorem pending_any (F:Nat->Prop) (t:Ty) (v:Pl) (n:Nat) (mv pt:Value) (w:World) (hm:MvRep F w v mv) (hp:PtRep F w v pt) (hv:validPl t v=true) (hn:n<=v.length) :
 Calls Tryz.prog 172 #[.agg #[mv,pt],.int .i64 (n:Nat)] w fun en w'=>en=.returned (.int .i64 (pendF v n []))/\Below w.heap.size w w':=by
 have h60:=valid_len hv
 obtain ⟨ma,mc,rfl,hmc⟩:=hm.cells
 obtain ⟨pa,pc,rfl,hpc⟩:=hp.cells
 obtain ⟨W,hW,hbW,hz,b0⟩:=box_1 w (.cells #[.slice ma v.length mc,.slice pa v.length pc] 33)
 obtain ⟨c0,c1,_,_⟩:=cells_2 b0
 have hwn:IntKind.i64.wrap ((n:Int)-1)=(n:Int)-1:=wrap_low _ (by omega) (by omega)
 have HH:=Lib.hid (And.intro hmc (And.intro hpc (And.intro hbW hv)))
 have HW:=Lib.hid hW
 have hmm:=@run_makeMap Tryz.prog
 clear hm hp hmc hpc hz b0 hbW hW hv
 go_enter Tryz.func172,Tryz.ntmps172
 go_upto_region 1 with (fail)
 rw [HW.out]
 go_wp2_with fail
 go_loopw [6] (fun i wr=>∃ (r:Nat) (ans:List Int),i=.int .i64 ((r:Int)-1)/\r+ans.length<=n/\pendF v r ans=pendF v n []/\wr.ownsMap Tryz.prog 3 (plainElem (H:=Unit) Tryz.prog 4) W.heap.size ans.length (setD ans)/\Below W.heap.size W wr) (fun i _=>(intOf i+1).toNat)
 case atStart=>exact ⟨n,[],rfl,by simp,rfl,World.ownsMap_made _ _ _ _,(Below.refl _ _).alloc (Nat.le_refl _) _⟩
 case round =>
  obtain ⟨r,ans,rfl,hra,hpe,ho,hB⟩:=hrel
  have HB:=Lib.hid hB;have HP:=Lib.hid hpe;have HO:=Lib.hid ho
  clear hB hpe ho
  cases r with
  | zero =>
    have e0:(((0:Nat):Int)-1) = -1:=rfl
    have E:=Lib.hid (show pendF v n [] = -1 by rw [<- HP.out];rfl)
    rw [e0]
    go_wp2_with fail
    go_ret
    exact ⟨by rw [E.out];rfl,zzT HH.out.2.2.1 HB.out⟩
  | succ k =>
    have ek:(((k+1:Nat):Int)-1)=(k:Int):=by omega
    rw [ek]
    have hkv:k<v.length:=by omega
    have hkvI:(k:Int)<(v.length:Int):=by omega
    obtain ⟨x,p,z,hvk,hok⟩:=valid_at HH.out.2.2.2 hkv
    obtain ⟨mb,mo,rfl,_,hmb,hmk⟩:=HH.out.1 k _ hvk
    obtain ⟨pb,po,rfl,_,hpb,hpk⟩:=HH.out.2.1 k _ hvk
    have hz:=good_pos hok
    have hwk:IntKind.i64.wrap ((k:Int)-1)=(k:Int)-1:=wrap_low _ (by omega) (by omega)
    obtain ⟨d0,d1,m0,p0⟩:wr.cell? ⟨w.heap.size,0,none⟩=some (.slice (some ⟨mb,mo,none⟩) v.length mc)/\wr.cell? ⟨w.heap.size,1,none⟩=some (.slice (some ⟨pb,po,none⟩) v.length pc)/\wr.cell? ⟨mb,mo+k,none⟩=some (str (x::p))/\wr.cell? ⟨pb,po+k,none⟩=some (.int .i64 z):=by
     have hy:=HB.out
     have hy2:=zzT HH.out.2.2.1 hy
     exact ⟨(hy.cell (World.block_lt_of_cell? _ _ c0)).trans c0,(hy.cell (World.block_lt_of_cell? _ _ c1)).trans c1,(hy2.cell (p:=⟨mb,mo+k,none⟩) hmb).trans hmk,(hy2.cell (p:=⟨pb,po+k,none⟩) hpb).trans hpk⟩
    have CB:=isQuestion_any x p wr
    have HQ:=pendF_at hvk ans
    cases hq:isQ (x::p) with
    | false =>
      rw [hq] at CB HQ
      have E:=Lib.hid (HP.out.symm.trans HQ)
      have CB:=Lib.hid CB
      have kz:=Lib.hid (keyI (z:=z) (by omega) (by omega))
      clear c0 c1 hvk hok hmb hmk hpb hpk hq HQ
      go_wp2_with fail
      (with_reducible refine CB.out.mono ?_)
      rintro en w9 ⟨rfl,e⟩
      subst w9
      go_wp2_with (at_mapUpdate;refine wpList_mapUpdate_own (H:=Unit) _ rfl _ _ _ 257 rfl 3 4 Tryz.lawI Tryz.underlying257 (plainElem Tryz.prog 4) W.heap.size ans.length _ rfl HO.out (by unfold maxLen;omega) _ _ _ rfl rfl kz.out _ [] (plainElem_bool Tryz.underlying4 true) ?_)
      intro w1 ho1 hg1
      have hB1:Below W.heap.size W w1:=HB.out.trans ((But.ofGrown hg1).toBelow HB.out.size fun i hi e=>by simp at e;omega)
      rw [<- setD_snoc] at ho1
      have H1:=Lib.hid (And.intro ho1 hB1)
      clear ho1 hg1 hB1 d0 d1 m0 p0
      go_wp2_with fail
      go_roundw
      case rel=>exact ⟨k,ans++[z],rfl,by rw [List.length_append];simp;omega,E.out.symm,by rw [List.length_append];exact H1.out.1,H1.out.2⟩
      case measure=>simp [intOf]
    | true =>
      rw [hq] at CB HQ
      obtain ⟨c,hrun,hat⟩:=ownsMap_bool HO.out Tryz.lawI Tryz.underlying257 Tryz.underlying4 (Tryz.zeroB _) (keyI (z:=(k:Int)) (by omega) (by omega))
      rw [setD_at] at hat
      obtain rfl:ans.contains (k:Int)=c:=by simpa using hat
      have E:=Lib.hid (HP.out.symm.trans HQ)
      have CB:=Lib.hid CB
      clear c0 c1 hvk hok hmb hmk hpb hpk hq HQ hat
      cases hc:ans.contains (k:Int) with
      | true =>
        rw [hc] at hrun E
        clear hc
        go_wp2_with fail
        (with_reducible refine CB.out.mono ?_)
        rintro en w9 ⟨rfl,e⟩
        subst w9
        go_wp2_with fail
        go_roundw
        case rel=>exact ⟨k,ans,rfl,by omega,E.out.symm,HO.out,HB.out⟩
        case measure=>simp [intOf]
      | false =>
        rw [hc] at hrun E
        clear hc
        go_wp2_with fail
        (with_reducible refine CB.out.mono ?_)
        rintro en w9 ⟨rfl,e⟩
        subst w9
        go_wp2_with fail
        go_ret
        exact ⟨by rw [E.out];rfl,zzT HH.out.2.2.1 HB.out⟩
def IntAt (w:World) (zs:List Int) (x:Value):Prop:=∃ a c,x=.slice a zs.length c/\∀ (i:Nat) (z:Int),zs[i]? = some z->∃ b o,a=some ⟨b,o,none⟩/\b<w.heap.size/\w.cell? ⟨b,o+i,none⟩=some (.int .i64 z)
theorem NatAt.ints {w:World} {ns:List Nat} {x:Value} (h:NatAt w ns x):IntAt w (ns.map fun n=>((n:Nat):Int)) x:=by
 obtain ⟨b,o,c,e,hl,hc⟩:=h
 refine ⟨some ⟨b,o,none⟩,c,by rw [List.length_map];exact e,fun i z hz=>?_⟩
 rw [List.getElem?_map,Option.map_eq_some_iff] at hz
 obtain ⟨n,hn,rfl⟩:=hz
 exact ⟨b,o,rfl,hl,hc i n hn⟩
def zsV (zs:List Int):List Value:=zs.map fun z=>Value.int .i64 z
theorem Own.intAt {w:World} {zs:List Int} {v:Value} (h:Own w 3 1 v zs.length (zsV zs)):IntAt w zs v:=by
 rcases h.2 with ⟨e,h0⟩ | ⟨g,cap,cur,e,_,hg,hnc,_,hcs,ht⟩
 ·refine ⟨none,0,by rw [e,h0],fun i z hz=>?_⟩
  have:=(List.getElem?_eq_some_iff.1 hz).1;omega
 ·refine ⟨some ⟨g,0,none⟩,cap,e,fun i z hz=>⟨g,0,rfl,lt_of_heap hg,?_⟩⟩
  have hil:=(List.getElem?_eq_some_iff.1 hz).1
  have h2:(zsV zs)[i]? = some (.int .i64 z):=by unfold zsV;rw [List.getElem?_map,hz];rfl
  rw [<- ht,List.getElem?_take,if_pos (by omega),Array.getElem?_toList] at h2
  rw [Nat.zero_add]
  simp only [World.cell?,hg];simpa using h2
theorem take_has {zs:List Int} {k:Nat} {z n:Int} (h:zs[k]? = some z):(zs.take (k+1)).contains n=((zs.take k).contains n || (z == n)):=by
 rw [List.take_add_one,h]
 rw [Bool.eq_iff_iff,List.contains_iff_mem,Bool.or_eq_true,List.contains_iff_mem,beq_iff_eq,List.mem_append,Option.toList_some,List.mem_singleton]
 constructor
 ·rintro (h | h)
  ·exact .inl h
  ·exact .inr h.symm
 ·rintro (h | h)
  ·exact .inl h
  ·exact .inr h.symm
set_option maxRecDepth 20000 in
theorem l2Has_any (zs:List Int) (n:Int) (x:Value) (w:World) (h:IntAt w zs x) (hl:zs.length<=1000000) :
 Calls Tryz.prog 129 #[x,.int .i64 n] w fun en w'=>en=.returned (.bool (zs.contains n))/\w'=w:=by
 obtain ⟨a,c,rfl,hat⟩:=h
 have HA:=Lib.hid hat
 clear hat
 go_enter Tryz.func129,Tryz.ntmps129
 go_wp2_with fail
 go_loopw [5] (fun i wr=>wr=w/\∃ k:Nat,k<=zs.length/\i=.int .i64 k/\(zs.take k).contains n=false) (fun i _=>zs.length-(intOf i).toNat)
 case atStart=>exact ⟨rfl,0,Nat.zero_le _,rfl,rfl⟩
 case round =>
  obtain ⟨rfl,k,hk,rfl,hno⟩:=hrel
  by_cases hlt:k<zs.length
  ·have hltI:(k:Int)<(zs.length:Int):=by omega
   obtain ⟨z,hz⟩:∃ z,zs[k]? = some z:=⟨_,List.getElem?_eq_getElem hlt⟩
   obtain ⟨b,o,rfl,_,hc⟩:=HA.out k z hz
   have HT:=Lib.hid ((take_has (n:=n) hz).trans (by rw [hno,Bool.false_or]))
   clear hz hno
   cases hzn:(z == n) with
   | true =>
     have E:=Lib.hid (show zs.contains n=true by
      have h:=HT.out
      rw [hzn,List.contains_iff_mem] at h
      rw [List.contains_iff_mem];exact List.mem_of_mem_take h)
     clear HT
     go_wp2_with fail
     go_ret
     exact ⟨by rw [E.out];rfl,by first | trivial | rfl⟩
   | false =>
     have E:=Lib.hid (HT.out.trans hzn)
     clear HT
     go_wp2_with fail
     go_roundw
     case rel=>exact ⟨by first | trivial | rfl,k+1,by omega,by go_num,E.out⟩
     case measure=>simp [intOf];omega
  ·obtain rfl:k=zs.length:=by omega
   rw [List.take_length] at hno
   have E:=Lib.hid hno
   clear hno
   go_wp2_with fail
   go_ret
   exact ⟨by rw [E.out];rfl,by first | trivial | rfl⟩
theorem q_ne (c:UInt8) (p:Bs):((c.toNat:Int) != 113) = !isQ (c::p):=by
 rw [isQ_cons,bne,q_int]
theorem zsV_append (a b:List Int):zsV (a++b)=zsV a++zsV b:=by simp [zsV]
set_option maxRecDepth 100000 in
theorem l2Pending_any (F:Nat->Prop) (t:Ty) (v:Pl) (n:Nat) (mv pt:Value) (w:World) (hm:MvRep F w v mv) (hp:PtRep F w v pt) (hv:validPl t v=true) (hn:n<=v.length) (hl:∀ x∈v,x.1.length<=16777216) :
 Calls Tryz.prog 132 #[.agg #[mv,pt],.int .i64 (n:Nat)] w fun en w'=>en=.returned (.int .i64 (pendF v n []))/\Below w.heap.size w w':=by
 have h60:=valid_len hv
 obtain ⟨ma,mc,rfl,hmc⟩:=hm.cells
 obtain ⟨pa,pc,rfl,hpc⟩:=hp.cells
 obtain ⟨W,hW,hbW,hz,b0⟩:=box_1 w (.cells #[.slice ma v.length mc,.slice pa v.length pc] 33)
 obtain ⟨c0,c1,_,_⟩:=cells_2 b0
 have hwn:IntKind.i64.wrap ((n:Int)-1)=(n:Int)-1:=wrap_low _ (by omega) (by omega)
 have HH:=Lib.hid (And.intro hmc (And.intro hpc (And.intro hbW (And.intro hv hl))))
 have HW:=Lib.hid hW
 clear hm hp hmc hpc hz b0 hbW hW hv hl
 go_enter Tryz.func132,Tryz.ntmps132
 go_upto_region 1 with (fail)
 rw [HW.out]
 go_wp2_with fail
 go_loopw [5,6] (fun o i wr=>∃ (r:Nat) (ans:List Int) (a:Option Addr) (c:Nat),i=.int .i64 ((r:Int)-1)/\r+ans.length<=n/\pendF v r ans=pendF v n []/\o=.slice a ans.length c/\Own wr 3 1 (.slice a ans.length c) ans.length (zsV ans)/\Below W.heap.size W wr/\(∀ g,(Value.slice a ans.length c).ownBlock=some g->W.heap.size<=g)) (fun _ i _=>(intOf i+1).toNat)
 case atStart=>exact ⟨n,[],_,_,rfl,by simp,rfl,rfl,Own.litAt #[] 0 _ rfl (by decide) rfl,(Below.refl _ _).alloc (Nat.le_refl _) _,own_some (Nat.le_refl _)⟩
 case round =>
  obtain ⟨r,ans,a,c,rfl,hra,hpe,rfl,ho,hB,hf⟩:=hrel
  have HB:=Lib.hid hB;have HP:=Lib.hid hpe;have HO:=Lib.hid ho;have HF:=Lib.hid hf
  clear hB hpe ho hf
  cases r with
  | zero =>
    have e0:(((0:Nat):Int)-1) = -1:=rfl
    have E:=Lib.hid (show pendF v n [] = -1 by rw [<- HP.out];rfl)
    rw [e0]
    go_wp2_with fail
    go_ret
    exact ⟨by rw [E.out];rfl,zzT HH.out.2.2.1 HB.out⟩
  | succ k =>
    have ek:(((k+1:Nat):Int)-1)=(k:Int):=by omega
    rw [ek]
    have hkv:k<v.length:=by omega
    have hkvI:(k:Int)<(v.length:Int):=by omega
    obtain ⟨x,p,z,hvk,hok⟩:=valid_at HH.out.2.2.2.1 hkv
    obtain ⟨mb,mo,rfl,_,hmb,hmk⟩:=HH.out.1 k _ hvk
    obtain ⟨pb,po,rfl,_,hpb,hpk⟩:=HH.out.2.1 k _ hvk
    have hz:=good_pos hok
    have hwk:IntKind.i64.wrap ((k:Int)-1)=(k:Int)-1:=wrap_low _ (by omega) (by omega)
    obtain ⟨d0,d1,m0,p0⟩:wr.cell? ⟨w.heap.size,0,none⟩=some (.slice (some ⟨mb,mo,none⟩) v.length mc)/\wr.cell? ⟨w.heap.size,1,none⟩=some (.slice (some ⟨pb,po,none⟩) v.length pc)/\wr.cell? ⟨mb,mo+k,none⟩=some (str (x::p))/\wr.cell? ⟨pb,po+k,none⟩=some (.int .i64 z):=by
     have hy:=HB.out
     have hy2:=zzT HH.out.2.2.1 hy
     exact ⟨(hy.cell (World.block_lt_of_cell? _ _ c0)).trans c0,(hy.cell (World.block_lt_of_cell? _ _ c1)).trans c1,(hy2.cell (p:=⟨mb,mo+k,none⟩) hmb).trans hmk,(hy2.cell (p:=⟨pb,po+k,none⟩) hpb).trans hpk⟩
    have HQ:=pendF_at hvk ans
    have hne:=q_ne x p
    obtain ⟨M,hM⟩:=zzM (x::p)
    have hM0:0<M.length:=by rw [hM];simp
    have hM0I:(0:Int)<(M.length:Int):=by omega
    have B0:((((⟨M.toArray⟩:ByteArray)[0]'(lt_str hM0)).toNat:Int))=(x.toNat:Int):=by rw [byte_int hM0];subst hM;rfl
    cases hq:isQ (x::p) with
    | false =>
      rw [hq] at HQ hne
      have E:=Lib.hid (HP.out.symm.trans HQ)
      rw [<- hM] at m0
      clear c0 c1 hvk hok hmb hmk hpb hpk hq HQ hM
      go_wp2_with (at_builtin;refine wpList_append_gen rfl _ _ 31 rfl 3 (.int .i64 0) 1 8 Tryz.underlying31 Tryz.infoInt2 rfl (by decide) (.slice a ans.length c) ans.length (zsV ans) rfl ?c1 _ 1 [.int .i64 z] rfl ?c2 ?c3 ?c4 ?_)
      case c1=>exact HO.out.alloc _
      case c2=>exact SrcSl.litk #[.int .i64 z] rfl (by simp [Value.oneCell']) _ (by rfl)
      case c3=>unfold maxLen;omega
      case c4=>omega
      intro a7 c7 w8 ho8 hb8 hg8
      have hzr:=HB.out.size
      have hB8:Below W.heap.size W w8:=(HB.out.alloc hzr _).trans (hb8.toBelow (by rw [size_alloc];omega) fun i hi e=>by have:=HF.out i e;omega)
      have hF8:∀ g,(Value.slice a7 (ans.length+1) c7).ownBlock=some g->W.heap.size<=g:=fun g hg=>by
       rcases hg8 g hg with e | e
       ·exact HF.out g e
       ·omega
      have el:ans.length+1=(ans++[z]).length:=by simp
      rw [<- show zsV (ans++[z])=zsV ans++[.int .i64 z] from zsV_append _ _] at ho8
      have H8:=Lib.hid (And.intro ho8 (And.intro hB8 hF8))
      clear ho8 hb8 hg8 hB8 hF8 d0 d1 m0 p0
      go_wp2_with fail
      go_roundw
      case rel=>exact ⟨k,ans++[z],a7,c7,rfl,by rw [<- el];omega,E.out.symm,by rw [<- el],by rw [<- el];exact H8.out.1,H8.out.2.1,by rw [<- el];exact H8.out.2.2⟩
      case measure=>simp [intOf]
    | true =>
      rw [hq] at HQ hne
      have E:=Lib.hid (HP.out.symm.trans HQ)
      have CH:=Lib.hid (l2Has_any ans (k:Int) _ wr (Own.intAt HO.out) (by omega))
      rw [<- hM] at m0
      clear c0 c1 hvk hok hmb hmk hpb hpk hq HQ hM
      cases hc:ans.contains (k:Int) with
      | true =>
        rw [hc] at E CH
        clear hc
        go_wp2_with fail
        (with_reducible refine CH.out.mono ?_)
        rintro en w9 ⟨rfl,e⟩
        subst w9
        go_wp2_with fail
        go_roundw
        case rel=>exact ⟨k,ans,a,c,rfl,by omega,E.out.symm,rfl,HO.out,HB.out,HF.out⟩
        case measure=>simp [intOf]
      | false =>
        rw [hc] at E CH
        clear hc
        go_wp2_with fail
        (with_reducible refine CH.out.mono ?_)
        rintro en w9 ⟨rfl,e⟩
        subst w9
        go_wp2_with fail
        go_ret
        exact ⟨by rw [E.out];rfl,zzT HH.out.2.2.1 HB.out⟩
def allP (p:Nat->Bool):Nat->Bool
 | 0=>true
 | n+1=>allP p n && p n
theorem allP_at {p:Nat->Bool}:∀ {n i:Nat},allP p n=true->i<n->p i=true
 | 0,i,_,hi=>absurd hi (by omega)
 | n+1,i,h,hi=>by
   rw [allP,Bool.and_eq_true] at h
   rcases Nat.lt_or_ge i n with h' | h'
   ·exact allP_at h.1 h'
   ·obtain rfl:i=n:=by omega
    exact h.2
theorem allP_no {p:Nat->Bool} {n i:Nat} (h:p i=false) (hi:i<n):allP p n=false:=by
 cases hh:allP p n with
 | false=>rfl
 | true=>rw [allP_at hh hi] at h;simp at h
theorem allP_of {p:Nat->Bool}:∀ {n:Nat},(∀ i,i<n->p i=true)->allP p n=true
 | 0,_=>rfl
 | n+1,h=>by rw [allP,allP_of (fun i hi=>h i (by omega)),h n (by omega)];rfl
theorem allP_le {p:Nat->Bool} {n m:Nat} (h:allP p n=true) (hm:m<=n):allP p m=true:=allP_of fun i hi=>allP_at h (by omega)
def visAt (v:Pl) (i:Nat):Bool:=if i=0 then true else match v[i]? with
 | none=>true
 | some x=>((viewP v (byOpp x.1) i).map fun n=>((n:Nat):Int)).contains x.2
def brAt (v:Pl) (i:Nat):Bool:=match v[i]? with
 | none=>true
 | some x=>isQ x.1 || x.2 == pendF v i []
def visP (v:Pl):Bool:=allP (visAt v) v.length
def brP (v:Pl):Bool:=allP (brAt v) v.length
def legalP (v:Pl):Bool:=visP v && brP v
theorem visAt_at {v:Pl} {i:Nat} {m:Bs} {z:Int} (h:v[i]? = some (m,z)) (hi:0<i):visAt v i=((viewP v (byOpp m) i).map fun n=>((n:Nat):Int)).contains z:=by
 unfold visAt;rw [if_neg (by omega),h]
theorem brAt_at {v:Pl} {i:Nat} {m:Bs} {z:Int} (h:v[i]? = some (m,z)):brAt v i=(isQ m || z == pendF v i []):=by
 unfold brAt;rw [h]
theorem viewP_pos (v:Pl) (opp:Bool) {n:Nat} (hn:0<n):0<(viewP v opp n).length:=by
 obtain ⟨k,rfl⟩:∃ k,n=k+1:=⟨n-1,by omega⟩
 unfold viewP
 rw [viewD_succ,List.length_reverse,List.length_cons];omega
theorem viewD_len (v:Pl) (opp:Bool):∀ f n,(viewD v opp f n).length<=f
 | 0,_=>by simp [viewD]
 | f+1,0=>by rw [viewD_zero];simp
 | f+1,n+1=>by rw [viewD_succ,List.length_cons];have:=viewD_len v opp f (backTo v opp n);omega
theorem viewP_len (v:Pl) (opp:Bool) (n:Nat):(viewP v opp n).length<=n:=by
 unfold viewP;rw [List.length_reverse];exact viewD_len v opp n n
theorem contains_view {w:World} {ns:List Nat} {x:Value} (h:NatAt w ns x) (hl:ns.length<=1000000) (z:Int) :
 Calls Tryz.prog 170 #[x,.int .i64 z] w fun en w'=>en=.returned (.bool ((ns.map fun n=>((n:Nat):Int)).contains z))/\w'=w:=by
 obtain ⟨b,o,c,rfl,hb,hc⟩:=h
 refine (Tryz.slices_Contains_int b o ns.length c (ns.map fun n=>((n:Nat):Int)) z w (by simp) (by omega) (fun j hj=>?_)).mono ?_
 ·rw [List.length_map] at hj
  rw [hc j ns[j] (List.getElem?_eq_getElem hj),List.getD_eq_getElem?_getD,List.getElem?_map,List.getElem?_eq_getElem hj];rfl
 ·rintro en w' ⟨rfl,e⟩
  exact ⟨by rw [List.take_of_length_le (by simp)],e⟩
structure PlIn (F:Nat->Prop) (t:Ty) (v:Pl) (mv pt:Value) (w:World):Prop where
 m:MvRep F w v mv
 p:PtRep F w v pt
 ok:validPl t v=true
 l:∀ x∈v,x.1.length<=16777216
theorem PlIn.below {F:Nat->Prop} {t:Ty} {v:Pl} {mv pt:Value} {w w':World} (h:PlIn F t v mv pt w) (hb:Below w.heap.size w w'):PlIn F t v mv pt w':=⟨Rep.below hb (fun _ h=>h) h.m,Rep.below hb (fun _ h=>h) h.p,h.ok,h.l⟩
set_option maxRecDepth 100000 in
theorem visible_any (F:Nat->Prop) (t:Ty) (v:Pl) (mv pt:Value) (w:World) (h:PlIn F t v mv pt w) :
 Calls Tryz.prog 124 #[.agg #[mv,pt]] w fun en w'=>en=.returned (.bool (visP v))/\Below w.heap.size w w':=by
 have h60:=valid_len h.ok
 obtain ⟨ma,mc,rfl,hmc⟩:=h.m.cells
 obtain ⟨pa,pc,rfl,hpc⟩:=h.p.cells
 obtain ⟨W,hW,hbW,hz,b0⟩:=box_1 w (.cells #[.slice ma v.length mc,.slice pa v.length pc] 33)
 obtain ⟨c0,c1,_,_⟩:=cells_2 b0
 have HH:=Lib.hid (And.intro hmc (And.intro hpc (And.intro hbW (h.below hbW))))
 have HW:=Lib.hid hW
 clear h hmc hpc hz b0 hbW hW
 go_enter Tryz.func124,Tryz.ntmps124
 go_upto_region 1 with (fail)
 rw [HW.out]
 go_wp2_with fail
 go_loopw [3] (fun i wr=>∃ (wz:World) (k:Nat),wz=wr/\1<=k/\k<=v.length+1/\i=.int .i64 k/\allP (visAt v) k=true/\Below W.heap.size W wz) (fun i _=>v.length+1-(intOf i).toNat)
 case atStart=>exact ⟨_,1,rfl,Nat.le_refl _,by omega,rfl,rfl,Below.refl _ _⟩
 case round =>
  obtain ⟨wr,k,rfl,hk1,hk,rfl,hall,hB⟩:=hrel
  have d0:=(hB.cell (World.block_lt_of_cell? _ _ c0)).trans c0
  have d1:=(hB.cell (World.block_lt_of_cell? _ _ c1)).trans c1
  clear c0 c1
  have HB:=Lib.hid (And.intro hB (zzT HH.out.2.2.1 hB))
  clear hB
  by_cases hlt:k<v.length
  ·have hltI:(k:Int)<(v.length:Int):=by omega
   obtain ⟨x,p,z,hvk,hok⟩:=valid_at HH.out.2.2.2.ok hlt
   have hpl:=HH.out.2.2.2.l _ (List.mem_of_getElem? hvk)
   rw [List.length_cons] at hpl
   obtain ⟨mb,mo,rfl,_,hmb,hmk⟩:=HH.out.1 k _ hvk
   obtain ⟨pb,po,rfl,_,hpb,hpk⟩:=HH.out.2.1 k _ hvk
   have m0:=(HB.out.2.cell (p:=⟨mb,mo+k,none⟩) hmb).trans hmk
   have p0:=(HB.out.2.cell (p:=⟨pb,po+k,none⟩) hpb).trans hpk
   have PLR:=Lib.hid (fun (y:World) (hy:Below wr.heap.size wr y)=>(HH.out.2.2.2.below HB.out.1).below hy)
   have VK:=visAt_at hvk (by omega)
   have CB:=Lib.hid (byOpponent_any x p (show p.length<=16777216 by omega))
   obtain ⟨bo,hbo⟩:=zzN (byOpp (x::p))
   rw [hbo] at VK CB
   obtain ⟨cn,hcn⟩:=zzN (visAt v k)
   rw [hcn] at VK
   have CV:=Lib.hid (fun (y:World) (hy:Below wr.heap.size wr y)=>view_any F t v bo k _ _ y (PLR.out y hy).m (PLR.out y hy).p HH.out.2.2.2.ok (by omega) (by omega) HH.out.2.2.2.l)
   have HV:=Lib.hid (And.intro VK (And.intro hcn (And.intro hall hlt)))
   have KEY:=Lib.hid (fun (y:World) (hy:Below wr.heap.size wr y)=>(show y.cell? ⟨w.heap.size,0,none⟩=some (.slice (some ⟨mb,mo,none⟩) v.length mc)/\y.cell? ⟨w.heap.size,1,none⟩=some (.slice (some ⟨pb,po,none⟩) v.length pc)/\y.cell? ⟨mb,mo+k,none⟩=some (str (x::p))/\y.cell? ⟨pb,po+k,none⟩=some (.int .i64 z) from
    ⟨(hy.cell (World.block_lt_of_cell? _ _ d0)).trans d0,(hy.cell (World.block_lt_of_cell? _ _ d1)).trans d1,(hy.cell (World.block_lt_of_cell? _ _ m0)).trans m0,(hy.cell (World.block_lt_of_cell? _ _ p0)).trans p0⟩))
   clear hvk hok hpl hmb hmk hpb hpk hbo hcn VK hall
   go_upto_region 4 with (fail)
   clear d0 d1 m0 p0
   refine wp_region_noPanic ?_
   refine wp_region_S (fun w'=>Below wr.heap.size wr w') (fun _=>false) (by kernel_rfl) ?_
   have hSd:(fun w'=>Below wr.heap.size wr w') wr.drew:=Below.drew (Below.refl _ _)
   refine wpAnyS_take 0 (v:=?_) (by kernel_rfl) (by kernel_rfl) (by kernel_rfl) (by kernel_rfl) (fun _ _ _ _ h=>h) hSd ?_ ?_
   rotate_left
   ·(intro oi ho;simp at ho;subst ho;refine Or.inl ⟨by rfl,fun w' hw'=>?_⟩;have e0:=(KEY.out w' hw').1;have e1:=(KEY.out w' hw').2.1;go_simp;try with_reducible rfl)
   (intro d hd;simp at hd;subst hd;simp only [Act.put,List.setIfInBounds_toArray,List.set_cons_zero,List.set_cons_succ])
   refine wpAnyS_take 1 (v:=?_) (by kernel_rfl) (by kernel_rfl) (by kernel_rfl) (by kernel_rfl) (fun _ _ _ _ h=>h) hSd ?_ ?_
   rotate_left
   ·(intro oi ho;simp at ho;subst ho;refine Or.inl ⟨by rfl,fun w' hw'=>?_⟩;go_simp;try with_reducible rfl)
   (intro d hd;simp at hd;subst hd;simp only [Act.put,List.setIfInBounds_toArray,List.set_cons_zero,List.set_cons_succ])
   refine wpAnyS_take 2 (v:=?_) (by kernel_rfl) (by kernel_rfl) (by kernel_rfl) (by kernel_rfl) (fun _ _ _ _ h=>h) hSd ?_ ?_
   rotate_left
   ·(intro oi ho;simp at ho;subst ho;refine Or.inl ⟨by rfl,fun w' hw'=>?_⟩;go_simp;try with_reducible rfl)
   (intro d hd;simp at hd;subst hd;simp only [Act.put,List.setIfInBounds_toArray,List.set_cons_zero,List.set_cons_succ])
   refine wpAnyS_take 3 (v:=?_) (by kernel_rfl) (by kernel_rfl) (by kernel_rfl) (by kernel_rfl) (fun _ _ _ _ h=>h) hSd ?_ ?_
   rotate_left
   ·(intro oi ho;simp at ho;subst ho;refine Or.inl ⟨by rfl,fun w' hw'=>?_⟩;have e0:=(KEY.out w' hw').1;go_simp;try with_reducible rfl)
   (intro d hd;simp at hd;subst hd;simp only [Act.put,List.setIfInBounds_toArray,List.set_cons_zero,List.set_cons_succ])
   refine wpAnyS_take 4 (v:=?_) (by kernel_rfl) (by kernel_rfl) (by kernel_rfl) (by kernel_rfl) (fun _ _ _ _ h=>h) hSd ?_ ?_
   rotate_left
   ·(intro oi ho;simp at ho;subst ho;refine Or.inl ⟨by rfl,fun w' hw'=>?_⟩;go_simp;try with_reducible rfl)
   (intro d hd;simp at hd;subst hd;simp only [Act.put,List.setIfInBounds_toArray,List.set_cons_zero,List.set_cons_succ])
   refine wpAnyS_take 5 (v:=?_) (by kernel_rfl) (by kernel_rfl) (by kernel_rfl) (by kernel_rfl) (fun _ _ _ _ h=>h) hSd ?_ ?_
   rotate_left
   ·(intro oi ho;simp at ho;subst ho;refine Or.inl ⟨by rfl,fun w' hw'=>?_⟩;go_simp;try with_reducible rfl)
   (intro d hd;simp at hd;subst hd;simp only [Act.put,List.setIfInBounds_toArray,List.set_cons_zero,List.set_cons_succ])
   refine wpAnyS_take 6 (v:=?_) (by kernel_rfl) (by kernel_rfl) (by kernel_rfl) (by kernel_rfl) (fun _ _ _ _ h=>h) hSd ?_ ?_
   rotate_left
   ·(intro oi ho;simp at ho;subst ho;refine Or.inl ⟨by rfl,fun w' hw'=>?_⟩;have e0:=(KEY.out w' hw').2.2.1;go_simp;try with_reducible rfl)
   (intro d hd;simp at hd;subst hd;simp only [Act.put,List.setIfInBounds_toArray,List.set_cons_zero,List.set_cons_succ])
   refine wpAnyS_take 9 (v:=?_) (by kernel_rfl) (by kernel_rfl) (by kernel_rfl) (by kernel_rfl) (fun _ _ _ _ h=>h) hSd ?_ ?_
   rotate_left
   ·(intro oi ho;simp at ho;subst ho;refine Or.inl ⟨by rfl,fun w' hw'=>?_⟩;go_simp;try with_reducible rfl)
   (intro d hd;simp at hd;subst hd;simp only [Act.put,List.setIfInBounds_toArray,List.set_cons_zero,List.set_cons_succ])
   refine wpAnyS_take 10 (v:=?_) (by kernel_rfl) (by kernel_rfl) (by kernel_rfl) (by kernel_rfl) (fun _ _ _ _ h=>h) hSd ?_ ?_
   rotate_left
   ·(intro oi ho;simp at ho;subst ho;refine Or.inl ⟨by rfl,fun w' hw'=>?_⟩;have e0:=(KEY.out w' hw').2.1;go_simp;try with_reducible rfl)
   (intro d hd;simp at hd;subst hd;simp only [Act.put,List.setIfInBounds_toArray,List.set_cons_zero,List.set_cons_succ])
   refine wpAnyS_take 11 (v:=?_) (by kernel_rfl) (by kernel_rfl) (by kernel_rfl) (by kernel_rfl) (fun _ _ _ _ h=>h) hSd ?_ ?_
   rotate_left
   ·(intro oi ho;simp at ho;subst ho;refine Or.inl ⟨by rfl,fun w' hw'=>?_⟩;go_simp;try with_reducible rfl)
   (intro d hd;simp at hd;subst hd;simp only [Act.put,List.setIfInBounds_toArray,List.set_cons_zero,List.set_cons_succ])
   refine wpAnyS_take 12 (v:=?_) (by kernel_rfl) (by kernel_rfl) (by kernel_rfl) (by kernel_rfl) (fun _ _ _ _ h=>h) hSd ?_ ?_
   rotate_left
   ·(intro oi ho;simp at ho;subst ho;refine Or.inl ⟨by rfl,fun w' hw'=>?_⟩;go_simp;try with_reducible rfl)
   (intro d hd;simp at hd;subst hd;simp only [Act.put,List.setIfInBounds_toArray,List.set_cons_zero,List.set_cons_succ])
   refine wpAnyS_take 13 (v:=?_) (by kernel_rfl) (by kernel_rfl) (by kernel_rfl) (by kernel_rfl) (fun _ _ _ _ h=>h) hSd ?_ ?_
   rotate_left
   ·(intro oi ho;simp at ho;subst ho;refine Or.inl ⟨by rfl,fun w' hw'=>?_⟩;have e0:=(KEY.out w' hw').2.2.2;go_simp;try with_reducible rfl)
   (intro d hd;simp at hd;subst hd;simp only [Act.put,List.setIfInBounds_toArray,List.set_cons_zero,List.set_cons_succ])
   refine wpAnyS_one 7 (by kernel_rfl) ?_
   (intro o7 ho K' hK;simp at ho;subst ho)
   go_simp
   go_at_call 141
   (with_reducible refine (CB.out _).mono ?_)
   rintro en x7 ⟨rfl,e⟩
   subst x7
   refine hK.out _ _ ?_ ?_
   ·exact fun _=>hSd
   clear hK K'
   (try simp only [Act.put,List.setIfInBounds_toArray,List.set_cons_zero,List.set_cons_succ])
   refine wpAnyS_one 8 (by kernel_rfl) ?_
   (intro o8 ho K' hK;simp at ho;subst ho)
   go_simp
   go_at_call 87
   (with_reducible refine (CV.out _ hSd).mono ?_)
   rintro en x8 ⟨xv,rfl,hb8,hn8⟩
   have hB8:Below wr.heap.size wr x8:=zzT hSd hb8
   have CC:=contains_view hn8 (by have:=viewP_len v bo k;omega) z
   rw [<- HV.out.1] at CC
   refine hK.out _ _ ?_ ?_
   ·exact fun _=>hB8
   clear hK K'
   (try simp only [Act.put,List.setIfInBounds_toArray,List.set_cons_zero,List.set_cons_succ])
   refine wpAnyS_one 14 (by kernel_rfl) ?_
   (intro o14 ho K' hK;simp at ho;subst ho)
   go_simp
   go_at_call 170
   (with_reducible refine CC.mono ?_)
   rintro en x14 ⟨rfl,e⟩
   subst x14
   clear CC
   refine hK.out _ _ ?_ ?_
   ·exact fun _=>hB8
   clear hK K'
   (try simp only [Act.put,List.setIfInBounds_toArray,List.set_cons_zero,List.set_cons_succ])
   have hS14:=hB8
   refine wpAnyS_take 15 (v:=?_) (by kernel_rfl) (by kernel_rfl) (by kernel_rfl) (by kernel_rfl) (fun _ _ _ _ h=>h) hS14 ?_ ?_
   rotate_left
   ·(intro oi ho;simp at ho;subst ho;refine Or.inl ⟨by rfl,fun w' hw'=>?_⟩;go_simp;try with_reducible rfl)
   (intro d hd;simp at hd;subst hd;simp only [Act.put,List.setIfInBounds_toArray,List.set_cons_zero,List.set_cons_succ])
   refine wpAnyS_done (by kernel_rfl) (NoPanic.normal ?_) _
   have HB8:=Lib.hid hB8
   clear hB8 hb8 hn8 hSd hS14 KEY CV CB PLR
   cases cn with
   | true =>
     have E:=Lib.hid (show allP (visAt v) (k+1)=true by rw [allP,HV.out.2.2.1,HV.out.2.1];rfl)
     go_wp2_with fail
     go_roundw
     case rel=>exact ⟨_,k+1,rfl,by omega,by omega,by go_num,E.out,zzT HB.out.1 HB8.out⟩
     case measure=>simp [intOf];omega
   | false =>
     have E:=Lib.hid (show visP v=false from allP_no HV.out.2.1 HV.out.2.2.2)
     go_wp2_with fail
     go_ret
     exact ⟨by rw [E.out];rfl,zzT HB.out.2 HB8.out⟩
  ·have E:=Lib.hid (show visP v=true from allP_le hall (by omega))
   have hltI:¬ (k:Int)<(v.length:Int):=by omega
   clear hall
   go_wp2_with fail
   go_ret
   exact ⟨by rw [E.out];rfl,HB.out.2⟩
set_option maxRecDepth 100000 in
theorem bracketed_any (F:Nat->Prop) (t:Ty) (v:Pl) (mv pt:Value) (w:World) (h:PlIn F t v mv pt w) :
 Calls Tryz.prog 125 #[.agg #[mv,pt]] w fun en w'=>en=.returned (.bool (brP v))/\Below w.heap.size w w':=by
 have h60:=valid_len h.ok
 obtain ⟨ma,mc,rfl,hmc⟩:=h.m.cells
 obtain ⟨pa,pc,rfl,hpc⟩:=h.p.cells
 obtain ⟨W,hW,hbW,hz,b0⟩:=box_1 w (.cells #[.slice ma v.length mc,.slice pa v.length pc] 33)
 obtain ⟨c0,c1,_,_⟩:=cells_2 b0
 have HH:=Lib.hid (And.intro hmc (And.intro hpc (And.intro hbW (h.below hbW))))
 have HW:=Lib.hid hW
 clear h hmc hpc hz b0 hbW hW
 go_enter Tryz.func125,Tryz.ntmps125
 go_upto_region 1 with (fail)
 rw [HW.out]
 go_wp2_with fail
 go_loopw [8] (fun i wr=>∃ (wz:World) (k:Nat),wz=wr/\k<=v.length/\i=.int .i64 k/\allP (brAt v) k=true/\Below W.heap.size W wz) (fun i _=>v.length-(intOf i).toNat)
 case atStart=>exact ⟨_,0,rfl,Nat.zero_le _,rfl,rfl,Below.refl _ _⟩
 case round =>
  obtain ⟨wr,k,rfl,hk,rfl,hall,hB⟩:=hrel
  have d0:=(hB.cell (World.block_lt_of_cell? _ _ c0)).trans c0
  have d1:=(hB.cell (World.block_lt_of_cell? _ _ c1)).trans c1
  clear c0 c1
  have HB:=Lib.hid (And.intro hB (zzT HH.out.2.2.1 hB))
  clear hB
  by_cases hlt:k<v.length
  ·have hltI:(k:Int)<(v.length:Int):=by omega
   obtain ⟨x,p,z,hvk,hok⟩:=valid_at HH.out.2.2.2.ok hlt
   obtain ⟨mb,mo,rfl,_,hmb,hmk⟩:=HH.out.1 k _ hvk
   obtain ⟨pb,po,rfl,_,hpb,hpk⟩:=HH.out.2.1 k _ hvk
   have m0:=(HB.out.2.cell (p:=⟨mb,mo+k,none⟩) hmb).trans hmk
   have p0:=(HB.out.2.cell (p:=⟨pb,po+k,none⟩) hpb).trans hpk
   have PLR:=Lib.hid (fun (y:World) (hy:Below wr.heap.size wr y)=>(HH.out.2.2.2.below HB.out.1).below hy)
   have VK:=brAt_at hvk
   have CB:=Lib.hid (isQuestion_any x p)
   obtain ⟨q,hq⟩:=zzN (isQ (x::p))
   obtain ⟨M,hM⟩:=zzM (x::p)
   obtain ⟨cn,hcn⟩:=zzN (brAt v k)
   rw [hq] at VK CB
   rw [hcn] at VK
   rw [<- hM] at m0 CB
   have CV:=Lib.hid (fun (y:World) (hy:Below wr.heap.size wr y)=>pending_any F t v k _ _ y (PLR.out y hy).m (PLR.out y hy).p HH.out.2.2.2.ok (by omega))
   have KEY:=Lib.hid (fun (y:World) (hy:Below wr.heap.size wr y)=>(show y.cell? ⟨w.heap.size,0,none⟩=some (.slice (some ⟨mb,mo,none⟩) v.length mc)/\y.cell? ⟨w.heap.size,1,none⟩=some (.slice (some ⟨pb,po,none⟩) v.length pc)/\y.cell? ⟨pb,po+k,none⟩=some (.int .i64 z) from
    ⟨(hy.cell (World.block_lt_of_cell? _ _ d0)).trans d0,(hy.cell (World.block_lt_of_cell? _ _ d1)).trans d1,(hy.cell (World.block_lt_of_cell? _ _ p0)).trans p0⟩))
   have HV:=Lib.hid (And.intro hcn (And.intro hall hlt))
   generalize hpe:pendF v k []=pe at *
   clear hvk hok hmb hmk hpb hpk hq hcn hall hpe hM
   cases q with
   | true =>
     obtain rfl:cn=true:=by rw [VK];rfl
     clear VK
     go_upto_region 4 with (fail)
     clear d0 d1 m0 p0
     refine wp_region_noPanic ?_
     refine wp_region_S (fun w'=>Below wr.heap.size wr w') (fun _=>false) (by kernel_rfl) ?_
     have hSd:(fun w'=>Below wr.heap.size wr w') wr.drew:=Below.drew (Below.refl _ _)
     refine wpAnyS_take 0 (v:=?_) (by kernel_rfl) (by kernel_rfl) (by kernel_rfl) (by kernel_rfl) (fun _ _ _ _ h=>h) hSd ?_ ?_
     rotate_left
     ·(intro oi ho;simp at ho;subst ho;refine Or.inl ⟨by rfl,fun w' hw'=>?_⟩;go_simp;try with_reducible rfl)
     (intro d hd;simp at hd;subst hd;simp only [Act.put,List.setIfInBounds_toArray,List.set_cons_zero,List.set_cons_succ])
     refine wpAnyS_one 1 (by kernel_rfl) ?_
     (intro o1 ho K' hK;simp at ho;subst ho)
     go_simp
     go_at_call 171
     (with_reducible refine (CB.out _).mono ?_)
     rintro en x1 ⟨rfl,e⟩
     subst x1
     refine hK.out _ _ ?_ ?_
     ·exact fun _=>hSd
     clear hK K'
     (try simp only [Act.put,List.setIfInBounds_toArray,List.set_cons_zero,List.set_cons_succ])
     refine wpAnyS_take 2 (v:=?_) (by kernel_rfl) (by kernel_rfl) (by kernel_rfl) (by kernel_rfl) (fun _ _ _ _ h=>h) hSd ?_ ?_
     rotate_left
     ·(intro oi ho;simp at ho;subst ho;refine Or.inl ⟨by rfl,fun w' hw'=>?_⟩;go_simp;try with_reducible rfl)
     (intro d hd;simp at hd;subst hd;simp only [Act.put,List.setIfInBounds_toArray,List.set_cons_zero,List.set_cons_succ])
     refine wpAnyS_take 3 (v:=?_) (by kernel_rfl) (by kernel_rfl) (by kernel_rfl) (by kernel_rfl) (fun _ _ _ _ h=>h) hSd ?_ ?_
     rotate_left
     ·(intro oi ho;simp at ho;subst ho;refine Or.inl ⟨by rfl,fun w' hw'=>?_⟩;go_simp;try with_reducible rfl)
     (intro d hd;simp at hd;subst hd;simp only [Act.put,List.setIfInBounds_toArray,List.set_cons_zero,List.set_cons_succ])
     refine wpAnyS_take 4 (v:=undef) (by kernel_rfl) (by kernel_rfl) (by kernel_rfl) (by kernel_rfl) (fun _ _ _ _ h=>h) hSd (fun oi ho=>by simp at ho;subst ho;exact Or.inr ⟨by rfl,rfl⟩) ?_
     (intro d hd;simp at hd;subst hd;simp only [Act.put,List.setIfInBounds_toArray,List.set_cons_zero,List.set_cons_succ])
     refine wpAnyS_take 5 (v:=undef) (by kernel_rfl) (by kernel_rfl) (by kernel_rfl) (by kernel_rfl) (fun _ _ _ _ h=>h) hSd (fun oi ho=>by simp at ho;subst ho;exact Or.inr ⟨by rfl,rfl⟩) ?_
     (intro d hd;simp at hd;subst hd;simp only [Act.put,List.setIfInBounds_toArray,List.set_cons_zero,List.set_cons_succ])
     refine wpAnyS_take 6 (v:=undef) (by kernel_rfl) (by kernel_rfl) (by kernel_rfl) (by kernel_rfl) (fun _ _ _ _ h=>h) hSd (fun oi ho=>by simp at ho;subst ho;exact Or.inr ⟨by rfl,rfl⟩) ?_
     (intro d hd;simp at hd;subst hd;simp only [Act.put,List.setIfInBounds_toArray,List.set_cons_zero,List.set_cons_succ])
     refine wpAnyS_take 7 (v:=undef) (by kernel_rfl) (by kernel_rfl) (by kernel_rfl) (by kernel_rfl) (fun _ _ _ _ h=>h) hSd (fun oi ho=>by simp at ho;subst ho;exact Or.inr ⟨by rfl,rfl⟩) ?_
     (intro d hd;simp at hd;subst hd;simp only [Act.put,List.setIfInBounds_toArray,List.set_cons_zero,List.set_cons_succ])
     refine wpAnyS_take 8 (v:=undef) (by kernel_rfl) (by kernel_rfl) (by kernel_rfl) (by kernel_rfl) (fun _ _ _ _ h=>h) hSd (fun oi ho=>by simp at ho;subst ho;exact Or.inr ⟨by rfl,rfl⟩) ?_
     (intro d hd;simp at hd;subst hd;simp only [Act.put,List.setIfInBounds_toArray,List.set_cons_zero,List.set_cons_succ])
     refine wpAnyS_take 9 (v:=undef) (by kernel_rfl) (by kernel_rfl) (by kernel_rfl) (by kernel_rfl) (fun _ _ _ _ h=>h) hSd (fun oi ho=>by simp at ho;subst ho;exact Or.inr ⟨by rfl,rfl⟩) ?_
     (intro d hd;simp at hd;subst hd;simp only [Act.put,List.setIfInBounds_toArray,List.set_cons_zero,List.set_cons_succ])
     refine wpAnyS_take 10 (v:=undef) (by kernel_rfl) (by kernel_rfl) (by kernel_rfl) (by kernel_rfl) (fun _ _ _ _ h=>h) hSd (fun oi ho=>by simp at ho;subst ho;exact Or.inr ⟨by rfl,rfl⟩) ?_
     (intro d hd;simp at hd;subst hd;simp only [Act.put,List.setIfInBounds_toArray,List.set_cons_zero,List.set_cons_succ])
     refine wpAnyS_take 11 (v:=undef) (by kernel_rfl) (by kernel_rfl) (by kernel_rfl) (by kernel_rfl) (fun _ _ _ _ h=>h) hSd (fun oi ho=>by simp at ho;subst ho;exact Or.inr ⟨by rfl,rfl⟩) ?_
     (intro d hd;simp at hd;subst hd;simp only [Act.put,List.setIfInBounds_toArray,List.set_cons_zero,List.set_cons_succ])
     refine wpAnyS_take 12 (v:=undef) (by kernel_rfl) (by kernel_rfl) (by kernel_rfl) (by kernel_rfl) (fun _ _ _ _ h=>h) hSd (fun oi ho=>by simp at ho;subst ho;exact Or.inr ⟨by rfl,rfl⟩) ?_
     (intro d hd;simp at hd;subst hd;simp only [Act.put,List.setIfInBounds_toArray,List.set_cons_zero,List.set_cons_succ])
     refine wpAnyS_take 13 (v:=?_) (by kernel_rfl) (by kernel_rfl) (by kernel_rfl) (by kernel_rfl) (fun _ _ _ _ h=>h) hSd ?_ ?_
     rotate_left
     ·(intro oi ho;simp at ho;subst ho;refine Or.inl ⟨by rfl,fun w' hw'=>?_⟩;go_simp;try with_reducible rfl)
     (intro d hd;simp at hd;subst hd;simp only [Act.put,List.setIfInBounds_toArray,List.set_cons_zero,List.set_cons_succ])
     refine wpAnyS_done (by kernel_rfl) (NoPanic.normal ?_) _
     have E:=Lib.hid (show allP (brAt v) (k+1)=true by rw [allP,HV.out.2.1,HV.out.1];rfl)
     clear KEY CV CB PLR hSd
     go_wp2_with fail
     go_roundw
     case rel=>exact ⟨_,k+1,rfl,by omega,by go_num,E.out,HB.out.1.drew⟩
     case measure=>simp [intOf];omega
   | false =>
     rw [Bool.false_or] at VK
     go_upto_region 4 with (fail)
     clear d0 d1 m0 p0
     refine wp_region_noPanic ?_
     refine wp_region_S (fun w'=>Below wr.heap.size wr w') (fun _=>false) (by kernel_rfl) ?_
     have hSd:(fun w'=>Below wr.heap.size wr w') wr.drew:=Below.drew (Below.refl _ _)
     refine wpAnyS_take 0 (v:=?_) (by kernel_rfl) (by kernel_rfl) (by kernel_rfl) (by kernel_rfl) (fun _ _ _ _ h=>h) hSd ?_ ?_
     rotate_left
     ·(intro oi ho;simp at ho;subst ho;refine Or.inl ⟨by rfl,fun w' hw'=>?_⟩;go_simp;try with_reducible rfl)
     (intro d hd;simp at hd;subst hd;simp only [Act.put,List.setIfInBounds_toArray,List.set_cons_zero,List.set_cons_succ])
     refine wpAnyS_one 1 (by kernel_rfl) ?_
     (intro o1 ho K' hK;simp at ho;subst ho)
     go_simp
     go_at_call 171
     (with_reducible refine (CB.out _).mono ?_)
     rintro en x1 ⟨rfl,e⟩
     subst x1
     refine hK.out _ _ ?_ ?_
     ·exact fun _=>hSd
     clear hK K'
     (try simp only [Act.put,List.setIfInBounds_toArray,List.set_cons_zero,List.set_cons_succ])
     refine wpAnyS_take 2 (v:=?_) (by kernel_rfl) (by kernel_rfl) (by kernel_rfl) (by kernel_rfl) (fun _ _ _ _ h=>h) hSd ?_ ?_
     rotate_left
     ·(intro oi ho;simp at ho;subst ho;refine Or.inl ⟨by rfl,fun w' hw'=>?_⟩;go_simp;try with_reducible rfl)
     (intro d hd;simp at hd;subst hd;simp only [Act.put,List.setIfInBounds_toArray,List.set_cons_zero,List.set_cons_succ])
     refine wpAnyS_take 3 (v:=?_) (by kernel_rfl) (by kernel_rfl) (by kernel_rfl) (by kernel_rfl) (fun _ _ _ _ h=>h) hSd ?_ ?_
     rotate_left
     ·(intro oi ho;simp at ho;subst ho;refine Or.inl ⟨by rfl,fun w' hw'=>?_⟩;go_simp;try with_reducible rfl)
     (intro d hd;simp at hd;subst hd;simp only [Act.put,List.setIfInBounds_toArray,List.set_cons_zero,List.set_cons_succ])
     refine wpAnyS_take 4 (v:=?_) (by kernel_rfl) (by kernel_rfl) (by kernel_rfl) (by kernel_rfl) (fun _ _ _ _ h=>h) hSd ?_ ?_
     rotate_left
     ·(intro oi ho;simp at ho;subst ho;refine Or.inl ⟨by rfl,fun w' hw'=>?_⟩;go_simp;try with_reducible rfl)
     (intro d hd;simp at hd;subst hd;simp only [Act.put,List.setIfInBounds_toArray,List.set_cons_zero,List.set_cons_succ])
     refine wpAnyS_take 5 (v:=?_) (by kernel_rfl) (by kernel_rfl) (by kernel_rfl) (by kernel_rfl) (fun _ _ _ _ h=>h) hSd ?_ ?_
     rotate_left
     ·(intro oi ho;simp at ho;subst ho;refine Or.inl ⟨by rfl,fun w' hw'=>?_⟩;have e0:=(KEY.out w' hw').2.1;go_simp;try with_reducible rfl)
     (intro d hd;simp at hd;subst hd;simp only [Act.put,List.setIfInBounds_toArray,List.set_cons_zero,List.set_cons_succ])
     refine wpAnyS_take 6 (v:=?_) (by kernel_rfl) (by kernel_rfl) (by kernel_rfl) (by kernel_rfl) (fun _ _ _ _ h=>h) hSd ?_ ?_
     rotate_left
     ·(intro oi ho;simp at ho;subst ho;refine Or.inl ⟨by rfl,fun w' hw'=>?_⟩;go_simp;try with_reducible rfl)
     (intro d hd;simp at hd;subst hd;simp only [Act.put,List.setIfInBounds_toArray,List.set_cons_zero,List.set_cons_succ])
     refine wpAnyS_take 7 (v:=?_) (by kernel_rfl) (by kernel_rfl) (by kernel_rfl) (by kernel_rfl) (fun _ _ _ _ h=>h) hSd ?_ ?_
     rotate_left
     ·(intro oi ho;simp at ho;subst ho;refine Or.inl ⟨by rfl,fun w' hw'=>?_⟩;go_simp;try with_reducible rfl)
     (intro d hd;simp at hd;subst hd;simp only [Act.put,List.setIfInBounds_toArray,List.set_cons_zero,List.set_cons_succ])
     refine wpAnyS_take 8 (v:=?_) (by kernel_rfl) (by kernel_rfl) (by kernel_rfl) (by kernel_rfl) (fun _ _ _ _ h=>h) hSd ?_ ?_
     rotate_left
     ·(intro oi ho;simp at ho;subst ho;refine Or.inl ⟨by rfl,fun w' hw'=>?_⟩;have e0:=(KEY.out w' hw').2.2;go_simp;try with_reducible rfl)
     (intro d hd;simp at hd;subst hd;simp only [Act.put,List.setIfInBounds_toArray,List.set_cons_zero,List.set_cons_succ])
     refine wpAnyS_take 9 (v:=?_) (by kernel_rfl) (by kernel_rfl) (by kernel_rfl) (by kernel_rfl) (fun _ _ _ _ h=>h) hSd ?_ ?_
     rotate_left
     ·(intro oi ho;simp at ho;subst ho;refine Or.inl ⟨by rfl,fun w' hw'=>?_⟩;have e0:=(KEY.out w' hw').1;have e1:=(KEY.out w' hw').2.1;go_simp;try with_reducible rfl)
     (intro d hd;simp at hd;subst hd;simp only [Act.put,List.setIfInBounds_toArray,List.set_cons_zero,List.set_cons_succ])
     refine wpAnyS_take 10 (v:=?_) (by kernel_rfl) (by kernel_rfl) (by kernel_rfl) (by kernel_rfl) (fun _ _ _ _ h=>h) hSd ?_ ?_
     rotate_left
     ·(intro oi ho;simp at ho;subst ho;refine Or.inl ⟨by rfl,fun w' hw'=>?_⟩;go_simp;try with_reducible rfl)
     (intro d hd;simp at hd;subst hd;simp only [Act.put,List.setIfInBounds_toArray,List.set_cons_zero,List.set_cons_succ])
     refine wpAnyS_one 11 (by kernel_rfl) ?_
     (intro o11 ho K' hK;simp at ho;subst ho)
     go_simp
     go_at_call 172
     (with_reducible refine (CV.out _ hSd).mono ?_)
     rintro en x11 ⟨rfl,hb11⟩
     have hB8:Below wr.heap.size wr x11:=zzT hSd hb11
     refine hK.out _ _ ?_ ?_
     ·exact fun _=>hB8
     clear hK K'
     (try simp only [Act.put,List.setIfInBounds_toArray,List.set_cons_zero,List.set_cons_succ])
     have hS11:=hB8
     refine wpAnyS_take 12 (v:=?_) (by kernel_rfl) (by kernel_rfl) (by kernel_rfl) (by kernel_rfl) (fun _ _ _ _ h=>h) hS11 ?_ ?_
     rotate_left
     ·(intro oi ho;simp at ho;subst ho;refine Or.inl ⟨by rfl,fun w' hw'=>?_⟩;go_simp;try with_reducible rfl)
     (intro d hd;simp at hd;subst hd;simp only [Act.put,List.setIfInBounds_toArray,List.set_cons_zero,List.set_cons_succ])
     refine wpAnyS_take 13 (v:=?_) (by kernel_rfl) (by kernel_rfl) (by kernel_rfl) (by kernel_rfl) (fun _ _ _ _ h=>h) hS11 ?_ ?_
     rotate_left
     ·(intro oi ho;simp at ho;subst ho;refine Or.inl ⟨by rfl,fun w' hw'=>?_⟩;go_simp;try with_reducible rfl)
     (intro d hd;simp at hd;subst hd;simp only [Act.put,List.setIfInBounds_toArray,List.set_cons_zero,List.set_cons_succ])
     refine wpAnyS_done (by kernel_rfl) (NoPanic.normal ?_) _
     have HB8:=Lib.hid hB8
     clear KEY CV CB PLR hSd hB8 hS11 hb11
     cases cn with
     | true =>
       have hne:(z != pe)=false:=by rw [bne,<- VK];rfl
       clear VK
       have E:=Lib.hid (show allP (brAt v) (k+1)=true by rw [allP,HV.out.2.1,HV.out.1];rfl)
       go_wp2_with fail
       go_roundw
       case rel=>exact ⟨_,k+1,rfl,by omega,by go_num,E.out,zzT HB.out.1 HB8.out⟩
       case measure=>simp [intOf];omega
     | false =>
       have hne:(z != pe)=true:=by rw [bne,<- VK];rfl
       clear VK
       have E:=Lib.hid (show brP v=false from allP_no HV.out.1 HV.out.2.2)
       go_wp2_with fail
       go_ret
       exact ⟨by rw [E.out];rfl,zzT HB.out.2 HB8.out⟩
  ·obtain rfl:k=v.length:=by omega
   have E:=Lib.hid (show brP v=true from hall)
   clear hall
   go_wp2_with fail
   go_ret
   exact ⟨by rw [E.out];rfl,HB.out.2⟩
set_option maxRecDepth 100000 in
theorem legal_any (F:Nat->Prop) (t:Ty) (v:Pl) (mv pt:Value) (w:World) (h:PlIn F t v mv pt w) :
 Calls Tryz.prog 73 #[.agg #[mv,pt]] w fun en w'=>en=.returned (.bool (legalP v))/\Below w.heap.size w w':=by
 obtain ⟨ma,mc,rfl,hmc⟩:=h.m.cells
 obtain ⟨pa,pc,rfl,hpc⟩:=h.p.cells
 obtain ⟨W,hW,hbW,hz,b0⟩:=box_1 w (.cells #[.slice ma v.length mc,.slice pa v.length pc] 33)
 have C1:=Lib.hid (visible_any F t v _ _ W (h.below hbW))
 have C2:=Lib.hid (fun (y:World) (hy:Below W.heap.size W y)=>bracketed_any F t v _ _ y ((h.below hbW).below hy))
 have HL:Hid (legalP v=(visP v && brP v)):=Lib.hid rfl
 have HW:=Lib.hid (And.intro hW (And.intro hbW b0))
 generalize visP v=b1 at *
 generalize brP v=b2 at *
 obtain ⟨c0,c1,_,_⟩:=cells_2 b0
 clear h hmc hpc hz b0 hbW hW
 go_enter Tryz.func73,Tryz.ntmps73
 go_upto_region 1 with (fail)
 rw [HW.out.1]
 go_wp2_with fail
 (with_reducible refine C1.out.mono ?_)
 rintro en w1 ⟨rfl,hb1⟩
 cases b1 with
 | false =>
   have HB:=Lib.hid (zzT HW.out.2.1 hb1)
   clear hb1 c0 c1
   go_wp2_with fail
   go_ret
   exact ⟨by rw [HL.out];rfl,HB.out⟩
 | true =>
   have d0:=(hb1.cell (World.block_lt_of_cell? _ _ c0)).trans c0
   have d1:=(hb1.cell (World.block_lt_of_cell? _ _ c1)).trans c1
   have C2':=Lib.hid (C2.out w1 hb1)
   have HB:=Lib.hid (zzT HW.out.2.1 hb1)
   clear hb1 c0 c1 C2
   go_wp2_with fail
   (with_reducible refine C2'.out.mono ?_)
   rintro en w2 ⟨rfl,hb2⟩
   have HB2:=Lib.hid (zzT HB.out hb2)
   clear hb2
   go_wp2_with fail
   go_ret
   exact ⟨by rw [HL.out,Bool.true_and];rfl,HB2.out⟩
def legalOk (s:Bs) (ms:List Bs) (ps:List Int):Bool:=playOk s ms ps && legalP (ms.zip ps)
theorem playOk_zip {s:Bs} {ms:List Bs} {ps:List Int} (h:playOk s ms ps=true):ps.length=ms.length/\validPl (specType s).1 (ms.zip ps)=true/\atomsT (specType s).1<=15:=by
 unfold playOk validIn at h
 simp only [Bool.and_eq_true,decide_eq_true_eq] at h
 obtain ⟨h1,h2,h3,h4⟩:=h
 refine ⟨h3,?_,(specType_canon h1).2⟩
 unfold validPl
 rw [h4,Bool.and_true]
 simp only [decide_eq_true_eq]
 rw [List.length_zip];omega
theorem plIn_zip {F:Nat->Prop} {s:Bs} {ms:List Bs} {ps:List Int} {mv pt:Value} {w:World} (hm:MsRep F w ms mv) (hp:PsRep F w ps pt) (hl:∀ x∈ms,Lim x.length) (h:playOk s ms ps=true):PlIn F (specType s).1 (ms.zip ps) mv pt w:=by
 obtain ⟨h1,h2,_⟩:=playOk_zip h
 exact ⟨hm.zip h1,hp.zip h1,h2,fun x hx=>(hl _ (List.of_mem_zip hx).1).le⟩
set_option maxRecDepth 100000 in
theorem implPlayLegal_any (F:Nat->Prop) (s:Bs) (mv pt:Value) (ms:List Bs) (ps:List Int) (w:World) (hs:Lim s.length) (hm:MsRep F w ms mv) (hp:PsRep F w ps pt) (hl:∀ x∈ms,Lim x.length) :
 Calls Tryz.prog 27 #[str s,.agg #[mv,pt]] w fun en w'=>en=.returned (.bool (legalOk s ms ps))/\Below w.heap.size w w':=by
 obtain ⟨ma,mc,rfl⟩:=hm.slice
 obtain ⟨pa,pc,rfl⟩:=hp.slice
 obtain ⟨W,hW,hbW,hz,b0⟩:=box_1 w (.cells #[.slice ma ms.length mc,.slice pa ps.length pc] 33)
 obtain ⟨c0,c1,_,_⟩:=cells_2 b0
 have hmW:=hm.below hbW (fun _ h=>h)
 have hpW:=hp.below hbW (fun _ h=>h)
 have C1:=Lib.hid (implPlayValid_any F s _ _ ms ps W hs hmW hpW hl)
 have C2:=Lib.hid (fun (y:World) (hy:Below W.heap.size W y) (h:playOk s ms ps=true)=>legal_any F _ _ _ _ y ((plIn_zip hmW hpW hl h).below hy))
 have HL:Hid (legalOk s ms ps=(playOk s ms ps && legalP (ms.zip ps))):=Lib.hid rfl
 have HW:=Lib.hid (And.intro hW (And.intro hbW b0))
 generalize playOk s ms ps=b1 at *
 generalize legalP (ms.zip ps)=b2 at *
 clear hm hp hz b0 hbW hW hmW hpW hl hs
 go_enter Tryz.func27,Tryz.ntmps27
 go_upto_region 1 with (fail)
 rw [HW.out.1]
 go_wp2_with fail
 (with_reducible refine C1.out.mono ?_)
 rintro en w1 ⟨rfl,hb1⟩
 cases b1 with
 | false =>
   have HB:=Lib.hid (zzT HW.out.2.1 hb1)
   clear hb1 c0 c1
   go_wp2_with fail
   go_ret
   exact ⟨by rw [HL.out];rfl,HB.out⟩
 | true =>
   have d0:=(hb1.cell (World.block_lt_of_cell? _ _ c0)).trans c0
   have d1:=(hb1.cell (World.block_lt_of_cell? _ _ c1)).trans c1
   have C2':=Lib.hid (C2.out w1 hb1 rfl)
   have HB:=Lib.hid (zzT HW.out.2.1 hb1)
   clear hb1 c0 c1 C2
   go_wp2_with fail
   (with_reducible refine C2'.out.mono ?_)
   rintro en w2 ⟨rfl,hb2⟩
   have HB2:=Lib.hid (zzT HB.out hb2)
   clear hb2
   go_wp2_with fail
   go_ret
   exact ⟨by rw [HL.out,Bool.true_and];rfl,HB2.out⟩

def StRep (F:Nat->Prop) (w:World) (s:St) (bv lsl:Value):Prop:=Rep F w (encB s.1) bv/\LvRep F w s.2.1 lsl
theorem StRep.keep {F F':Nat->Prop} {w w':World} {s:St} {bv lsl:Value} (h:StRep F w s bv lsl) (hk:∀ b o,F b->w.heap[b]? = some o->F' b/\w'.heap[b]? = some o):StRep F' w' s bv lsl:=⟨(Rep.keep hk).1 _ _ h.1,(Rep.keep hk).1 _ _ h.2⟩
def BehS (s':St) (F:Nat->Prop) (w:World) (en:Ending) (w':World):Prop :=
 ∃ ba la lc,en=.returned (.agg #[.pointer (some ⟨ba,0,none⟩),.slice la s'.2.1.length lc,.int .i64 (s'.2.2.1:Nat),str s'.2.2.2])/\Below w.heap.size w w'/\StRep F w' s' (.pointer (some ⟨ba,0,none⟩)) (.slice la s'.2.1.length lc)
theorem behind_step {t:Ty} {hand:List Ty} {s:St} {l:Nat} {ss:List Bd} {y n:Bd} {a:Ty} {pl:Place} {c:UInt8} {p:Bs} {z:Nat} (k:Nat) (F:Nat->Prop) (bv kv lsl:Value) (w:World)
 (hd:StepD t hand s l ss y n a pl c p) (hs:StFit t hand s z) (h15:atomsT t<=15) (hz:z<=100) (hg:Glob w) (hk:Rep F w (encK t) kv) (hr:StRep F w s bv lsl) (hF:∀ b,w.heap.size<=b->F b) :
 ∃ s',stepW t s (c::p) k=some s'/\Calls Tryz.prog 160 #[.agg #[bv,lsl,.int .i64 (s.2.2.1:Nat),str s.2.2.2],kv,str (c::p),.int .i64 (k:Nat)] w (BehS s' F w):=by
 have hal:=atT_len _ _ _ hd.hat
 have hargs:=args_len a
 have hll:=hs.ll
 have hlen:=hd.len
 obtain ⟨b,lv,bg⟩:=s
 have hb0:b=.ask l ss y n:=hd.body
 subst hb0
 obtain ⟨hb,hlv⟩:=hr
 have hlv':LvRep F w lv lsl:=hlv
 have hb':Rep F w (encB (.ask l ss y n)) bv:=hb
 have hll':lv.length<=8*z:=hll
 unfold stepW
 simp only
 rcases hd.mv with ⟨rfl,j,aj,sb,hp,hj,haj,hsb,hat,hld⟩ | ⟨hc,hp⟩
 ·rw [if_pos rfl,hld,hsb]
  have e0:argsAt t p=aj.args.length:=by unfold argsAt;rw [hat]
  have e1:=atT_len _ _ _ hat
  have hpos:0<p.length:=by rw [hp,List.length_append];simp
  refine ⟨_,rfl,(behind_q F t aj l j ss sb y n bv kv lsl lv bg p k w hg hb' hk hlv' h15 hsb hj hpos (by omega) ?_ hat (by omega) (by omega)).mono ?_⟩
  ·subst hp;simp
  ·rintro en w' ⟨ba,la,lc,rfl,hbl,rb,rl⟩
   refine ⟨ba,la,lc,?_,hbl,Rep.below hbl (fun _ h=>h) rb,?_⟩
   ·show _=Ending.returned (.agg #[_,.slice la (lv++placesOf (argsAt t p) k p).length lc,_,_])
    rw [e0]
   ·show LvRep F w' (lv++placesOf (argsAt t p) k p) (.slice la (lv++placesOf (argsAt t p) k p).length lc)
    rw [e0]
    exact (Rep.keep fun i o hi ho=>⟨hF i hi,ho⟩).1 _ _ rl
 ·have hc':¬ c=113:=by rcases hc with h | h <;> rw [h] <;> decide
  rw [if_neg hc']
  obtain ⟨la,lc,rfl,_⟩:=hlv'.open
  obtain ⟨kb,ks,rfl,_⟩:=encK_open hk
  refine ⟨_,rfl,(behind_ans c hc F l ss y n bv (.pointer (some ⟨kb,0,none⟩)) la lv.length lc bg (c::p) k w hb' (by simp) rfl ⟨_,rfl⟩).mono ?_⟩
  rintro en w' ⟨ba,rfl,hbl,rb⟩
  refine ⟨ba,la,lc,rfl,hbl,?_,Rep.below hbl (fun _ h=>h) hlv'⟩
  show Rep F w' (encB (if c=102 then n else y)) _
  have:(if c=102 then n else y)=(if c=116 then y else n):=by rcases hc with h | h <;> rw [h] <;> rfl
  rw [this]
  exact Rep.below hbl (fun _ h=>h) rb
theorem behind_step2 {t:Ty} {hand:List Ty} {s s':St} {l:Nat} {ss:List Bd} {y n:Bd} {a:Ty} {pl:Place} {c:UInt8} {p:Bs} {z k:Nat} (hst:stepW t s (c::p) k=some s') (F:Nat->Prop) (bv kv lsl:Value) (w:World)
 (hd:StepD t hand s l ss y n a pl c p) (hs:StFit t hand s z) (h15:atomsT t<=15) (hz:z<=100) (hg:Glob w) (hk:Rep F w (encK t) kv) (hr:StRep F w s bv lsl) (hF:∀ b,w.heap.size<=b->F b) :
 Calls Tryz.prog 160 #[.agg #[bv,lsl,.int .i64 (s.2.2.1:Nat),str s.2.2.2],kv,str (c::p),.int .i64 (k:Nat)] w (BehS s' F w):=by
 obtain ⟨s2,h2,h3⟩:=behind_step k F bv kv lsl w hd hs h15 hz hg hk hr hF
 rw [hst] at h2
 obtain rfl:=Option.some.inj h2
 exact h3
def StandQ (s:St) (w:World) (en:Ending) (w':World):Prop :=
 ∃ bv lsl,en=.returned (.agg #[bv,lsl,.int .i64 (s.2.2.1:Nat),str s.2.2.2])/\Below w.heap.size w w'/\StRep (fun _=>True) w' s bv lsl
set_option maxRecDepth 100000 in
theorem standIn_any (F:Nat->Prop) (t:Ty) (b:Bd) (v:Pl) (k n:Nat) (hnk:n=k+1) (s0:St) (kv bv mv pt:Value) (w:World) (hg:Glob w) (hk:Rep F w (encK t) kv) (hb:Rep F w (encB b) bv) (hm:PlIn F t v mv pt w)
 (h15:atomsT t<=15) (hf:fitB t.args b) (hw:wfB b) (hkv:k<v.length) (hke:k % 2=0) (hfo:followsTo t b v k) (hs0:placeAt t b v (k+1)=some s0) :
 Calls Tryz.prog 108 #[kv,bv,.agg #[mv,pt],.int .i64 (n:Nat)] w (StandQ s0 w):=by
 have h60:=valid_len hm.ok
 have VC:=Lib.hid (view_chain hm.ok k hkv hke)
 have PF:=Lib.hid (fun e (he:e<=k) (he2:e % 2=0)=>place_fits h15 hf hw hm.ok e (by omega) he2 (fun i hi h=>hfo i (by omega) h))
 have FO:=Lib.hid (And.intro hfo hs0)
 have FIT:=Lib.hid (startW_fit (b:=b) h15 hf hw)
 have hn1:0<n:=by omega
 have hn2:n<=v.length:=by omega
 have HK:=Lib.hid hnk;clear hnk
 obtain ⟨ba,rfl⟩:=encB_ptr hb
 obtain ⟨kb,ks,rfl,_⟩:=encK_open hk
 obtain ⟨ma,mc,rfl,hmc⟩:=hm.m.cells
 obtain ⟨pa,pc,rfl,hpc⟩:=hm.p.cells
 obtain ⟨W,hW,hbW,hz,b0,b1⟩:=boxes_2 w (.cells #[.slice ma v.length mc,.slice pa v.length pc] 33) (.cells #[.pointer none,.slice none 0 0,.int .i64 0,str []] 150)
 obtain ⟨c0,c1,_,_⟩:=cells_2 b0
 have CV:=Lib.hid (view_any F t v false n _ _ W (hm.below hbW).m (hm.below hbW).p hm.ok hn1 hn2 hm.l)
 have HI:=Lib.hid (And.intro hg (And.intro hk (And.intro hb (And.intro hmc (And.intro h15 (And.intro hm.ok hm))))))
 have HW:=Lib.hid (And.intro hW (And.intro hbW (And.intro hz (And.intro b0 b1))))
 clear hW hbW hz b0 b1 hg hk hb hm h15 hmc hpc hf hw hfo hs0
 go_enter Tryz.func108,Tryz.ntmps108
 go_upto_region 1 with (fail)
 rw [HW.out.1]
 go_wp2_with fail
 (with_reducible refine CV.out.mono ?_)
 rintro en w2 ⟨vv,rfl,hb2,hN2⟩
 rw [HK.out] at hN2
 generalize hvw:viewP v false (k+1)=vw at *
 obtain ⟨vb,vo,vc,rfl,hvl,hvc⟩:=hN2
 obtain ⟨z0,hz0⟩:∃ z0:Nat,z0=0:=⟨_,rfl⟩
 have h0:w2.cell? ⟨vb,vo,none⟩=some (.int .i64 (z0:Nat)):=by rw [hz0];exact hvc 0 0 VC.out.zero
 have HZ:=Lib.hid hz0
 have hvp:0<vw.length:=(List.getElem?_eq_some_iff.1 VC.out.zero).1
 have hvpI:(0:Int)<(vw.length:Int):=by omega
 have hg2:=(HI.out.1.below HW.out.2.1).below hb2
 have hk2:=(HI.out.2.1.below HW.out.2.1 (fun _ h=>h)).below hb2 (fun _ h=>h)
 have CS:=Lib.hid (standOf_any F t (.pointer (some ⟨kb,0,none⟩)) (.pointer (some ⟨ba,0,none⟩)) z0 w2 hg2 hk2 HI.out.2.2.2.2.1 ⟨_,rfl⟩)
 have H2:=Lib.hid (And.intro hb2 (And.intro hvl hvc))
 clear hz0 hg2 hk2 hb2 hvl hvc c0 c1 CV hvw
 go_wp2_with fail
 (with_reducible refine CS.out.mono ?_)
 rintro en w3 ⟨la,lc,rfl,hb3,hlv⟩
 clear h0 CS
 obtain ⟨Y,hY,hbY,hzY,y0⟩:=box_1 w3 (.cells #[.pointer (some ⟨ba,0,none⟩),.slice la (placesOf t.args.length z0 []).length lc,.int .i64 (z0:Nat),str []] 150)
 have hz1:=HW.out.2.2.1
 have hs2:=H2.out.1.size
 have hs3:=hb3.size
 have hb2Y:Below w2.heap.size w2 Y:=zzT hb3 hbY
 have hbWY:Below W.heap.size W Y:=zzT H2.out.1 hb2Y
 have hbwY:Below w.heap.size w Y:=zzT HW.out.2.1 hbWY
 have HST:=Lib.hid (show StRep (fun g=>g≠w3.heap.size/\g≠w.heap.size+1) Y (startW t b) (.pointer (some ⟨ba,0,none⟩)) (.slice la (placesOf t.args.length z0 []).length lc) by
  constructor
  ·refine (Rep.keep fun i o _ ho=>⟨?_,?_⟩).1 _ _ HI.out.2.2.1
   ·have:=lt_of_heap ho;omega
   ·rw [hbwY.block _ (lt_of_heap ho)];exact ho
  ·rw [HZ.out] at hlv ⊢
   refine (Rep.keep fun i o hi ho=>⟨?_,?_⟩).1 _ _ hlv
   ·have:=lt_of_heap ho
    have h9:w2.heap.size<=i:=hi
    omega
   ·rw [hbY.block _ (lt_of_heap ho)];exact ho)
 have HY:=Lib.hid (And.intro hY (And.intro hbwY (And.intro hbWY (And.intro hb2Y (And.intro y0 hzY)))))
 have HSZ:=Lib.hid (And.intro hz1 (And.intro hs2 hs3))
 clear hY hbY hzY y0 hz1 hs2 hs3 hb2Y hbWY hbwY hlv hb3
 go_wp2_with fail
 rw [HY.out.1]
 generalize hsb:w3.heap.size=sb at *
 go_loopw [11] (fun i wr=>∃ (wz:World) (j e:Nat) (s:St) (hand:List Ty) (xv lsl:Value),wz=wr/\i=.int .i64 ((2*j+2:Nat):Int)/\vw[2*j]? = some e/\placeAt t b v (e+1)=some s/\StFit t hand s (e+1)/\wz.heap[sb]? = some (.cells #[xv,lsl,.int .i64 (s.2.2.1:Nat),str s.2.2.2] 150 (0,0))/\StRep (fun g=>g≠sb/\g≠w.heap.size+1) wz s xv lsl/\But (fun g=>g=sb) Y wz) (fun i _=>vw.length+2-(intOf i).toNat)
 case atStart =>
  refine ⟨_,0,0,startW t b,t.args,_,_,rfl,rfl,VC.out.zero,placeAt_first t b v,?_,?_,HST.out,But.refl _ _⟩
  ·exact FIT.out
  ·have hz0:=HZ.out
   subst hz0
   exact HY.out.2.2.2.2.1
 case round =>
  obtain ⟨wr,j,e,s,hand,xv,lsl,rfl,rfl,hve,hpl,hfit,hbox,hst,hB⟩:=hrel
  obtain ⟨xa,rfl⟩:=encB_ptr hst.1
  obtain ⟨lsa,lsc,rfl,_⟩:=LvRep.open hst.2
  obtain ⟨q0,q1,q2,q3⟩:=cells_4 hbox
  have hsbY:sb<Y.heap.size:=lt_of_heap HY.out.2.2.2.2.1
  have hek:=VC.out.all _ _ hve
  have hjv:=(List.getElem?_eq_some_iff.1 hve).1
  have hvk:=VC.out.len
  obtain ⟨i2,hi2⟩:=zzM (2*j+2)
  rw [<- hi2]
  have hwr:Below w.heap.size w wr:=HY.out.2.1.trans (hB.toBelow (by have:=HY.out.2.1.size;omega) fun i hi e1=>by have h1:=HSZ.out;omega)
  have HB:=Lib.hid (And.intro hB hwr)
  have HST2:=Lib.hid (And.intro hst (And.intro hbox (And.intro hfit hpl)))
  clear hB hwr hst hbox
  by_cases hlt:i2<vw.length
  ·have hltI:(i2:Int)<(vw.length:Int):=by omega
   obtain ⟨e1,e',c,p,h1,h2,h3,h4,h5,h6,h7⟩:=VC.out.step j (by omega)
   obtain rfl:e1=e:=Option.some.inj (h1.symm.trans hve)
   have hr:=FO.out.1 (e1+1) (by have:=h6.lt;omega) h6.odd
   obtain ⟨x,hx,hxe⟩:=h6.en
   unfold replyAt at hr
   rw [hpl,Option.bind_some,hx] at hr
   obtain ⟨l,ss,y,nn,a,pl,hd⟩:=step_data HI.out.2.2.2.2.1 hfit h7 h4 hxe hr
   obtain ⟨s',hand',hs1,hs2⟩:=hd.next (k:=e') hfit (by have:=h6.lt;omega) (by omega) HI.out.2.2.2.2.1
   have hpl':placeAt t b v (e'+1)=some s':=by rw [placeAt_step HI.out.2.2.2.2.2.1 b (by omega) h4 h6,hpl,Option.bind_some,hs1]
   have he'v:(e':Int)<(v.length:Int):=by omega
   obtain ⟨mb,mo,rfl,_,hmb,hmk⟩:=HI.out.2.2.2.1 e' _ h6.at'
   have CB:=Lib.hid (fun (y:World) (hy:Below wr.heap.size wr y)=>behind_step2 hs1 (fun g=>g≠sb/\g≠w.heap.size+1) (.pointer (some ⟨xa,0,none⟩)) (.pointer (some ⟨kb,0,none⟩)) (.slice lsa s.2.1.length lsc) y hd hfit HI.out.2.2.2.2.1 (by omega) ((HI.out.1.below HB.out.2).below hy)
    ((Rep.keep fun i o _ ho=>⟨by have:=lt_of_heap ho;have h1:=HSZ.out;omega,by rw [hy.block i (by have:=lt_of_heap ho;have:=HB.out.2.size;omega),HB.out.2.block i (lt_of_heap ho)];exact ho⟩).1 _ _ HI.out.2.1)
    (HST2.out.1.keep fun i o hi ho=>⟨hi,by rw [hy.block i (lt_of_heap ho)];exact ho⟩) (fun i hi=>by have h9:wr.heap.size<=i:=Nat.le_trans hy.size hi;have h1:=HSZ.out;have h2:=HB.out.1.size;omega))
   have HN:=Lib.hid (And.intro hpl' (And.intro hs2 (And.intro (show vw[2*(j+1)]? = some e' from h2) (show i2+2=2*(j+1)+2 by omega))))
   obtain ⟨M,hM⟩:=zzM (c::p)
   rw [<- hM] at CB hmk
   have KEY:=Lib.hid (fun (y:World) (hy:Below wr.heap.size wr y)=>(show (y.cell? ⟨sb,0,none⟩=some (.pointer (some ⟨xa,0,none⟩))/\y.cell? ⟨sb,1,none⟩=some (.slice lsa s.2.1.length lsc)/\y.cell? ⟨sb,2,none⟩=some (.int .i64 (s.2.2.1:Nat))/\y.cell? ⟨sb,3,none⟩=some (str s.2.2.2))/\y.cell? ⟨w.heap.size,0,none⟩=some (.slice (some ⟨mb,mo,none⟩) v.length mc)/\y.cell? ⟨vb,vo+i2,none⟩=some (.int .i64 (e':Nat))/\y.cell? ⟨mb,mo+e',none⟩=some (str M) from by
    have hk:∀ (a:Addr) (u:Value),wr.cell? a=some u->y.cell? a=some u:=fun a u h=>(hy.cell (World.block_lt_of_cell? _ _ h)).trans h
    have hwk:∀ (a:Addr) (u:Value),w.cell? a=some u->y.cell? a=some u:=fun a u h=>hk a u ((HB.out.2.cell (World.block_lt_of_cell? _ _ h)).trans h)
    obtain ⟨k0,_⟩:=cells_2 HW.out.2.2.2.1
    have hY0:∀ (a:Addr) (u:Value),a.block≠sb->a.block<Y.heap.size->Y.cell? a=some u->y.cell? a=some u:=fun a u hne hl h=>hk a u ((HB.out.1.cell hl hne).trans h)
    have h1:=HSZ.out
    refine ⟨⟨hk _ _ q0,hk _ _ q1,hk _ _ q2,hk _ _ q3⟩,hY0 _ _ (by show w.heap.size≠sb;omega) (by show w.heap.size<_;omega) ((HY.out.2.2.1.cell (World.block_lt_of_cell? _ _ k0)).trans k0),?_,hwk _ _ hmk⟩
    have hvi:vw[i2]? = some e':=by rw [hi2];exact h2
    exact hY0 _ _ (by show vb≠sb;have:=H2.out.2.1;omega) (by show vb<_;have:=H2.out.2.1;omega) ((HY.out.2.2.2.1.cell (p:=⟨vb,vo+i2,none⟩) H2.out.2.1).trans (H2.out.2.2 i2 e' hvi))))
   have hw2:IntKind.i64.wrap ((i2:Int)+2)=((i2+2:Nat):Int):=by rw [wrap_low _ (by omega) (by omega)];omega
   clear q0 q1 q2 q3 hr hx hxe hd hs1 hs2 hpl' h1 h2 h3 h4 h5 h6 h7 hmb hmk hve hpl hfit hi2 hM hek hjv hvk
   go_upto_region 6 with (fail)
   refine wp_region_noPanic ?_
   refine wp_region_S (fun w'=>Below wr.heap.size wr w') (fun i=>i=15) (by kernel_rfl) ?_
   have hSd:(fun w'=>Below wr.heap.size wr w') wr.drew:=Below.drew (Below.refl _ _)
   refine wpAnyS_take 0 (v:=?_) (by kernel_rfl) (by kernel_rfl) (by kernel_rfl) (by kernel_rfl) (fun _ _ _ _ h=>h) hSd ?_ ?_
   rotate_left
   ·(intro oi ho;simp at ho;subst ho;refine Or.inl ⟨by rfl,fun w' hw'=>?_⟩;obtain ⟨e0,e1,e2,e3⟩:=(KEY.out w' hw').1;go_simp;try with_reducible rfl)
   (intro d hd;simp at hd;subst hd;simp only [Act.put,List.setIfInBounds_toArray,List.set_cons_zero,List.set_cons_succ])
   refine wpAnyS_take 1 (v:=?_) (by kernel_rfl) (by kernel_rfl) (by kernel_rfl) (by kernel_rfl) (fun _ _ _ _ h=>h) hSd ?_ ?_
   rotate_left
   ·(intro oi ho;simp at ho;subst ho;refine Or.inl ⟨by rfl,fun w' hw'=>?_⟩;go_simp;try with_reducible rfl)
   (intro d hd;simp at hd;subst hd;simp only [Act.put,List.setIfInBounds_toArray,List.set_cons_zero,List.set_cons_succ])
   refine wpAnyS_take 2 (v:=?_) (by kernel_rfl) (by kernel_rfl) (by kernel_rfl) (by kernel_rfl) (fun _ _ _ _ h=>h) hSd ?_ ?_
   rotate_left
   ·(intro oi ho;simp at ho;subst ho;refine Or.inl ⟨by rfl,fun w' hw'=>?_⟩;go_simp;try with_reducible rfl)
   (intro d hd;simp at hd;subst hd;simp only [Act.put,List.setIfInBounds_toArray,List.set_cons_zero,List.set_cons_succ])
   refine wpAnyS_take 3 (v:=?_) (by kernel_rfl) (by kernel_rfl) (by kernel_rfl) (by kernel_rfl) (fun _ _ _ _ h=>h) hSd ?_ ?_
   rotate_left
   ·(intro oi ho;simp at ho;subst ho;refine Or.inl ⟨by rfl,fun w' hw'=>?_⟩;have e0:=(KEY.out w' hw').2.1;go_simp;try with_reducible rfl)
   (intro d hd;simp at hd;subst hd;simp only [Act.put,List.setIfInBounds_toArray,List.set_cons_zero,List.set_cons_succ])
   refine wpAnyS_take 4 (v:=?_) (by kernel_rfl) (by kernel_rfl) (by kernel_rfl) (by kernel_rfl) (fun _ _ _ _ h=>h) hSd ?_ ?_
   rotate_left
   ·(intro oi ho;simp at ho;subst ho;refine Or.inl ⟨by rfl,fun w' hw'=>?_⟩;go_simp;try with_reducible rfl)
   (intro d hd;simp at hd;subst hd;simp only [Act.put,List.setIfInBounds_toArray,List.set_cons_zero,List.set_cons_succ])
   refine wpAnyS_take 5 (v:=?_) (by kernel_rfl) (by kernel_rfl) (by kernel_rfl) (by kernel_rfl) (fun _ _ _ _ h=>h) hSd ?_ ?_
   rotate_left
   ·(intro oi ho;simp at ho;subst ho;refine Or.inl ⟨by rfl,fun w' hw'=>?_⟩;go_simp;try with_reducible rfl)
   (intro d hd;simp at hd;subst hd;simp only [Act.put,List.setIfInBounds_toArray,List.set_cons_zero,List.set_cons_succ])
   refine wpAnyS_take 6 (v:=?_) (by kernel_rfl) (by kernel_rfl) (by kernel_rfl) (by kernel_rfl) (fun _ _ _ _ h=>h) hSd ?_ ?_
   rotate_left
   ·(intro oi ho;simp at ho;subst ho;refine Or.inl ⟨by rfl,fun w' hw'=>?_⟩;go_simp;try with_reducible rfl)
   (intro d hd;simp at hd;subst hd;simp only [Act.put,List.setIfInBounds_toArray,List.set_cons_zero,List.set_cons_succ])
   refine wpAnyS_take 7 (v:=?_) (by kernel_rfl) (by kernel_rfl) (by kernel_rfl) (by kernel_rfl) (fun _ _ _ _ h=>h) hSd ?_ ?_
   rotate_left
   ·(intro oi ho;simp at ho;subst ho;refine Or.inl ⟨by rfl,fun w' hw'=>?_⟩;have e0:=(KEY.out w' hw').2.2.1;go_simp;try with_reducible rfl)
   (intro d hd;simp at hd;subst hd;simp only [Act.put,List.setIfInBounds_toArray,List.set_cons_zero,List.set_cons_succ])
   refine wpAnyS_take 8 (v:=?_) (by kernel_rfl) (by kernel_rfl) (by kernel_rfl) (by kernel_rfl) (fun _ _ _ _ h=>h) hSd ?_ ?_
   rotate_left
   ·(intro oi ho;simp at ho;subst ho;refine Or.inl ⟨by rfl,fun w' hw'=>?_⟩;go_simp;try with_reducible rfl)
   (intro d hd;simp at hd;subst hd;simp only [Act.put,List.setIfInBounds_toArray,List.set_cons_zero,List.set_cons_succ])
   refine wpAnyS_take 9 (v:=?_) (by kernel_rfl) (by kernel_rfl) (by kernel_rfl) (by kernel_rfl) (fun _ _ _ _ h=>h) hSd ?_ ?_
   rotate_left
   ·(intro oi ho;simp at ho;subst ho;refine Or.inl ⟨by rfl,fun w' hw'=>?_⟩;have e0:=(KEY.out w' hw').2.2.2;go_simp;try with_reducible rfl)
   (intro d hd;simp at hd;subst hd;simp only [Act.put,List.setIfInBounds_toArray,List.set_cons_zero,List.set_cons_succ])
   refine wpAnyS_take 10 (v:=?_) (by kernel_rfl) (by kernel_rfl) (by kernel_rfl) (by kernel_rfl) (fun _ _ _ _ h=>h) hSd ?_ ?_
   rotate_left
   ·(intro oi ho;simp at ho;subst ho;refine Or.inl ⟨by rfl,fun w' hw'=>?_⟩;go_simp;try with_reducible rfl)
   (intro d hd;simp at hd;subst hd;simp only [Act.put,List.setIfInBounds_toArray,List.set_cons_zero,List.set_cons_succ])
   refine wpAnyS_take 11 (v:=?_) (by kernel_rfl) (by kernel_rfl) (by kernel_rfl) (by kernel_rfl) (fun _ _ _ _ h=>h) hSd ?_ ?_
   rotate_left
   ·(intro oi ho;simp at ho;subst ho;refine Or.inl ⟨by rfl,fun w' hw'=>?_⟩;go_simp;try with_reducible rfl)
   (intro d hd;simp at hd;subst hd;simp only [Act.put,List.setIfInBounds_toArray,List.set_cons_zero,List.set_cons_succ])
   refine wpAnyS_take 12 (v:=?_) (by kernel_rfl) (by kernel_rfl) (by kernel_rfl) (by kernel_rfl) (fun _ _ _ _ h=>h) hSd ?_ ?_
   rotate_left
   ·(intro oi ho;simp at ho;subst ho;refine Or.inl ⟨by rfl,fun w' hw'=>?_⟩;go_simp;try with_reducible rfl)
   (intro d hd;simp at hd;subst hd;simp only [Act.put,List.setIfInBounds_toArray,List.set_cons_zero,List.set_cons_succ])
   refine wpAnyS_take 13 (v:=?_) (by kernel_rfl) (by kernel_rfl) (by kernel_rfl) (by kernel_rfl) (fun _ _ _ _ h=>h) hSd ?_ ?_
   rotate_left
   ·(intro oi ho;simp at ho;subst ho;refine Or.inl ⟨by rfl,fun w' hw'=>?_⟩;have e0:=(KEY.out w' hw').2.2.1;go_simp;try with_reducible rfl)
   (intro d hd;simp at hd;subst hd;simp only [Act.put,List.setIfInBounds_toArray,List.set_cons_zero,List.set_cons_succ])
   refine wpAnyS_one 14 (by kernel_rfl) ?_
   (intro o14 ho K' hK;simp at ho;subst ho)
   go_simp
   go_at_call 160
   (with_reducible refine (CB.out _ hSd).mono ?_)
   rintro en x14 ⟨b2,l2,c2,rfl,hb14,hr14⟩
   have hB14:Below wr.heap.size wr x14:=zzT hSd hb14
   have xx:=(hB14.block _ (lt_of_heap HST2.out.2.1)).trans HST2.out.2.1
   refine hK.out _ _ ?_ ?_
   ·exact fun _=>hB14
   clear hK K'
   (try simp only [Act.put,List.setIfInBounds_toArray,List.set_cons_zero,List.set_cons_succ])
   have hS14:=hB14
   refine wpAnyS_one 15 (by kernel_rfl) ?_
   (intro o15 ho K' hK;simp at ho;subst ho)
   have f0:=frozen_4 xx 0;have f1:=frozen_4 xx 1;have f2:=frozen_4 xx 2;have f3:=frozen_4 xx 3
   obtain ⟨e0,e1,e2,e3⟩:=cells_4 xx
   go_simp
   refine hK.out _ _ ?_ ?_
   ·intro h;simp at h
   clear hK K'
   (try simp only [Act.put,List.setIfInBounds_toArray,List.set_cons_zero,List.set_cons_succ])
   refine wpAnyS_done (by kernel_rfl) (NoPanic.normal ?_) _
   obtain ⟨W10,hW10⟩:=zzN (((((x14.setCell ⟨sb,0,none⟩ (.pointer (some ⟨b2,0,none⟩))).setCell ⟨sb,1,none⟩ (.slice l2 s'.2.1.length c2)).setCell ⟨sb,2,none⟩ (.int .i64 (s'.2.2.1:Nat))).setCell ⟨sb,3,none⟩ (str s'.2.2.2)))
   rw [hW10]
   have hbx10:W10.heap[sb]? = some (.cells #[.pointer (some ⟨b2,0,none⟩),.slice l2 s'.2.1.length c2,.int .i64 (s'.2.2.1:Nat),str s'.2.2.2] 150 (0,0)):=by rw [<- hW10];exact set_four xx _ _ _ _
   have hoth:∀ g,g≠sb->W10.heap[g]? = x14.heap[g]?:=fun g hg=>by
    rw [<- hW10,Below.heap_setCell _ _ _ _ (by show g≠sb;exact hg),Below.heap_setCell _ _ _ _ (by show g≠sb;exact hg),Below.heap_setCell _ _ _ _ (by show g≠sb;exact hg),Below.heap_setCell _ _ _ _ (by show g≠sb;exact hg)]
   have hB10:But (fun g=>g=sb) Y W10:=by
    rw [<- hW10]
    exact ((((HB.out.1.trans (But.ofBelow hB14)).setCell (p:=⟨sb,0,none⟩) (.inl rfl) _).setCell (p:=⟨sb,1,none⟩) (.inl rfl) _).setCell (p:=⟨sb,2,none⟩) (.inl rfl) _).setCell (p:=⟨sb,3,none⟩) (.inl rfl) _
   have H10:=Lib.hid (And.intro hbx10 (And.intro hB10 (hr14.keep (F':=fun g=>g≠sb/\g≠w.heap.size+1) (w':=W10) fun i o hi ho=>⟨hi,by rw [hoth i hi.1];exact ho⟩)))
   clear hbx10 hoth hB10 hr14 hW10 xx hB14 hb14 hS14 hSd KEY CB
   go_wp2_with fail
   go_roundw
   case rel=>exact ⟨_,j+1,e',s',hand',_,_,rfl,by rw [<- HN.out.2.2.2];rfl,HN.out.2.2.1,HN.out.1,HN.out.2.1,H10.out.1,H10.out.2.2,H10.out.2.1⟩
   case measure=>simp [intOf];omega
  ·have hltI:¬ (i2:Int)<(vw.length:Int):=by omega
   have hodd:=VC.out.odd
   have hlast:=VC.out.last
   have h1:=HSZ.out
   rw [show vw.length-1=2*j from by omega,hve] at hlast
   obtain rfl:=Option.some.inj hlast
   obtain rfl:s=s0:=Option.some.inj (hpl.symm.trans FO.out.2)
   have b1:wr.heap[w.heap.size+1]? = some (.cells #[.pointer none,.slice none 0 0,.int .i64 0,str []] 150 (0,0)):=by
    rw [HB.out.1.block _ (by omega) (by omega),HY.out.2.2.1.block _ (by omega)];exact HW.out.2.2.2.2
   have f0:=frozen_4 b1 0;have f1:=frozen_4 b1 1;have f2:=frozen_4 b1 2;have f3:=frozen_4 b1 3
   obtain ⟨z0',z1',z2',z3'⟩:=cells_4 b1
   have HS:=Lib.hid (And.intro b1 h1)
   clear hve hpl hfit hek hvk hlast hodd b1 h1 hjv
   go_wp2_with fail
   have hV:=set_four HS.out.1 (.pointer (some ⟨xa,0,none⟩)) (.slice lsa s.2.1.length lsc) (.int .i64 (s.2.2.1:Nat)) (str s.2.2.2)
   obtain ⟨s0',s1',s2',s3'⟩:=cells_4 hV
   have hoth:∀ g,g≠w.heap.size+1->((((wr.setCell ⟨w.heap.size+1,0,none⟩ (.pointer (some ⟨xa,0,none⟩))).setCell ⟨w.heap.size+1,1,none⟩ (.slice lsa s.2.1.length lsc)).setCell ⟨w.heap.size+1,2,none⟩ (.int .i64 (s.2.2.1:Nat))).setCell ⟨w.heap.size+1,3,none⟩ (str s.2.2.2)).heap[g]? = wr.heap[g]?:=fun g hg=>by
    rw [Below.heap_setCell _ _ _ _ (by show g≠w.heap.size+1;exact hg),Below.heap_setCell _ _ _ _ (by show g≠w.heap.size+1;exact hg),Below.heap_setCell _ _ _ _ (by show g≠w.heap.size+1;exact hg),Below.heap_setCell _ _ _ _ (by show g≠w.heap.size+1;exact hg)]
   have hbF:=(((HB.out.2.setCell (p:=⟨w.heap.size+1,0,none⟩) (Nat.le_succ _) (.pointer (some ⟨xa,0,none⟩))).setCell (p:=⟨w.heap.size+1,1,none⟩) (Nat.le_succ _) (.slice lsa s.2.1.length lsc)).setCell (p:=⟨w.heap.size+1,2,none⟩) (Nat.le_succ _) (.int .i64 (s.2.2.1:Nat))).setCell (p:=⟨w.heap.size+1,3,none⟩) (Nat.le_succ _) (str s.2.2.2)
   refine bodyPost_ret (v:=.agg #[(.pointer (some ⟨xa,0,none⟩)),(.slice lsa s.2.1.length lsc),.int .i64 (s.2.2.1:Nat),str s.2.2.2]) (by simp [results,Tryz.results108,go_sem,s0',s1',s2',s3']) rfl ?_
   exact ⟨_,_,rfl,hbF,HST2.out.1.keep fun i o hi ho=>⟨trivial,by rw [hoth i hi.2];exact ho⟩⟩
set_option maxRecDepth 100000 in
theorem tells_u (F:Nat->Prop) (bv lsl:Value) (bg:Place) (w:World) (hb:Rep F w (encB (.leaf 117)) bv) :
 Calls Tryz.prog 109 #[.agg #[bv,lsl,.int .i64 (bg.1:Nat),str bg.2]] w fun en w'=>en=.returned (.tuple #[str [],.int .i64 (-1)])/\Below w.heap.size w w':=by
 have C:=Lib.hid (fun wz (h:Below w.heap.size w wz)=>isList_leaf F wz 117 bv (hb.below h (fun _ h=>h)))
 obtain ⟨b,sl,rfl,_,hc,_⟩:=leaf_open hb
 obtain ⟨W,hW,hbW,hz,bx⟩:=box_1 w (.cells #[.pointer (some ⟨b,0,none⟩),lsl,.int .i64 (bg.1:Nat),str bg.2] 150)
 have CW:=Lib.hid (C.out W hbW)
 obtain ⟨e0,e1,e2,e3⟩:=cells_4 bx
 have c1:W.cell? ⟨b,0,none⟩=some (.string ⟨#[117]⟩):=(hbW.cell (by exact lt_of_heap hc)).trans (by simp [World.cell?,hc])
 have HW:=Lib.hid (And.intro hW hbW)
 clear hW hbW hz bx hc hb C e1
 go_enter Tryz.func109,Tryz.ntmps109
 go_upto_region 1 with (fail)
 rw [HW.out.1]
 go_wp2_with fail
 (with_reducible refine CW.out.mono ?_)
 rintro en w1 ⟨rfl,ew⟩
 subst ew
 go_wp2_with fail
 go_ret2
 exact ⟨rfl,HW.out.2⟩
def tellV (s:St):Bs×Int:=(told s).getD ([],-1)
theorem tells_any {t:Ty} {hand:List Ty} {s:St} {n:Nat} (F:Nat->Prop) (bv lsl:Value) (w:World) (hs:StFit t hand s n) (h15:atomsT t<=15) (hn:n<=100) (hr:StRep F w s bv lsl) :
 Calls Tryz.prog 109 #[.agg #[bv,lsl,.int .i64 (s.2.2.1:Nat),str s.2.2.2]] w fun en w'=>en=.returned (.tuple #[str (tellV s).1,.int .i64 (tellV s).2])/\Below w.heap.size w w':=by
 obtain ⟨ta,hta⟩:=hs.bgt
 have hbl:=atT_len _ _ _ hta
 have hll:=hs.ll
 obtain ⟨b,lv,bg⟩:=s
 cases b with
 | leaf c =>
   by_cases hc:c=117
   ·subst hc;exact tells_u F bv lsl bg w hr.1
   ·refine (tells_leaf F c bv lsl bg w hr.1 hc (by have:bg.2.length<=100:=by { show ((Bd.leaf c,lv,bg):St).2.2.2.length<=100;omega };omega)).mono ?_
    rintro en w' ⟨rfl,hb⟩
    refine ⟨?_,hb⟩
    unfold tellV told
    simp only [if_neg hc,Option.getD_some]
 | ask l ss y nn =>
   have hf:=hs.fit
   rw [show ((Bd.ask l ss y nn,lv,bg):St).1=.ask l ss y nn from rfl,fitB] at hf
   obtain ⟨a,h1,_⟩:=hf
   obtain ⟨pl,hl,hat,_⟩:=hs.pf.each l a h1
   have hl':lv[l]? = some pl:=hl
   have hpl:=atT_len _ _ _ hat
   have hll':lv.length<=8*n:=hll
   refine (tells_ask F l ss y nn bv lsl lv bg pl w hr.1 hr.2 hl' (by omega) (by omega)).mono ?_
   rintro en w' ⟨rfl,hb⟩
   refine ⟨?_,hb⟩
   unfold tellV told
   simp only [hl',Option.map_some,Option.getD_some]
theorem tellV_eq {s:St} {c:UInt8} {p:Bs} {z:Int}:told s=some (c::p,z)↔((tellV s).1=c::p/\(tellV s).2=z):=by
 unfold tellV
 cases h:told s with
 | none=>simp
 | some x=>obtain ⟨m,y⟩:=x;simp
set_option maxRecDepth 100000 in
theorem follows_any (F:Nat->Prop) (t:Ty) (b:Bd) (v:Pl) (kv bv mv pt:Value) (w:World) (hg:Glob w) (hk:Rep F w (encK t) kv) (hb:Rep F w (encB b) bv) (hm:PlIn F t v mv pt w)
 (h15:atomsT t<=15) (hf:fitB t.args b) (hw:wfB b) :
 Calls Tryz.prog 58 #[kv,bv,.agg #[mv,pt]] w fun en w'=>en=.returned (.bool (decide (followsTo t b v v.length)))/\Below w.heap.size w w':=by
 have h60:=valid_len hm.ok
 obtain ⟨ba,rfl⟩:=encB_ptr hb
 obtain ⟨kb,ks,rfl,_⟩:=encK_open hk
 obtain ⟨ma,mc,rfl,hmc⟩:=hm.m.cells
 obtain ⟨pa,pc,rfl,hpc⟩:=hm.p.cells
 obtain ⟨W,hW,hbW,hz,b0⟩:=box_1 w (.cells #[.slice ma v.length mc,.slice pa v.length pc] 33)
 obtain ⟨c0,c1,_,_⟩:=cells_2 b0
 have PF:=Lib.hid (fun e (he:e<v.length) (he2:e % 2=0)=>place_fits h15 hf hw hm.ok e he he2)
 have SIN:=Lib.hid (fun (y:World) (hy:Below W.heap.size W y) (k n:Nat) (hnk:n=k+1) (s0:St) (hkv:k<v.length) (hke:k % 2=0) (hfo:followsTo t b v k) (hs0:placeAt t b v (k+1)=some s0) =>
  standIn_any F t b v k n hnk s0 _ _ _ _ y ((hg.below hbW).below hy) ((hk.below hbW fun _ h=>h).below hy fun _ h=>h) ((hb.below hbW fun _ h=>h).below hy fun _ h=>h) ((hm.below hbW).below hy) h15 hf hw hkv hke hfo hs0)
 have HH:=Lib.hid (And.intro hmc (And.intro hpc (And.intro hbW (And.intro hm.ok h15))))
 have HW:=Lib.hid hW
 clear hm hmc hpc hz b0 hbW hW hg hk hb h15 hf hw
 go_enter Tryz.func58,Tryz.ntmps58
 go_upto_region 1 with (fail)
 rw [HW.out]
 go_wp2_with fail
 go_loopw [7] (fun i wr=>∃ (wz:World) (k n:Nat),wz=wr/\n=k+1/\k % 2=0/\k<=v.length+1/\i=.int .i64 (n:Nat)/\followsTo t b v n/\Below W.heap.size W wz) (fun i _=>v.length+5-(intOf i).toNat)
 case atStart=>exact ⟨_,0,1,rfl,rfl,rfl,by omega,rfl,fun i hi h=>by omega,Below.refl _ _⟩
 case round =>
  obtain ⟨wr,k,n,rfl,hnk,hke,hkl,rfl,hfo,hB⟩:=hrel
  have d0:=(hB.cell (World.block_lt_of_cell? _ _ c0)).trans c0
  have d1:=(hB.cell (World.block_lt_of_cell? _ _ c1)).trans c1
  clear c0 c1
  have HB:=Lib.hid (And.intro hB (zzT HH.out.2.2.1 hB))
  clear hB
  by_cases hlt:n<v.length
  ·have hltI:(n:Int)<(v.length:Int):=by omega
   obtain ⟨x,p,z,hvk,hok⟩:=valid_at HH.out.2.2.2.1 hlt
   obtain ⟨mb,mo,rfl,_,hmb,hmk⟩:=HH.out.1 n _ hvk
   obtain ⟨pb,po,rfl,_,hpb,hpk⟩:=HH.out.2.1 n _ hvk
   obtain ⟨s,hand,hs0,hfit⟩:=PF.out k (by omega) hke (fun i hi h=>hfo i (by omega) h)
   have CS:=Lib.hid (SIN.out wr HB.out.1 k n hnk s (by omega) hke (fun i hi h=>hfo i (by omega) h) hs0)
   have hrep:replyAt t b v n=told s:=by unfold replyAt;rw [hnk,hs0];rfl
   have HQ:Hid ((tellV s).1=x::p/\(tellV s).2=z↔replyAt t b v n=v[n]?):=Lib.hid (by rw [hrep,hvk];exact tellV_eq.symm)
   have CT:=Lib.hid (fun (y:World) (xv lv:Value) (hr:StRep (fun _=>True) y s xv lv)=>tells_any (fun _=>True) xv lv y hfit HH.out.2.2.2.2 (by omega) hr)
   have KEY:=Lib.hid (fun (y:World) (hy:Below wr.heap.size wr y)=>(show y.cell? ⟨w.heap.size,0,none⟩=some (.slice (some ⟨mb,mo,none⟩) v.length mc)/\y.cell? ⟨w.heap.size,1,none⟩=some (.slice (some ⟨pb,po,none⟩) v.length pc)/\y.cell? ⟨mb,mo+n,none⟩=some (str (x::p))/\y.cell? ⟨pb,po+n,none⟩=some (.int .i64 z) from by
    have hk:∀ (a:Addr) (u:Value),wr.cell? a=some u->y.cell? a=some u:=fun a u h=>(hy.cell (World.block_lt_of_cell? _ _ h)).trans h
    exact ⟨hk _ _ d0,hk _ _ d1,hk _ _ ((HB.out.2.cell (p:=⟨mb,mo+n,none⟩) hmb).trans hmk),hk _ _ ((HB.out.2.cell (p:=⟨pb,po+n,none⟩) hpb).trans hpk)⟩))
   have HF:=Lib.hid (And.intro hfo (And.intro hnk (And.intro hke (And.intro hkl hlt))))
   obtain ⟨M,hM⟩:=zzM (x::p)
   obtain ⟨tm,htm⟩:=zzN ((tellV s).1)
   obtain ⟨tz,htz⟩:=zzN ((tellV s).2)
   rw [<- hM] at KEY HQ
   rw [htm,htz] at HQ CT
   clear hvk hok hmb hmk hpb hpk hs0 hfit hrep hfo hnk hke hkl hM htm htz SIN PF
   go_wp2_with fail
   (with_reducible refine CS.out.mono ?_)
   rintro en w1 ⟨xv,lv,rfl,hb1,hr1⟩
   have CT1:=Lib.hid (CT.out w1 xv lv hr1)
   clear CS CT hr1
   go_wp2_with fail
   (with_reducible refine CT1.out.mono ?_)
   rintro en w2 ⟨rfl,hb2⟩
   have hb12:=zzT hb1 hb2
   obtain ⟨e0,e1,m0,p0⟩:=KEY.out w2 hb12
   have HB2:=Lib.hid (And.intro (zzT HB.out.1 hb12) (zzT HB.out.2 hb12))
   have hw2:IntKind.i64.wrap ((n:Int)+2)=((n+2:Nat):Int):=by rw [wrap_low _ (by omega) (by omega)];omega
   clear hb1 hb2 hb12 d0 d1 KEY CT1
   by_cases hm:tm=M
   ·have hmm:(tm == M)=true:=by simp [hm]
    have hmm2:(tm != M)=false:=by simp [hm]
    by_cases hz:tz=z
    ·have hzz:(tz != z)=false:=by simp [hz]
     have E:=Lib.hid (show followsTo t b v (n+2) from fun i hi h=>by
      have h1:=HF.out.2.1;have h2:=HF.out.2.2.1
      rcases Nat.lt_or_ge i n with h3 | h3
      ·exact HF.out.1 i h3 h
      ·obtain rfl:i=n:=by omega
       exact HQ.out.1 ⟨hm,hz⟩)
     have HE:=Lib.hid (show n+2=(n+1)+1/\(n+1) % 2=0/\n+1<=v.length+1 by
      have h1:=HF.out.2.1;have h2:=HF.out.2.2.1;have h3:=HF.out.2.2.2.2;omega)
     clear hm hz
     go_wp2_with fail
     go_roundw
     case rel=>exact ⟨_,n+1,n+2,rfl,rfl,HE.out.2.1,HE.out.2.2,rfl,E.out,HB2.out.1⟩
     case measure=>simp [intOf];omega
    ·have hzz:(tz != z)=true:=by simp [hz]
     have E:=Lib.hid (show decide (followsTo t b v v.length)=false by
      rw [decide_eq_false_iff_not]
      intro h
      have h1:=HF.out.2.1;have h2:=HF.out.2.2.1
      exact hz (HQ.out.2 (h n HF.out.2.2.2.2 (by omega))).2)
     clear hm hz
     go_wp2_with fail
     go_ret
     exact ⟨by rw [E.out];rfl,HB2.out.2⟩
   ·have hmm:(tm == M)=false:=by simp [hm]
    have hmm2:(tm != M)=true:=by simp [hm]
    have E:=Lib.hid (show decide (followsTo t b v v.length)=false by
     rw [decide_eq_false_iff_not]
     intro h
     have h1:=HF.out.2.1;have h2:=HF.out.2.2.1
     exact hm (HQ.out.2 (h n HF.out.2.2.2.2 (by omega))).1)
    clear hm
    go_wp2_with fail
    go_ret
    exact ⟨by rw [E.out];rfl,HB2.out.2⟩
  ·have hltI:¬ (n:Int)<(v.length:Int):=by omega
   have E:=Lib.hid (show decide (followsTo t b v v.length)=true from decide_eq_true fun i hi h=>hfo i (by omega) h)
   clear hfo hnk
   go_wp2_with fail
   go_ret
   exact ⟨by rw [E.out];rfl,HB.out.2⟩
def followOk (s text:Bs) (ms:List Bs) (ps:List Int):Bool:=match specStrat s text with
 | none=>false
 | some b=>legalOk s ms ps && decide (followsTo (specType s).1 b (ms.zip ps) (ms.zip ps).length)
theorem followOk_none {s text:Bs} (h:rdTS s text=none) (ms:List Bs) (ps:List Int):followOk s text ms ps=false:=by
 rw [rdTS_eq,Option.map_eq_none_iff] at h
 unfold followOk;rw [h]
theorem followOk_some {s text:Bs} {t:Ty} {b:Bd} (h:rdTS s text=some (t,b)) (ms:List Bs) (ps:List Int):followOk s text ms ps=(legalOk s ms ps && decide (followsTo t b (ms.zip ps) (ms.zip ps).length))/\t=(specType s).1/\Good t b:=by
 rw [rdTS_eq,Option.map_eq_some_iff] at h
 obtain ⟨b',h,e⟩:=h
 simp at e;obtain ⟨rfl,rfl⟩:=e
 refine ⟨?_,rfl,(specStrat_good h).1⟩
 unfold followOk;rw [h]
theorem legalOk_ok {s:Bs} {ms:List Bs} {ps:List Int} (h:legalOk s ms ps=true):playOk s ms ps=true:=by
 unfold legalOk at h;rw [Bool.and_eq_true] at h;exact h.1
set_option maxRecDepth 100000 in
theorem implStrategyFollows_any (F:Nat->Prop) (s text:Bs) (mv pt:Value) (ms:List Bs) (ps:List Int) (w:World) (hg:Glob w) (hs:Lim s.length) (ht:Lim text.length) (hm:MsRep F w ms mv) (hp:PsRep F w ps pt) (hl:∀ x∈ms,Lim x.length) :
 Calls Tryz.prog 17 #[str s,str text,.agg #[mv,pt]] w fun en w'=>en=.returned (.bool (followOk s text ms ps))/\Below w.heap.size w w':=by
 obtain ⟨ma,mc,rfl⟩:=hm.slice
 obtain ⟨pa,pc,rfl⟩:=hp.slice
 obtain ⟨W,hW,hbW,hz,b0⟩:=box_1 w (.cells #[.slice ma ms.length mc,.slice pa ps.length pc] 33)
 have C:=Lib.hid (strategy_any s text W (hg.below hbW) hs ht)
 have CL:=Lib.hid (fun (y:World) (hy:Below W.heap.size W y)=>implPlayLegal_any F s _ _ ms ps y hs ((hm.below hbW fun _ h=>h).below hy fun _ h=>h) ((hp.below hbW fun _ h=>h).below hy fun _ h=>h) hl)
 have HP:=Lib.hid (fun (y:World) (hy:Below W.heap.size W y) (h:playOk s ms ps=true)=>(plIn_zip (hm.below hbW fun _ h=>h) (hp.below hbW fun _ h=>h) hl h).below hy)
 have HG:=Lib.hid (fun (y:World) (hy:Below W.heap.size W y)=>(hg.below hbW).below hy)
 have HW:=Lib.hid (And.intro hW (And.intro hbW b0))
 clear hW hbW hz b0 hg hs ht hm hp hl
 go_enter Tryz.func17,Tryz.ntmps17
 go_upto_region 1 with (fail)
 rw [HW.out.1]
 go_wp2_with fail
 (with_reducible refine C.out.mono ?_)
 rintro en w1 ⟨kv,bv,rfl,hb1,hn1,hy1⟩
 clear C
 obtain ⟨c0,c1,_,_⟩:=cells_2 HW.out.2.2
 have d0:=(hb1.cell (World.block_lt_of_cell? _ _ c0)).trans c0
 have d1:=(hb1.cell (World.block_lt_of_cell? _ _ c1)).trans c1
 clear c0 c1
 have HB:=Lib.hid (And.intro hb1 (zzT HW.out.2.1 hb1))
 cases hq:rdTS s text with
 | none =>
   obtain rfl:=hn1 hq
   have E:=Lib.hid (followOk_none hq ms ps)
   clear hn1 hy1 hq hb1
   go_wp2_with fail
   go_ret
   exact ⟨by rw [E.out];rfl,HB.out.2⟩
 | some tb =>
   obtain ⟨t,b⟩:=tb
   obtain ⟨rk,rb⟩:=hy1 t b hq
   obtain ⟨E,et,hgd⟩:=followOk_some hq ms ps
   obtain ⟨ka,ks,rfl,_⟩:=encK_open rk
   obtain ⟨ba,rfl⟩:=encB_ptr rb
   have E:=Lib.hid E
   have HR:=Lib.hid (And.intro rk (And.intro rb (And.intro et hgd)))
   have C1:=Lib.hid (CL.out w1 hb1)
   clear hn1 hy1 hq hb1 rk rb et hgd CL
   cases hlg:legalOk s ms ps with
   | false =>
     rw [hlg] at E C1
     clear hlg
     go_wp2_with fail
     (with_reducible refine C1.out.mono ?_)
     rintro en w2 ⟨rfl,hb2⟩
     have HB2:=Lib.hid (zzT HB.out.2 hb2)
     clear hb2 d0 d1
     go_wp2_with fail
     go_ret
     exact ⟨by rw [E.out];rfl,HB2.out⟩
   | true =>
     rw [hlg,Bool.true_and] at E
     rw [hlg] at C1
     have HOK:=Lib.hid (legalOk_ok hlg)
     clear hlg
     go_wp2_with fail
     (with_reducible refine C1.out.mono ?_)
     rintro en w2 ⟨rfl,hb2⟩
     have hb12:=zzT HB.out.1 hb2
     have e0:=(hb2.cell (World.block_lt_of_cell? _ _ d0)).trans d0
     have e1:=(hb2.cell (World.block_lt_of_cell? _ _ d1)).trans d1
     have hpl:=HP.out w2 hb12 HOK.out
     rw [<- HR.out.2.2.1] at hpl
     have C2:=Lib.hid (follows_any (fun _=>True) t b (ms.zip ps) (.pointer (some ⟨ka,0,none⟩)) (.pointer (some ⟨ba,0,none⟩)) _ _ w2 (HG.out w2 hb12)
      ((Rep.below hb2 fun _ _=>trivial) HR.out.1) ((Rep.below hb2 fun _ _=>trivial) HR.out.2.1) ⟨(Rep.keep fun b o _ ho=>⟨trivial,ho⟩).1 _ _ hpl.m,(Rep.keep fun b o _ ho=>⟨trivial,ho⟩).1 _ _ hpl.p,hpl.ok,hpl.l⟩ HR.out.2.2.2.atoms HR.out.2.2.2.fit HR.out.2.2.2.wf)
     have HB2:=Lib.hid (zzT HB.out.2 hb2)
     obtain ⟨r,hr⟩:=zzN (decide (followsTo t b (ms.zip ps) (ms.zip ps).length))
     rw [hr] at C2 E
     clear hb2 d0 d1 hb12 hpl C1 HP HG hr
     go_wp2_with fail
     (with_reducible refine C2.out.mono ?_)
     rintro en w3 ⟨rfl,hb3⟩
     have HB3:=Lib.hid (zzT HB2.out hb3)
     clear hb3
     go_wp2_with fail
     go_ret
     exact ⟨by rw [E.out];rfl,HB3.out⟩
end Go.Proofs.YtdfkiicodfbibaaGreatDoor

/- Walks of functions that the statement reaches, and plain words. No conditions. -/
import Derived.Maps.Own
import Derived.Maps.Views
import Derived.Test.YtfedjhgaeikjmaaGreatDoorQ8
set_option linter.unusedVariables false
set_option linter.unusedSimpArgs false
set_option maxHeartbeats 8000000
namespace Go.Proofs.YtfedjhgaeikjmaaGreatDoor
open Go.RowKit
def NatAt (w:World) (ns:List Nat) (x:Value):Prop:=∃ b o c,x=.slice (some ⟨b,o,none⟩) ns.length c/\b<w.heap.size/\∀ (i n:Nat),ns[i]? = some n->w.cell? ⟨b,o+i,none⟩=some (.int .i64 (n:Nat))
theorem NatAt.below {w w':World} {ns:List Nat} {x:Value} (h:NatAt w ns x) (hb:Below w.heap.size w w'):NatAt w' ns x:=by
 obtain ⟨b,o,c,e,hl,hc⟩:=h
 exact ⟨b,o,c,e,b6 hl hb.size,fun i n hi=>(hb.cell (p:=⟨b,o+i,none⟩) hl).trans (hc i n hi)⟩
theorem Own.cells1 {w:World} {ns:List Nat} {v:Value} (h:Own w 3 1 v ns.length (km ns)) (hp:0<ns.length):∃ b c,v=.slice (some ⟨b,0,none⟩) ns.length c/\b<w.heap.size/\∀ (i n:Nat),ns[i]? = some n->w.cell? ⟨b,i,none⟩=some (.int .i64 (n:Nat))/\w.frozen? ⟨b,i,none⟩=false:=by
 rcases h.2 with ⟨_,h0⟩ | ⟨g,cap,cur,e,_,hg,mT,_,hcs,ht⟩
 ·omega
 ·refine ⟨g,cap,e,zZ hg,fun i n hi=>?_⟩
  have oc:=(List.getElem?_eq_some_iff.1 hi).1
  have h2:(km ns)[i]? = some (.int .i64 (n:Nat)):=by unfold km;rw [List.getElem?_map,hi];rfl
  rw [<- ht,List.getElem?_take,if_pos (by omega),Array.getElem?_toList] at h2
  exact ⟨by simp only [World.cell?,hg];simpa using h2,by simp [World.frozen?,hg]⟩
theorem px {B b:Nat} (hb:B<=b) {a:World}:∀ (vs:List Value) (o:Nat) (w:World),Below B a w->Below B a (w.setCells b o vs)
 | [],_,_,h=>h
 | v::r,o,_,h=>px hb r (o+1) _ (h.setCell (p:=⟨b,o,none⟩) hb v)
theorem reversed_at {w w':World} {ns:List Nat} {b c:Nat} {B:Nat} (hB:B<=b) (hl:b<w.heap.size) (hc:∀ (i n:Nat),ns[i]? = some n->w.cell? ⟨b,i,none⟩=some (.int .i64 (n:Nat))/\w.frozen? ⟨b,i,none⟩=false) {q:Nat}
 (e:w'=(w.drewN q).setCells b 0 ((ns.map fun n=>((n:Nat):Int)).reverse.map (Value.int .i64))):NatAt w' ns.reverse (.slice (some ⟨b,0,none⟩) ns.length c)/\Below B w w':=by
 have e2:(ns.map fun n=>((n:Nat):Int)).reverse.map (Value.int .i64)=km ns.reverse:=by unfold km;rw [<- List.map_reverse,List.map_map];rfl
 rw [e2] at e
 have b_:(km ns.reverse).length=ns.length:=by unfold km;simp
 have hb:Below B w w':=by
  rw [e]
  exact px hB _ _ _ (zi (bi _ _) q)
 refine ⟨⟨b,0,c,by rw [List.length_reverse],b6 hl hb.size,fun i n hi=>?_⟩,hb⟩
 have oc:=(List.getElem?_eq_some_iff.1 hi).1
 rw [List.length_reverse] at oc
 have h3:=World.cell?_setCells_in b (km ns.reverse) 0 (w.drewN q) (fun j hj=>by
  rw [b_] at hj
  have:=(hc j (ns[j]) (List.getElem?_eq_getElem hj)).1
  rw [Nat.zero_add]
  rw [show (w.drewN q).cell? ⟨b,j,none⟩=w.cell? ⟨b,j,none⟩ from (zi (bi w.heap.size w) q).cell hl,this];rfl) i (by omega)
 rw [e,h3]
 congr 1
 have h2:(km ns.reverse)[i]? = some (.int .i64 (n:Nat)):=by unfold km;rw [List.getElem?_map,hi];rfl
 exact (List.getElem?_eq_some_iff.1 h2).2
theorem uW (x:Int) (h1 : -2000<=x) (h2:x<=1000000):IntKind.i64.wrap x=x:=by
 simp [IntKind.wrap,IntKind.bits,IntKind.signed];omega
theorem intsV_append (a b:List Nat):km (a++b)=km a++km b:=by simp [km]
theorem good_pos {t:Ty} {v:Pl} {i:Nat} {c:UInt8} {p:Bs} {z:Int} (h:OkMv t v i c p z) : -1<=z/\z<(i:Int):=by
 rcases Nat.eq_zero_or_pos i with h0 | h0
 ·have:=(h.zero h0).2.2;omega
 ·have:=h.pos h0;omega
set_option maxRecDepth 100000 in
theorem view_any (F:Nat->Prop) (t:Ty) (v:Pl) (opp:Bool) (n:Nat) (mv pt:Value) (w:World) (hm:vK F w v mv) (hp:j_ F w v pt) (hv:zR t v=true) (hn0:0<n) (hn:n<=v.length) (hl:∀ x∈v,x.1.length<=16777216) :
 Calls Tryz.prog 54 #[.agg #[mv,pt],.int .i64 (n:Nat),.bool opp] w fun en w'=>∃ x,en=.returned x/\Below w.heap.size w w'/\NatAt w' (kG v opp n) x:=by
 have fd:=qc hv
 obtain ⟨ma,mc,rfl,fT⟩:=hm.cells
 obtain ⟨pa,pc,rfl,fq⟩:=hp.cells
 obtain ⟨W,hW,cK,hz,b0⟩:=qn w (.cells #[.slice ma v.length mc,.slice pa v.length pc] 33)
 obtain ⟨c0,c1,_,_⟩:=qX b0
 have hwn:IntKind.i64.wrap ((n:Int)-1)=(n:Int)-1:=wrap_small _ (by omega) (by omega)
 have HH:=bc (bm fT (bm fq (bm cK (bm hv hl))))
 have HW:=bc hW
 clear hm hp fT fq hz b0 cK hW hl hv
 go_enter Tryz.func54,Tryz.ntmps54
 go_upto_region 1 with (fail)
 rw [HW.out]
 go_wp2_with fail
 go_loopw [7,8] (fun o i wr=>∃ (r f:Nat) (ds:List Nat) (a:Option Addr) (c:Nat),i=.int .i64 ((r:Int)-1)/\r<=f/\ds.length+f=n/\ds++jJ v opp f r=jJ v opp n n/\o=.slice a ds.length c/\Own wr 3 1 (.slice a ds.length c) ds.length (km ds)/\Below W.heap.size W wr/\(∀ g,(Value.slice a ds.length c).ownBlock=some g->W.heap.size<=g)) (fun _ i _=>(intOf i+1).toNat)
 case atStart=>exact ⟨n,n,[],none,0,rfl,br _,by simp,rfl,rfl,World.ownsRow_nil _ _ _ _,bi _ _,fun g h=>by simp [Value.ownBlock] at h⟩
 case round =>
  obtain ⟨r,f,ds,a,c,rfl,AQ,hdf,hvd,rfl,ho,hB,hf⟩:=hrel
  have HO:=bc ho;have HF:=bc hf;have HB:=bc hB;have HV:=bc hvd
  clear ho hf hB hvd
  cases r with
  | zero =>
    have e0:(((0:Nat):Int)-1) = -1:=rfl
    rw [e0]
    have aS:ds=jJ v opp n n:=by
     have h:=HV.out
     rw [jg,List.append_nil] at h;exact h
    have hlp:0<ds.length:=by
     rw [aS]
     obtain ⟨n',rfl⟩:∃ n',n=n'+1:=⟨n-1,by omega⟩
     rw [kT,List.length_cons];omega
    obtain ⟨g,c',ev,aE,od⟩:=Own.cells1 HO.out hlp
    simp only [Value.slice.injEq,true_and] at ev
    obtain ⟨rfl,rfl⟩:=ev
    have C:=bc (Tryz.slices_Reverse_int_cells g 0 ds.length c (ds.map fun n=>((n:Nat):Int)) wr (by simp) (by omega) (fun j hj=>by
     rw [List.length_map] at hj
     rw [Nat.zero_add,(od j ds[j] (List.getElem?_eq_getElem hj)).1,List.getD_eq_getElem?_getD,List.getElem?_map,List.getElem?_eq_getElem hj];rfl) (fun j hj=>by
     rw [Nat.zero_add];exact (od j ds[j] (List.getElem?_eq_getElem hj)).2))
    have HG:=bc (bm aE od)
    have HD:=bc aS
    clear aE od hlp aS
    go_wp2_with fail
    (with_reducible refine C.out.mono ?_)
    rintro en w1 ⟨rfl,q,e⟩
    obtain ⟨hN,hb⟩:=reversed_at (B:=W.heap.size) (c:=c) (HF.out g rfl) HG.out.1 HG.out.2 (e.trans (by rw [List.take_of_length_le (by simp)]))
    have HN:=bc (bm hN (HB.out.trans hb))
    clear e hN hb C
    go_wp2_with fail
    go_ret
    refine ⟨_,rfl,zzT HH.out.2.2.1 HN.out.2,?_⟩
    unfold kG
    rw [<- HD.out]
    exact HN.out.1
  | succ k =>
    have ek:(((k+1:Nat):Int)-1)=(k:Int):=by omega
    rw [ek]
    have aH:k<v.length:=by omega
    have hkvI:(k:Int)<(v.length:Int):=by omega
    obtain ⟨x,p,z,dW,cH⟩:=kq HH.out.2.2.2.1 aH
    have cI:=HH.out.2.2.2.2 _ (List.mem_of_getElem? dW)
    rw [List.length_cons] at cI
    obtain ⟨mb,mo,rfl,_,f_,fZ⟩:=HH.out.1 k _ dW
    obtain ⟨pb,po,rfl,_,mS,fk⟩:=HH.out.2.1 k _ dW
    have hz:=good_pos cH
    have hwk:IntKind.i64.wrap ((k:Int)-1)=(k:Int)-1:=uW _ (by omega) (by omega)
    obtain ⟨f',rfl⟩:∃ f',f=f'+1:=⟨f-1,by omega⟩
    have KEY:Hid (∀ y,Below W.heap.size W y->y.cell? ⟨w.heap.size,0,none⟩=some (.slice (some ⟨mb,mo,none⟩) v.length mc)/\y.cell? ⟨w.heap.size,1,none⟩=some (.slice (some ⟨pb,po,none⟩) v.length pc)/\y.cell? ⟨mb,mo+k,none⟩=some (str (x::p))/\y.cell? ⟨pb,po+k,none⟩=some (.int .i64 z)):=bc (fun y hy=>by
     have eE:=zzT HH.out.2.2.1 hy
     exact ⟨(hy.cell (be _ _ c0)).trans c0,(hy.cell (be _ _ c1)).trans c1,(eE.cell (p:=⟨mb,mo+k,none⟩) f_).trans fZ,(eE.cell (p:=⟨pb,po+k,none⟩) mS).trans fk⟩)
    have CB:=vq x p (show p.length<=16777216 by omega)
    have l5:qq v opp (k+1-1)=qq v opp k:=rfl
    have HN:Hid (ds++[k]++jJ v opp f' (if qZ (x::p)=opp then k else (z+1).toNat)=jJ v opp n n):=bc (by
     have h:=HV.out
     rw [kT] at h
     unfold qq at h
     rw [dW] at h
     rw [List.append_assoc];exact h)
    obtain ⟨bo,nZ⟩:=zzN (qZ (x::p))
    rw [nZ] at CB HN
    have CB:=bc CB
    clear c0 c1 dW cH cI f_ fZ mS fk nZ l5
    go_wp2_with (at_builtin;refine zW rfl _ _ 31 rfl 3 (.int .i64 0) 1 8 Tryz.underlying31 Tryz.infoInt2 rfl (by decide) (.slice a ds.length c) ds.length (km ds) rfl ?c1 _ 1 [.int .i64 (k:Nat)] rfl ?c2 ?c3 ?c4 ?_)
    case c1=>exact HO.out.alloc _
    case c2=>exact zM.litk #[.int .i64 (k:Nat)] rfl (by simp [Value.oneCell']) _ (by rfl)
    case c3=>unfold maxLen;omega
    case c4=>omega
    intro a7 c7 w8 ho8 tJ hg8
    have hzr:=HB.out.size
    have n9:Below W.heap.size W w8:=(HB.out.alloc hzr _).trans (tJ.toBelow (by rw [zK];omega) fun i hi e=>by have:=HF.out i e;omega)
    have hF8:∀ g,(Value.slice a7 (ds.length+1) c7).ownBlock=some g->W.heap.size<=g:=fun g hg=>by
     rcases hg8 g hg with e | e
     ·exact HF.out g e
     ·omega
    have A5:Own w8 3 1 (.slice a7 (ds++[k]).length c7) (ds++[k]).length (km (ds++[k])):=by rw [intsV_append,List.length_append];exact ho8
    obtain ⟨d0,d1,m0,p0⟩:=KEY.out w8 n9
    have H8:=bc (bm A5 (bm n9 (by rw [show ds.length+1=(ds++[k]).length from by simp] at hF8;exact hF8)))
    have el:ds.length+1=(ds++[k]).length:=by simp
    rw [el]
    generalize aS:ds++[k]=ds' at *
    have o7:ds'.length=ds.length+1:=el.symm
    clear ho8 tJ hg8 n9 hF8 A5 KEY hzr el aS HO HF HV
    go_wp2_with fail
    (with_reducible refine (CB.out _).mono ?_)
    rintro en w9 ⟨rfl,e⟩
    subst w9
    by_cases nZ:bo=opp
    ·rw [if_pos nZ] at HN
     have b9:(bo == opp)=true:=by simp [nZ]
     clear nZ CB d1 p0
     go_wp2_with fail
     go_roundw
     case rel=>exact ⟨k,f',ds',a7,c7,rfl,by omega,by omega,HN.out,by rw [o7],H8.out.1,H8.out.2.1,H8.out.2.2⟩
     case measure=>simp [intOf]
    ·rw [if_neg nZ] at HN
     have b9:(bo == opp)=false:=by simp [nZ]
     clear nZ CB d0 m0
     go_wp2_with fail
     go_roundw
     case rel=>exact ⟨(z+1).toNat,f',ds',a7,c7,by congr 1;omega,by omega,by omega,HN.out,by rw [o7],H8.out.1,H8.out.2.1,H8.out.2.2⟩
     case measure=>simp [intOf];omega

def qG (v:Pl):Nat->List Int->Int
 | 0,_=>-1
 | k+1,ans=>match v[k]? with
   | none=>-1
   | some x=>if isQ x.1 then (if ans.contains (k:Int) then qG v k ans else (k:Int)) else qG v k (ans++[x.2])
theorem xo {v:Pl} {k:Nat} {m:Bs} {z:Int} (h:v[k]? = some (m,z)) (ans:List Int):qG v (k+1) ans=if isQ m then (if ans.contains (k:Int) then qG v k ans else (k:Int)) else qG v k (ans++[z]):=by
 rw [qG,h]
def setD (ans:List Int):DataW Unit:=ans.foldl (fun D z=>D.put (.int .i64 z) (.lit (.bool true))) (.map [])
theorem setD_snoc (ans:List Int) (z:Int):setD (ans++[z])=(setD ans).put (.int .i64 z) (.lit (.bool true)):=by
 unfold setD;rw [List.foldl_append];rfl
theorem bW (z:Int):∀ (ans:List Int) (D:DataW Unit) (b:Bool),Maps.IsMap D->D.atKey (.int .i64 z) (.lit (.bool false))=.lit (.bool b)->(ans.foldl (fun D z=>D.put (.int .i64 z) (.lit (.bool true))) D).atKey (.int .i64 z) (.lit (.bool false))=.lit (.bool (b || ans.contains z))
 | [],D,b,_,h=>by simpa using h
 | x::r,D,b,hm,h=>by
   rw [List.foldl_cons]
   by_cases hx:z=x
   ·subst hx
    rw [bW z r _ true (hm.put _ _) (Maps.atKey_put_same hm (show WideAt.IsKeyLit (.int .i64 z) from trivial) _ _)]
    simp
   ·rw [bW z r _ b (hm.put _ _) (by rw [Maps.atKey_put_other (by simpa using hx)];exact h)]
    simp [hx]
theorem setD_at (ans:List Int) (z:Int):(setD ans).atKey (.int .i64 z) (.lit (.bool false))=.lit (.bool (ans.contains z)):=by
 unfold setD
 rw [bW z ans _ false Maps.isMap_empty rfl,Bool.false_or]
theorem ownsMap_bool {P:Program} {k:TypeId} {w:World} {b n:Nat} {D:DataW Unit} {t e:TypeId} (h:w.ownsMap P k (plainElem P e) b n D) (K:Maps.Keyed P k) (ht:P.underlying t=some (.map k e)) (he:P.underlying e=some .bool) (hz:(zeroValue e).run P w=.ok (.bool false) w)
 {key:Value} {kl:Lit} (hkey:keyOf P k key=some kl):∃ c,(Instr.lookup t (.map (some b)) key false).run P w=.ok (.bool c) w/\D.atKey kl (.lit (.bool false))=.lit (.bool c):=by
 obtain ⟨v,ps,aZ,hv⟩:=h.lookup K ht hz (plainElem_bool he false) hkey
 unfold plainElem at hv
 rw [he] at hv
 cases v <;> simp at hv
 exact ⟨_,aZ,hv.1.symm⟩
theorem Tryz.lawI:Maps.Keyed Tryz.prog 3:=Maps.int_keyed Tryz.underlying3
theorem Tryz.zeroB (w:World):(zeroValue 4).run Tryz.prog w=.ok (.bool false) w:=by kernel_rfl
theorem keyI {z:Int} (h1 : -2000<=z) (h2:z<=1000000):keyOf Tryz.prog 3 (.int .i64 z)=some (.int .i64 z):=Maps.keyOf_int_mk Tryz.underlying3 (WalkArith.wf_i64 ⟨by omega,by omega⟩)
set_option maxRecDepth 100000 in
theorem pending_any (F:Nat->Prop) (t:Ty) (v:Pl) (n:Nat) (mv pt:Value) (w:World) (hm:vK F w v mv) (hp:j_ F w v pt) (hv:zR t v=true) (hn:n<=v.length) :
 Calls Tryz.prog 115 #[.agg #[mv,pt],.int .i64 (n:Nat)] w fun en w'=>en=.returned (.int .i64 (qG v n []))/\Below w.heap.size w w':=by
 have fd:=qc hv
 obtain ⟨ma,mc,rfl,fT⟩:=hm.cells
 obtain ⟨pa,pc,rfl,fq⟩:=hp.cells
 obtain ⟨W,hW,cK,hz,b0⟩:=qn w (.cells #[.slice ma v.length mc,.slice pa v.length pc] 33)
 obtain ⟨c0,c1,_,_⟩:=qX b0
 have hwn:IntKind.i64.wrap ((n:Int)-1)=(n:Int)-1:=uW _ (by omega) (by omega)
 have HH:=bc (bm fT (bm fq (bm cK hv)))
 have HW:=bc hW
 have aP:=@run_makeMap Tryz.prog
 clear hm hp fT fq hz b0 cK hW hv
 go_enter Tryz.func115,Tryz.ntmps115
 go_upto_region 1 with (fail)
 rw [HW.out]
 go_wp2_with fail
 go_loopw [6] (fun i wr=>∃ (r:Nat) (ans:List Int),i=.int .i64 ((r:Int)-1)/\r+ans.length<=n/\qG v r ans=qG v n []/\wr.ownsMap Tryz.prog 3 (plainElem (H:=Unit) Tryz.prog 4) W.heap.size ans.length (setD ans)/\Below W.heap.size W wr) (fun i _=>(intOf i+1).toNat)
 case atStart=>exact ⟨n,[],rfl,by simp,rfl,World.ownsMap_made _ _ _ _,(bi _ _).alloc (br _) _⟩
 case round =>
  obtain ⟨r,ans,rfl,mR,iF,ho,hB⟩:=hrel
  have HB:=bc hB;have HP:=bc iF;have HO:=bc ho
  clear hB iF ho
  cases r with
  | zero =>
    have e0:(((0:Nat):Int)-1) = -1:=rfl
    have E:=bc (show qG v n [] = -1 by rw [<- HP.out];rfl)
    rw [e0]
    go_wp2_with fail
    go_ret
    exact ⟨by rw [E.out];rfl,zzT HH.out.2.2.1 HB.out⟩
  | succ k =>
    have ek:(((k+1:Nat):Int)-1)=(k:Int):=by omega
    rw [ek]
    have aH:k<v.length:=by omega
    have hkvI:(k:Int)<(v.length:Int):=by omega
    obtain ⟨x,p,z,dW,cH⟩:=kq HH.out.2.2.2 aH
    obtain ⟨mb,mo,rfl,_,f_,fZ⟩:=HH.out.1 k _ dW
    obtain ⟨pb,po,rfl,_,mS,fk⟩:=HH.out.2.1 k _ dW
    have hz:=good_pos cH
    have hwk:IntKind.i64.wrap ((k:Int)-1)=(k:Int)-1:=uW _ (by omega) (by omega)
    obtain ⟨d0,d1,m0,p0⟩:wr.cell? ⟨w.heap.size,0,none⟩=some (.slice (some ⟨mb,mo,none⟩) v.length mc)/\wr.cell? ⟨w.heap.size,1,none⟩=some (.slice (some ⟨pb,po,none⟩) v.length pc)/\wr.cell? ⟨mb,mo+k,none⟩=some (str (x::p))/\wr.cell? ⟨pb,po+k,none⟩=some (.int .i64 z):=by
     have hy:=HB.out
     have eE:=zzT HH.out.2.2.1 hy
     exact ⟨(hy.cell (be _ _ c0)).trans c0,(hy.cell (be _ _ c1)).trans c1,(eE.cell (p:=⟨mb,mo+k,none⟩) f_).trans fZ,(eE.cell (p:=⟨pb,po+k,none⟩) mS).trans fk⟩
    have CB:=jj x p wr
    have HQ:=xo dW ans
    cases hq:isQ (x::p) with
    | false =>
      rw [hq] at CB HQ
      have E:=bc (HP.out.symm.trans HQ)
      have CB:=bc CB
      have kz:=bc (keyI (z:=z) (by omega) (by omega))
      clear c0 c1 dW cH f_ fZ mS fk hq HQ
      go_wp2_with fail
      (with_reducible refine CB.out.mono ?_)
      rintro en w9 ⟨rfl,e⟩
      subst w9
      go_wp2_with (at_mapUpdate;refine wpList_mapUpdate_own (H:=Unit) _ rfl _ _ _ 207 rfl 3 4 Tryz.lawI Tryz.underlying207 (plainElem Tryz.prog 4) W.heap.size ans.length _ rfl HO.out (by unfold maxLen;omega) _ _ _ rfl rfl kz.out _ [] (plainElem_bool Tryz.underlying4 true) ?_)
      intro w1 ox oe
      have oJ:Below W.heap.size W w1:=HB.out.trans ((But.ofGrown oe).toBelow HB.out.size fun i hi e=>by simp at e;omega)
      rw [<- setD_snoc] at ox
      have H1:=bc (bm ox oJ)
      clear ox oe oJ d0 d1 m0 p0
      go_wp2_with fail
      go_roundw
      case rel=>exact ⟨k,ans++[z],rfl,by rw [List.length_append];simp;omega,E.out.symm,by rw [List.length_append];exact H1.out.1,H1.out.2⟩
      case measure=>simp [intOf]
    | true =>
      rw [hq] at CB HQ
      obtain ⟨c,aZ,hat⟩:=ownsMap_bool HO.out Tryz.lawI Tryz.underlying207 Tryz.underlying4 (Tryz.zeroB _) (keyI (z:=(k:Int)) (by omega) (by omega))
      rw [setD_at] at hat
      obtain rfl:ans.contains (k:Int)=c:=by simpa using hat
      have E:=bc (HP.out.symm.trans HQ)
      have CB:=bc CB
      clear c0 c1 dW cH f_ fZ mS fk hq HQ hat
      cases hc:ans.contains (k:Int) with
      | true =>
        rw [hc] at aZ E
        clear hc
        go_wp2_with fail
        (with_reducible refine CB.out.mono ?_)
        rintro en w9 ⟨rfl,e⟩
        subst w9
        go_wp2_with fail
        go_roundw
        case rel=>exact ⟨k,ans,rfl,by omega,E.out.symm,HO.out,HB.out⟩
        case measure=>simp [intOf]
      | false =>
        rw [hc] at aZ E
        clear hc
        go_wp2_with fail
        (with_reducible refine CB.out.mono ?_)
        rintro en w9 ⟨rfl,e⟩
        subst w9
        go_wp2_with fail
        go_ret
        exact ⟨by rw [E.out];rfl,zzT HH.out.2.2.1 HB.out⟩

def vu (p:Nat->Bool):Nat->Bool
 | 0=>true
 | n+1=>vu p n && p n
theorem xZ {p:Nat->Bool}:∀ {n i:Nat},vu p n=true->i<n->p i=true
 | 0,i,_,hi=>absurd hi (by omega)
 | n+1,i,h,hi=>by
   rw [vu,Bool.and_eq_true] at h
   rcases Nat.lt_or_ge i n with h' | h'
   ·exact xZ h.1 h'
   ·obtain rfl:i=n:=by omega
    exact h.2
theorem allP_no {p:Nat->Bool} {n i:Nat} (h:p i=false) (hi:i<n):vu p n=false:=by
 cases hh:vu p n with
 | false=>rfl
 | true=>rw [xZ hh hi] at h;simp at h
theorem gU {p:Nat->Bool}:∀ {n:Nat},(∀ i,i<n->p i=true)->vu p n=true
 | 0,_=>rfl
 | n+1,h=>by rw [vu,gU (fun i hi=>h i (by omega)),h n (by omega)];rfl
theorem allP_le {p:Nat->Bool} {n m:Nat} (h:vu p n=true) (hm:m<=n):vu p m=true:=gU fun i hi=>xZ h (by omega)
def yB (v:Pl) (i:Nat):Bool:=if i=0 then true else match v[i]? with
 | none=>true
 | some x=>((kG v (qZ x.1) i).map fun n=>((n:Nat):Int)).contains x.2
def p7 (v:Pl) (i:Nat):Bool:=match v[i]? with
 | none=>true
 | some x=>isQ x.1 || x.2 == qG v i []
def visP (v:Pl):Bool:=vu (yB v) v.length
def brP (v:Pl):Bool:=vu (p7 v) v.length
def vz (v:Pl):Bool:=visP v && brP v
theorem visAt_at {v:Pl} {i:Nat} {m:Bs} {z:Int} (h:v[i]? = some (m,z)) (hi:0<i):yB v i=((kG v (qZ m) i).map fun n=>((n:Nat):Int)).contains z:=by
 unfold yB;rw [if_neg (by omega),h]
theorem brAt_at {v:Pl} {i:Nat} {m:Bs} {z:Int} (h:v[i]? = some (m,z)):p7 v i=(isQ m || z == qG v i []):=by
 unfold p7;rw [h]
theorem viewD_len (v:Pl) (opp:Bool):∀ f n,(jJ v opp f n).length<=f
 | 0,_=>by simp [jJ]
 | f+1,0=>by rw [jg];simp
 | f+1,n+1=>by rw [kT,List.length_cons];have:=viewD_len v opp f (qq v opp n);omega
theorem viewP_len (v:Pl) (opp:Bool) (n:Nat):(kG v opp n).length<=n:=by
 unfold kG;rw [List.length_reverse];exact viewD_len v opp n n
theorem contains_view {w:World} {ns:List Nat} {x:Value} (h:NatAt w ns x) (hl:ns.length<=1000000) (z:Int) :
 Calls Tryz.prog 113 #[x,.int .i64 z] w fun en w'=>en=.returned (.bool ((ns.map fun n=>((n:Nat):Int)).contains z))/\w'=w:=by
 obtain ⟨b,o,c,rfl,hb,hc⟩:=h
 refine (Tryz.slices_Contains_int b o ns.length c (ns.map fun n=>((n:Nat):Int)) z w (by simp) (by omega) (fun j hj=>?_)).mono ?_
 ·rw [List.length_map] at hj
  rw [hc j ns[j] (List.getElem?_eq_getElem hj),List.getD_eq_getElem?_getD,List.getElem?_map,List.getElem?_eq_getElem hj];rfl
 ·rintro en w' ⟨rfl,e⟩
  exact ⟨by rw [List.take_of_length_le (by simp)],e⟩
structure p9 (F:Nat->Prop) (t:Ty) (v:Pl) (mv pt:Value) (w:World):Prop where
 m:vK F w v mv
 p:j_ F w v pt
 ok:zR t v=true
 l:∀ x∈v,x.1.length<=16777216
theorem p9.below {F:Nat->Prop} {t:Ty} {v:Pl} {mv pt:Value} {w w':World} (h:p9 F t v mv pt w) (hb:Below w.heap.size w w'):p9 F t v mv pt w':=⟨Rep.below hb (fun _ h=>h) h.m,Rep.below hb (fun _ h=>h) h.p,h.ok,h.l⟩
set_option maxRecDepth 100000 in
theorem visible_any (F:Nat->Prop) (t:Ty) (v:Pl) (mv pt:Value) (w:World) (h:p9 F t v mv pt w) :
 Calls Tryz.prog 79 #[.agg #[mv,pt]] w fun en w'=>en=.returned (.bool (visP v))/\Below w.heap.size w w':=by
 have fd:=qc h.ok
 obtain ⟨ma,mc,rfl,fT⟩:=h.m.cells
 obtain ⟨pa,pc,rfl,fq⟩:=h.p.cells
 obtain ⟨W,hW,cK,hz,b0⟩:=qn w (.cells #[.slice ma v.length mc,.slice pa v.length pc] 33)
 obtain ⟨c0,c1,_,_⟩:=qX b0
 have HH:=bc (bm fT (bm fq (bm cK (h.below cK))))
 have HW:=bc hW
 clear h fT fq hz b0 cK hW
 go_enter Tryz.func79,Tryz.ntmps79
 go_upto_region 1 with (fail)
 rw [HW.out]
 go_wp2_with fail
 go_loopw [3] (fun i wr=>∃ (wz:World) (k:Nat),wz=wr/\1<=k/\k<=v.length+1/\i=.int .i64 k/\vu (yB v) k=true/\Below W.heap.size W wz) (fun i _=>v.length+1-(intOf i).toNat)
 case atStart=>exact ⟨_,1,rfl,br _,by omega,rfl,rfl,bi _ _⟩
 case round =>
  obtain ⟨wr,k,rfl,hk1,hk,rfl,cq,hB⟩:=hrel
  have d0:=(hB.cell (be _ _ c0)).trans c0
  have d1:=(hB.cell (be _ _ c1)).trans c1
  clear c0 c1
  have HB:=bc (bm hB (zzT HH.out.2.2.1 hB))
  clear hB
  by_cases cZ:k<v.length
  ·have nF:(k:Int)<(v.length:Int):=by omega
   obtain ⟨x,p,z,dW,cH⟩:=kq HH.out.2.2.2.ok cZ
   have cI:=HH.out.2.2.2.l _ (List.mem_of_getElem? dW)
   rw [List.length_cons] at cI
   obtain ⟨mb,mo,rfl,_,f_,fZ⟩:=HH.out.1 k _ dW
   obtain ⟨pb,po,rfl,_,mS,fk⟩:=HH.out.2.1 k _ dW
   have m0:=(HB.out.2.cell (p:=⟨mb,mo+k,none⟩) f_).trans fZ
   have p0:=(HB.out.2.cell (p:=⟨pb,po+k,none⟩) mS).trans fk
   have PLR:=bc (fun (y:World) (hy:Below wr.heap.size wr y)=>(HH.out.2.2.2.below HB.out.1).below hy)
   have VK:=visAt_at dW (by omega)
   have CB:=bc (vq x p (show p.length<=16777216 by omega))
   obtain ⟨bo,nZ⟩:=zzN (qZ (x::p))
   rw [nZ] at VK CB
   obtain ⟨cn,tu⟩:=zzN (yB v k)
   rw [tu] at VK
   have CV:=bc (fun (y:World) (hy:Below wr.heap.size wr y)=>view_any F t v bo k _ _ y (PLR.out y hy).m (PLR.out y hy).p HH.out.2.2.2.ok (by omega) (by omega) HH.out.2.2.2.l)
   have HV:=bc (bm VK (bm tu (bm cq cZ)))
   have KEY:=bc (fun (y:World) (hy:Below wr.heap.size wr y)=>(show y.cell? ⟨w.heap.size,0,none⟩=some (.slice (some ⟨mb,mo,none⟩) v.length mc)/\y.cell? ⟨w.heap.size,1,none⟩=some (.slice (some ⟨pb,po,none⟩) v.length pc)/\y.cell? ⟨mb,mo+k,none⟩=some (str (x::p))/\y.cell? ⟨pb,po+k,none⟩=some (.int .i64 z) from
    ⟨(hy.cell (be _ _ d0)).trans d0,(hy.cell (be _ _ d1)).trans d1,(hy.cell (be _ _ m0)).trans m0,(hy.cell (be _ _ p0)).trans p0⟩))
   clear dW cH cI f_ fZ mS fk nZ tu VK cq
   go_upto_region 4 with (fail)
   clear d0 d1 m0 p0
   refine wp_region_noPanic ?_
   refine kE (fun w'=>Below wr.heap.size wr w') (fun _=>false) (by kernel_rfl) ?_
   have cR:(fun w'=>Below wr.heap.size wr w') wr.drew:=Below.drew (bi _ _)
   refine tk [0,1,2] cR ?_
   (intro d hd;simp [tkD] at hd;subst hd;simp only [tks,pQ,pZ,pS])
   iterate 3 (refine ⟨?_,?_,?_⟩;rotate_left;· (intro oi ho;simp at ho;subst ho;refine Or.inl ⟨by rfl,fun w' cL=>?_⟩;have e0:=(KEY.out w' cL).1;have e1:=(KEY.out w' cL).2.1;go_simp;try with_reducible rfl))
   refine tk [3,4,5] cR ?_
   (intro d hd;simp [tkD] at hd;subst hd;simp only [tks,pQ,pZ,pS])
   iterate 3 (refine ⟨?_,?_,?_⟩;rotate_left;· (intro oi ho;simp at ho;subst ho;refine Or.inl ⟨by rfl,fun w' cL=>?_⟩;have e0:=(KEY.out w' cL).1;go_simp;try with_reducible rfl))
   refine tk [6,9] cR ?_
   (intro d hd;simp [tkD] at hd;subst hd;simp only [tks,pQ,pZ,pS])
   iterate 2 (refine ⟨?_,?_,?_⟩;rotate_left;· (intro oi ho;simp at ho;subst ho;refine Or.inl ⟨by rfl,fun w' cL=>?_⟩;have e0:=(KEY.out w' cL).2.2.1;go_simp;try with_reducible rfl))
   refine tk [10,11,12] cR ?_
   (intro d hd;simp [tkD] at hd;subst hd;simp only [tks,pQ,pZ,pS])
   iterate 3 (refine ⟨?_,?_,?_⟩;rotate_left;· (intro oi ho;simp at ho;subst ho;refine Or.inl ⟨by rfl,fun w' cL=>?_⟩;have e0:=(KEY.out w' cL).2.1;go_simp;try with_reducible rfl))
   refine tk [13] cR ?_
   (intro d hd;simp [tkD] at hd;subst hd;simp only [tks,pQ,pZ,pS])
   (refine ⟨?_,?_,?_⟩;rotate_left;· (intro oi ho;simp at ho;subst ho;refine Or.inl ⟨by rfl,fun w' cL=>?_⟩;have e0:=(KEY.out w' cL).2.2.2;go_simp;try with_reducible rfl))
   (refine on 7 ?_;intro o ho K' hK;simp at ho;subst ho;go_simp)
   go_at_call 94
   (with_reducible refine (CB.out _).mono ?_)
   rintro en x7 ⟨rfl,e⟩
   subst x7
   (refine hK.out _ _ (fun _=>cR) ?_;clear hK K';try simp only [pQ,pN,pZ,pS])
   (refine on 8 ?_;intro o ho K' hK;simp at ho;subst ho;go_simp)
   go_at_call 54
   (with_reducible refine (CV.out _ cR).mono ?_)
   rintro en x8 ⟨xv,rfl,tJ,hn8⟩
   have n9:Below wr.heap.size wr x8:=zzT cR tJ
   have CC:=contains_view hn8 (by have:=viewP_len v bo k;omega) z
   rw [<- HV.out.1] at CC
   (refine hK.out _ _ (fun _=>n9) ?_;clear hK K';try simp only [pQ,pN,pZ,pS])
   (refine on 14 ?_;intro o ho K' hK;simp at ho;subst ho;go_simp)
   go_at_call 113
   (with_reducible refine CC.mono ?_)
   rintro en Ak ⟨rfl,e⟩
   subst Ak
   clear CC
   (refine hK.out _ _ (fun _=>n9) ?_;clear hK K';try simp only [pQ,pN,pZ,pS])
   have az:=n9
   refine tk [15] az ?_
   (intro d hd;simp [tkD] at hd;subst hd;simp only [tks,pQ,pZ,pS])
   (refine ⟨?_,?_,?_⟩;rotate_left;· (intro oi ho;simp at ho;subst ho;refine Or.inl ⟨by rfl,fun w' cL=>?_⟩;go_simp;try with_reducible rfl))
   refine kF (by kernel_rfl) (NoPanic.normal ?_) _
   have Dk:=bc n9
   clear n9 tJ hn8 cR az KEY CV CB PLR
   cases cn with
   | true =>
     have E:=bc (show vu (yB v) (k+1)=true by rw [vu,HV.out.2.2.1,HV.out.2.1];rfl)
     go_wp2_with fail
     go_roundw
     case rel=>exact ⟨_,k+1,rfl,by omega,by omega,by go_num,E.out,zzT HB.out.1 Dk.out⟩
     case measure=>simp [intOf];omega
   | false =>
     have E:=bc (show visP v=false from allP_no HV.out.2.1 HV.out.2.2.2)
     go_wp2_with fail
     go_ret
     exact ⟨by rw [E.out];rfl,zzT HB.out.2 Dk.out⟩
  ·have E:=bc (show visP v=true from allP_le cq (by omega))
   have nF:¬ (k:Int)<(v.length:Int):=by omega
   clear cq
   go_wp2_with fail
   go_ret
   exact ⟨by rw [E.out];rfl,HB.out.2⟩
set_option maxRecDepth 100000 in
theorem bracketed_any (F:Nat->Prop) (t:Ty) (v:Pl) (mv pt:Value) (w:World) (h:p9 F t v mv pt w) :
 Calls Tryz.prog 80 #[.agg #[mv,pt]] w fun en w'=>en=.returned (.bool (brP v))/\Below w.heap.size w w':=by
 have fd:=qc h.ok
 obtain ⟨ma,mc,rfl,fT⟩:=h.m.cells
 obtain ⟨pa,pc,rfl,fq⟩:=h.p.cells
 obtain ⟨W,hW,cK,hz,b0⟩:=qn w (.cells #[.slice ma v.length mc,.slice pa v.length pc] 33)
 obtain ⟨c0,c1,_,_⟩:=qX b0
 have HH:=bc (bm fT (bm fq (bm cK (h.below cK))))
 have HW:=bc hW
 clear h fT fq hz b0 cK hW
 go_enter Tryz.func80,Tryz.ntmps80
 go_upto_region 1 with (fail)
 rw [HW.out]
 go_wp2_with fail
 go_loopw [8] (fun i wr=>∃ (wz:World) (k:Nat),wz=wr/\k<=v.length/\i=.int .i64 k/\vu (p7 v) k=true/\Below W.heap.size W wz) (fun i _=>v.length-(intOf i).toNat)
 case atStart=>exact ⟨_,0,rfl,Nat.zero_le _,rfl,rfl,bi _ _⟩
 case round =>
  obtain ⟨wr,k,rfl,hk,rfl,cq,hB⟩:=hrel
  have d0:=(hB.cell (be _ _ c0)).trans c0
  have d1:=(hB.cell (be _ _ c1)).trans c1
  clear c0 c1
  have HB:=bc (bm hB (zzT HH.out.2.2.1 hB))
  clear hB
  by_cases cZ:k<v.length
  ·have nF:(k:Int)<(v.length:Int):=by omega
   obtain ⟨x,p,z,dW,cH⟩:=kq HH.out.2.2.2.ok cZ
   obtain ⟨mb,mo,rfl,_,f_,fZ⟩:=HH.out.1 k _ dW
   obtain ⟨pb,po,rfl,_,mS,fk⟩:=HH.out.2.1 k _ dW
   have m0:=(HB.out.2.cell (p:=⟨mb,mo+k,none⟩) f_).trans fZ
   have p0:=(HB.out.2.cell (p:=⟨pb,po+k,none⟩) mS).trans fk
   have PLR:=bc (fun (y:World) (hy:Below wr.heap.size wr y)=>(HH.out.2.2.2.below HB.out.1).below hy)
   have VK:=brAt_at dW
   have CB:=bc (jj x p)
   obtain ⟨q,hq⟩:=zzN (isQ (x::p))
   obtain ⟨M,hM⟩:=zzM (x::p)
   obtain ⟨cn,tu⟩:=zzN (p7 v k)
   rw [hq] at VK CB
   rw [tu] at VK
   rw [<- hM] at m0 CB
   have CV:=bc (fun (y:World) (hy:Below wr.heap.size wr y)=>pending_any F t v k _ _ y (PLR.out y hy).m (PLR.out y hy).p HH.out.2.2.2.ok (by omega))
   have KEY:=bc (fun (y:World) (hy:Below wr.heap.size wr y)=>(show y.cell? ⟨w.heap.size,0,none⟩=some (.slice (some ⟨mb,mo,none⟩) v.length mc)/\y.cell? ⟨w.heap.size,1,none⟩=some (.slice (some ⟨pb,po,none⟩) v.length pc)/\y.cell? ⟨pb,po+k,none⟩=some (.int .i64 z) from
    ⟨(hy.cell (be _ _ d0)).trans d0,(hy.cell (be _ _ d1)).trans d1,(hy.cell (be _ _ p0)).trans p0⟩))
   have HV:=bc (bm tu (bm cq cZ))
   generalize iF:qG v k []=pe at *
   clear dW cH f_ fZ mS fk hq tu cq iF hM
   cases q with
   | true =>
     obtain rfl:cn=true:=by rw [VK];rfl
     clear VK
     go_upto_region 4 with (fail)
     clear d0 d1 m0 p0
     refine wp_region_noPanic ?_
     refine kE (fun w'=>Below wr.heap.size wr w') (fun _=>false) (by kernel_rfl) ?_
     have cR:(fun w'=>Below wr.heap.size wr w') wr.drew:=Below.drew (bi _ _)
     refine tk [0] cR ?_
     (intro d hd;simp [tkD] at hd;subst hd;simp only [tks,pQ,pZ,pS])
     (refine ⟨?_,?_,?_⟩;rotate_left;· (intro oi ho;simp at ho;subst ho;refine Or.inl ⟨by rfl,fun w' cL=>?_⟩;go_simp;try with_reducible rfl))
     (refine on 1 ?_;intro o ho K' hK;simp at ho;subst ho;go_simp)
     go_at_call 114
     (with_reducible refine (CB.out _).mono ?_)
     rintro en x1 ⟨rfl,e⟩
     subst x1
     (refine hK.out _ _ (fun _=>cR) ?_;clear hK K';try simp only [pQ,pN,pZ,pS])
     refine tk [2,3,4,5,6,7,8,9,10,11,12,13] cR ?_
     (intro d hd;simp [tkD] at hd;subst hd;simp only [tks,pQ,pZ,pS])
     iterate 12 (refine ⟨?_,?_,?_⟩;rotate_left;· (intro oi ho;simp at ho;subst ho;first | (refine Or.inr ⟨by rfl,?_⟩;with_reducible rfl) | (refine Or.inl ⟨by rfl,fun w' cL=>?_⟩;go_simp;try with_reducible rfl)))
     refine kF (by kernel_rfl) (NoPanic.normal ?_) _
     have E:=bc (show vu (p7 v) (k+1)=true by rw [vu,HV.out.2.1,HV.out.1];rfl)
     clear KEY CV CB PLR cR
     go_wp2_with fail
     go_roundw
     case rel=>exact ⟨_,k+1,rfl,by omega,by go_num,E.out,HB.out.1.drew⟩
     case measure=>simp [intOf];omega
   | false =>
     rw [Bool.false_or] at VK
     go_upto_region 4 with (fail)
     clear d0 d1 m0 p0
     refine wp_region_noPanic ?_
     refine kE (fun w'=>Below wr.heap.size wr w') (fun _=>false) (by kernel_rfl) ?_
     have cR:(fun w'=>Below wr.heap.size wr w') wr.drew:=Below.drew (bi _ _)
     refine tk [0] cR ?_
     (intro d hd;simp [tkD] at hd;subst hd;simp only [tks,pQ,pZ,pS])
     (refine ⟨?_,?_,?_⟩;rotate_left;· (intro oi ho;simp at ho;subst ho;refine Or.inl ⟨by rfl,fun w' cL=>?_⟩;go_simp;try with_reducible rfl))
     (refine on 1 ?_;intro o ho K' hK;simp at ho;subst ho;go_simp)
     go_at_call 114
     (with_reducible refine (CB.out _).mono ?_)
     rintro en x1 ⟨rfl,e⟩
     subst x1
     (refine hK.out _ _ (fun _=>cR) ?_;clear hK K';try simp only [pQ,pN,pZ,pS])
     refine tk [2,3,4,5,6,7] cR ?_
     (intro d hd;simp [tkD] at hd;subst hd;simp only [tks,pQ,pZ,pS])
     iterate 6 (refine ⟨?_,?_,?_⟩;rotate_left;· (intro oi ho;simp at ho;subst ho;refine Or.inl ⟨by rfl,fun w' cL=>?_⟩;have e0:=(KEY.out w' cL).2.1;go_simp;try with_reducible rfl))
     refine tk [8] cR ?_
     (intro d hd;simp [tkD] at hd;subst hd;simp only [tks,pQ,pZ,pS])
     (refine ⟨?_,?_,?_⟩;rotate_left;· (intro oi ho;simp at ho;subst ho;refine Or.inl ⟨by rfl,fun w' cL=>?_⟩;have e0:=(KEY.out w' cL).2.2;go_simp;try with_reducible rfl))
     refine tk [9,10] cR ?_
     (intro d hd;simp [tkD] at hd;subst hd;simp only [tks,pQ,pZ,pS])
     iterate 2 (refine ⟨?_,?_,?_⟩;rotate_left;· (intro oi ho;simp at ho;subst ho;refine Or.inl ⟨by rfl,fun w' cL=>?_⟩;have e0:=(KEY.out w' cL).1;have e1:=(KEY.out w' cL).2.1;go_simp;try with_reducible rfl))
     (refine on 11 ?_;intro o ho K' hK;simp at ho;subst ho;go_simp)
     go_at_call 115
     (with_reducible refine (CV.out _ cR).mono ?_)
     rintro en Al ⟨rfl,tU⟩
     have n9:Below wr.heap.size wr Al:=zzT cR tU
     (refine hK.out _ _ (fun _=>n9) ?_;clear hK K';try simp only [pQ,pN,pZ,pS])
     have Cs:=n9
     refine tk [12,13] Cs ?_
     (intro d hd;simp [tkD] at hd;subst hd;simp only [tks,pQ,pZ,pS])
     iterate 2 (refine ⟨?_,?_,?_⟩;rotate_left;· (intro oi ho;simp at ho;subst ho;refine Or.inl ⟨by rfl,fun w' cL=>?_⟩;go_simp;try with_reducible rfl))
     refine kF (by kernel_rfl) (NoPanic.normal ?_) _
     have Dk:=bc n9
     clear KEY CV CB PLR cR n9 Cs tU
     cases cn with
     | true =>
       have cX:(z != pe)=false:=by rw [bne,<- VK];rfl
       clear VK
       have E:=bc (show vu (p7 v) (k+1)=true by rw [vu,HV.out.2.1,HV.out.1];rfl)
       go_wp2_with fail
       go_roundw
       case rel=>exact ⟨_,k+1,rfl,by omega,by go_num,E.out,zzT HB.out.1 Dk.out⟩
       case measure=>simp [intOf];omega
     | false =>
       have cX:(z != pe)=true:=by rw [bne,<- VK];rfl
       clear VK
       have E:=bc (show brP v=false from allP_no HV.out.1 HV.out.2.2)
       go_wp2_with fail
       go_ret
       exact ⟨by rw [E.out];rfl,zzT HB.out.2 Dk.out⟩
  ·obtain rfl:k=v.length:=by omega
   have E:=bc (show brP v=true from cq)
   clear cq
   go_wp2_with fail
   go_ret
   exact ⟨by rw [E.out];rfl,HB.out.2⟩
set_option maxRecDepth 100000 in
theorem legal_any (F:Nat->Prop) (t:Ty) (v:Pl) (mv pt:Value) (w:World) (h:p9 F t v mv pt w) :
 Calls Tryz.prog 44 #[.agg #[mv,pt]] w fun en w'=>en=.returned (.bool (vz v))/\Below w.heap.size w w':=by
 obtain ⟨ma,mc,rfl,fT⟩:=h.m.cells
 obtain ⟨pa,pc,rfl,fq⟩:=h.p.cells
 obtain ⟨W,hW,cK,hz,b0⟩:=qn w (.cells #[.slice ma v.length mc,.slice pa v.length pc] 33)
 have C1:=bc (visible_any F t v _ _ W (h.below cK))
 have C2:=bc (fun (y:World) (hy:Below W.heap.size W y)=>bracketed_any F t v _ _ y ((h.below cK).below hy))
 have HL:Hid (vz v=(visP v && brP v)):=bc rfl
 have HW:=bc (bm hW (bm cK b0))
 generalize visP v=b1 at *
 generalize brP v=b2 at *
 obtain ⟨c0,c1,_,_⟩:=qX b0
 clear h fT fq hz b0 cK hW
 go_enter Tryz.func44,Tryz.ntmps44
 go_upto_region 1 with (fail)
 rw [HW.out.1]
 go_wp2_with fail
 (with_reducible refine C1.out.mono ?_)
 rintro en w1 ⟨rfl,b9⟩
 cases b1 with
 | false =>
   have HB:=bc (zzT HW.out.2.1 b9)
   clear b9 c0 c1
   go_wp2_with fail
   go_ret
   exact ⟨by rw [HL.out];rfl,HB.out⟩
 | true =>
   have d0:=(b9.cell (be _ _ c0)).trans c0
   have d1:=(b9.cell (be _ _ c1)).trans c1
   have C2':=bc (C2.out w1 b9)
   have HB:=bc (zzT HW.out.2.1 b9)
   clear b9 c0 c1 C2
   go_wp2_with fail
   (with_reducible refine C2'.out.mono ?_)
   rintro en w2 ⟨rfl,b8⟩
   have c_:=bc (zzT HB.out b8)
   clear b8
   go_wp2_with fail
   go_ret
   exact ⟨by rw [HL.out,Bool.true_and];rfl,c_.out⟩
def jq (s:Bs) (ms:List Bs) (ps:List Int):Bool:=jM s ms ps && vz (ms.zip ps)
theorem gx {s:Bs} {ms:List Bs} {ps:List Int} (h:jM s ms ps=true):ps.length=ms.length/\zR (zQ s).1 (ms.zip ps)=true/\zV (zQ s).1<=15:=by
 unfold jM jb at h
 simp only [Bool.and_eq_true,decide_eq_true_eq] at h
 obtain ⟨h1,h2,h3,h4⟩:=h
 refine ⟨h3,?_,(yM h1).2⟩
 unfold zR
 rw [h4,Bool.and_true]
 simp only [decide_eq_true_eq]
 rw [List.length_zip];omega
theorem plIn_zip {F:Nat->Prop} {s:Bs} {ms:List Bs} {ps:List Int} {mv pt:Value} {w:World} (hm:ve F w ms mv) (hp:vt F w ps pt) (hl:∀ x∈ms,Lim x.length) (h:jM s ms ps=true):p9 F (zQ s).1 (ms.zip ps) mv pt w:=by
 obtain ⟨h1,h2,_⟩:=gx h
 exact ⟨hm.zip h1,hp.zip h1,h2,fun x hx=>(hl _ (List.of_mem_zip hx).1).le⟩
set_option maxRecDepth 100000 in
theorem vr (F:Nat->Prop) (s:Bs) (mv pt:Value) (ms:List Bs) (ps:List Int) (w:World) (hs:Lim s.length) (hm:ve F w ms mv) (hp:vt F w ps pt) (hl:∀ x∈ms,Lim x.length) :
 Calls Tryz.prog 18 #[str s,.agg #[mv,pt]] w fun en w'=>en=.returned (.bool (jq s ms ps))/\Below w.heap.size w w':=by
 obtain ⟨ma,mc,rfl⟩:=hm.slice
 obtain ⟨pa,pc,rfl⟩:=hp.slice
 obtain ⟨W,hW,cK,hz,b0⟩:=qn w (.cells #[.slice ma ms.length mc,.slice pa ps.length pc] 33)
 obtain ⟨c0,c1,_,_⟩:=qX b0
 have ow:=hm.below cK (fun _ h=>h)
 have hpW:=hp.below cK (fun _ h=>h)
 have C1:=bc (wU F s _ _ ms ps W hs ow hpW hl)
 have C2:=bc (fun (y:World) (hy:Below W.heap.size W y) (h:jM s ms ps=true)=>legal_any F _ _ _ _ y ((plIn_zip ow hpW hl h).below hy))
 have HL:Hid (jq s ms ps=(jM s ms ps && vz (ms.zip ps))):=bc rfl
 have HW:=bc (bm hW (bm cK b0))
 generalize jM s ms ps=b1 at *
 generalize vz (ms.zip ps)=b2 at *
 clear hm hp hz b0 cK hW ow hpW hl hs
 go_enter Tryz.func18,Tryz.ntmps18
 go_upto_region 1 with (fail)
 rw [HW.out.1]
 go_wp2_with fail
 (with_reducible refine C1.out.mono ?_)
 rintro en w1 ⟨rfl,b9⟩
 cases b1 with
 | false =>
   have HB:=bc (zzT HW.out.2.1 b9)
   clear b9 c0 c1
   go_wp2_with fail
   go_ret
   exact ⟨by rw [HL.out];rfl,HB.out⟩
 | true =>
   have d0:=(b9.cell (be _ _ c0)).trans c0
   have d1:=(b9.cell (be _ _ c1)).trans c1
   have C2':=bc (C2.out w1 b9 rfl)
   have HB:=bc (zzT HW.out.2.1 b9)
   clear b9 c0 c1 C2
   go_wp2_with fail
   (with_reducible refine C2'.out.mono ?_)
   rintro en w2 ⟨rfl,b8⟩
   have c_:=bc (zzT HB.out b8)
   clear b8
   go_wp2_with fail
   go_ret
   exact ⟨by rw [HL.out,Bool.true_and];rfl,c_.out⟩

def yf (F:Nat->Prop) (w:World) (s:St) (bv lsl:Value):Prop:=Rep F w (kp s.1) bv/\jG F w s.2.1 lsl
theorem yf.keep {F F':Nat->Prop} {w w':World} {s:St} {bv lsl:Value} (h:yf F w s bv lsl) (hk:∀ b o,F b->w.heap[b]? = some o->F' b/\w'.heap[b]? = some o):yf F' w' s bv lsl:=⟨(Rep.keep hk).1 _ _ h.1,(Rep.keep hk).1 _ _ h.2⟩
def BehS (s':St) (F:Nat->Prop) (w:World) (en:Ending) (w':World):Prop :=
 ∃ ba la lc,en=.returned (.agg #[.pointer (some ⟨ba,0,none⟩),.slice la s'.2.1.length lc,.int .i64 (s'.2.2.1:Nat),str s'.2.2.2])/\Below w.heap.size w w'/\yf F w' s' (.pointer (some ⟨ba,0,none⟩)) (.slice la s'.2.1.length lc)
theorem behind_step {t:Ty} {hand:List Ty} {s:St} {l:Nat} {ss:List Bd} {y n:Bd} {a:Ty} {pl:zj} {c:UInt8} {p:Bs} {z:Nat} (k:Nat) (F:Nat->Prop) (bv kv lsl:Value) (w:World)
 (hd:StepD t hand s l ss y n a pl c p) (hs:wR t hand s z) (cQ:zV t<=15) (hz:z<=100) (hg:qF w) (hk:Rep F w (jS t) kv) (hr:yf F w s bv lsl) (hF:∀ b,w.heap.size<=b->F b) :
 ∃ s',xh t s (c::p) k=some s'/\Calls Tryz.prog 104 #[.agg #[bv,lsl,.int .i64 (s.2.2.1:Nat),str s.2.2.2],kv,str (c::p),.int .i64 (k:Nat)] w (BehS s' F w):=by
 have o_:=jE _ _ _ hd.hat
 have mQ:=jW a
 have rE:=hs.ll
 have b_:=hd.len
 obtain ⟨b,lv,bg⟩:=s
 have fw:b=.ask l ss y n:=hd.body
 subst fw
 obtain ⟨hb,dx⟩:=hr
 have eR:jG F w lv lsl:=dx
 have co:Rep F w (kp (.ask l ss y n)) bv:=hb
 have hll':lv.length<=8*z:=rE
 unfold xh
 simp only
 rcases hd.mv with ⟨rfl,j,aj,sb,hp,hj,Cm,rh,hat,hld⟩ | ⟨hc,hp⟩
 ·rw [if_pos rfl,hld,rh]
  have e0:jx t p=aj.args.length:=by unfold jx;rw [hat]
  have e1:=jE _ _ _ hat
  have mx:0<p.length:=by rw [hp,List.length_append];simp
  refine ⟨_,rfl,(behind_q F t aj l j ss sb y n bv kv lsl lv bg p k w hg co hk eR cQ rh hj mx (by omega) ?_ hat (by omega) (by omega)).mono ?_⟩
  ·subst hp;simp
  ·rintro en w' ⟨ba,la,lc,rfl,db,rb,rl⟩
   refine ⟨ba,la,lc,?_,db,Rep.below db (fun _ h=>h) rb,?_⟩
   ·show _=Ending.returned (.agg #[_,.slice la (lv++zx (jx t p) k p).length lc,_,_])
    rw [e0]
   ·show jG F w' (lv++zx (jx t p) k p) (.slice la (lv++zx (jx t p) k p).length lc)
    rw [e0]
    exact (Rep.keep fun i o hi ho=>⟨hF i hi,ho⟩).1 _ _ rl
 ·have tx:¬ c=113:=by rcases hc with h | h <;> rw [h] <;> decide
  rw [if_neg tx]
  obtain ⟨la,lc,rfl,_⟩:=eR.open
  obtain ⟨kb,ks,rfl,_⟩:=zv hk
  refine ⟨_,rfl,(behind_ans c hc F l ss y n bv (.pointer (some ⟨kb,0,none⟩)) la lv.length lc bg (c::p) k w co (by simp) rfl ⟨_,rfl⟩).mono ?_⟩
  rintro en w' ⟨ba,rfl,db,rb⟩
  refine ⟨ba,la,lc,rfl,db,?_,Rep.below db (fun _ h=>h) eR⟩
  show Rep F w' (kp (if c=102 then n else y)) _
  have:(if c=102 then n else y)=(if c=116 then y else n):=by rcases hc with h | h <;> rw [h] <;> rfl
  rw [this]
  exact Rep.below db (fun _ h=>h) rb
theorem behind_step2 {t:Ty} {hand:List Ty} {s s':St} {l:Nat} {ss:List Bd} {y n:Bd} {a:Ty} {pl:zj} {c:UInt8} {p:Bs} {z k:Nat} (dC:xh t s (c::p) k=some s') (F:Nat->Prop) (bv kv lsl:Value) (w:World)
 (hd:StepD t hand s l ss y n a pl c p) (hs:wR t hand s z) (cQ:zV t<=15) (hz:z<=100) (hg:qF w) (hk:Rep F w (jS t) kv) (hr:yf F w s bv lsl) (hF:∀ b,w.heap.size<=b->F b) :
 Calls Tryz.prog 104 #[.agg #[bv,lsl,.int .i64 (s.2.2.1:Nat),str s.2.2.2],kv,str (c::p),.int .i64 (k:Nat)] w (BehS s' F w):=by
 obtain ⟨s2,h2,h3⟩:=behind_step k F bv kv lsl w hd hs cQ hz hg hk hr hF
 rw [dC] at h2
 obtain rfl:=Option.some.inj h2
 exact h3
def StandQ (s:St) (w:World) (en:Ending) (w':World):Prop :=
 ∃ bv lsl,en=.returned (.agg #[bv,lsl,.int .i64 (s.2.2.1:Nat),str s.2.2.2])/\Below w.heap.size w w'/\yf (fun _=>True) w' s bv lsl
set_option maxRecDepth 100000 in
theorem standIn_any (F:Nat->Prop) (t:Ty) (b:Bd) (v:Pl) (k n:Nat) (hnk:n=k+1) (s0:St) (kv bv mv pt:Value) (w:World) (hg:qF w) (hk:Rep F w (jS t) kv) (hb:Rep F w (kp b) bv) (hm:p9 F t v mv pt w)
 (cQ:zV t<=15) (hf:kJ t.args b) (hw:wfB b) (aH:k<v.length) (eT:k % 2=0) (nM:kB t b v k) (fY:kg t b v (k+1)=some s0) :
 Calls Tryz.prog 66 #[kv,bv,.agg #[mv,pt],.int .i64 (n:Nat)] w (StandQ s0 w):=by
 have fd:=qc hm.ok
 have VC:=bc (view_chain hm.ok k aH eT)
 have PF:=bc (fun e (he:e<=k) (se:e % 2=0)=>gp cQ hf hw hm.ok e (by omega) se (fun i hi h=>nM i (by omega) h))
 have FO:=bc (bm nM fY)
 have FIT:=bc (gF (b:=b) cQ hf hw)
 have cT:0<n:=by omega
 have fB:n<=v.length:=by omega
 have HK:=bc hnk;clear hnk
 obtain ⟨ba,rfl⟩:=kU hb
 obtain ⟨kb,ks,rfl,_⟩:=zv hk
 obtain ⟨ma,mc,rfl,fT⟩:=hm.m.cells
 obtain ⟨pa,pc,rfl,fq⟩:=hm.p.cells
 obtain ⟨W,hW,cK,hz,b0,b1⟩:=boxes_2 w (.cells #[.slice ma v.length mc,.slice pa v.length pc] 33) (.cells #[.pointer none,.slice none 0 0,.int .i64 0,str []] 117)
 obtain ⟨c0,c1,_,_⟩:=qX b0
 have CV:=bc (view_any F t v false n _ _ W (hm.below cK).m (hm.below cK).p hm.ok cT fB hm.l)
 have HI:=bc (bm hg (bm hk (bm hb (bm fT (bm cQ (bm hm.ok hm))))))
 have HW:=bc (bm hW (bm cK (bm hz (bm b0 b1))))
 clear hW cK hz b0 b1 hg hk hb hm cQ fT fq hf hw nM fY
 go_enter Tryz.func66,Tryz.ntmps66
 go_upto_region 1 with (fail)
 rw [HW.out.1]
 go_wp2_with fail
 (with_reducible refine CV.out.mono ?_)
 rintro en w2 ⟨vv,rfl,b8,Cw⟩
 rw [HK.out] at Cw
 generalize nG:kG v false (k+1)=vw at *
 obtain ⟨vb,vo,vc,rfl,fS,hvc⟩:=Cw
 obtain ⟨z0,i8⟩:∃ z0:Nat,z0=0:=⟨_,rfl⟩
 have h0:w2.cell? ⟨vb,vo,none⟩=some (.int .i64 (z0:Nat)):=by rw [i8];exact hvc 0 0 VC.out.zero
 have HZ:=bc i8
 have hvp:0<vw.length:=(List.getElem?_eq_some_iff.1 VC.out.zero).1
 have hvpI:(0:Int)<(vw.length:Int):=by omega
 have mB:=(HI.out.1.below HW.out.2.1).below b8
 have ro:=(HI.out.2.1.below HW.out.2.1 (fun _ h=>h)).below b8 (fun _ h=>h)
 have CS:=bc (standOf_any F t (.pointer (some ⟨kb,0,none⟩)) (.pointer (some ⟨ba,0,none⟩)) z0 w2 mB ro HI.out.2.2.2.2.1 ⟨_,rfl⟩)
 have H2:=bc (bm b8 (bm fS hvc))
 clear i8 mB ro b8 fS hvc c0 c1 CV nG
 go_wp2_with fail
 (with_reducible refine CS.out.mono ?_)
 rintro en w3 ⟨la,lc,rfl,cP,dx⟩
 clear h0 CS
 obtain ⟨Y,hY,o9,hzY,y0⟩:=qn w3 (.cells #[.pointer (some ⟨ba,0,none⟩),.slice la (zx t.args.length z0 []).length lc,.int .i64 (z0:Nat),str []] 117)
 have du:=HW.out.2.2.1
 have d9:=H2.out.1.size
 have fO:=cP.size
 have l_:Below w2.heap.size w2 Y:=zzT cP o9
 have l7:Below W.heap.size W Y:=zzT H2.out.1 l_
 have lr:Below w.heap.size w Y:=zzT HW.out.2.1 l7
 have tE:=bc (show yf (fun g=>g≠w3.heap.size/\g≠w.heap.size+1) Y (gM t b) (.pointer (some ⟨ba,0,none⟩)) (.slice la (zx t.args.length z0 []).length lc) by
  constructor
  ·refine (Rep.keep fun i o _ ho=>⟨?_,?_⟩).1 _ _ HI.out.2.2.1
   ·have:=zZ ho;omega
   ·rw [lr.block _ (zZ ho)];exact ho
  ·rw [HZ.out] at dx ⊢
   refine (Rep.keep fun i o hi ho=>⟨?_,?_⟩).1 _ _ dx
   ·have:=zZ ho
    have h9:w2.heap.size<=i:=hi
    omega
   ·rw [o9.block _ (zZ ho)];exact ho)
 have HY:=bc (bm hY (bm lr (bm l7 (bm l_ (bm y0 hzY)))))
 have ad:=bc (bm du (bm d9 fO))
 clear hY o9 hzY y0 du d9 fO l_ l7 lr dx cP
 go_wp2_with fail
 rw [HY.out.1]
 generalize rh:w3.heap.size=sb at *
 go_loopw [11] (fun i wr=>∃ (wz:World) (j e:Nat) (s:St) (hand:List Ty) (xv lsl:Value),wz=wr/\i=.int .i64 ((2*j+2:Nat):Int)/\vw[2*j]? = some e/\kg t b v (e+1)=some s/\wR t hand s (e+1)/\wz.heap[sb]? = some (.cells #[xv,lsl,.int .i64 (s.2.2.1:Nat),str s.2.2.2] 117 (0,0))/\yf (fun g=>g≠sb/\g≠w.heap.size+1) wz s xv lsl/\But (fun g=>g=sb) Y wz) (fun i _=>vw.length+2-(intOf i).toNat)
 case atStart =>
  refine ⟨_,0,0,gM t b,t.args,_,_,rfl,rfl,VC.out.zero,v9 t b v,?_,?_,tE.out,But.refl _ _⟩
  ·exact FIT.out
  ·have i8:=HZ.out
   subst i8
   exact HY.out.2.2.2.2.1
 case round =>
  obtain ⟨wr,j,e,s,hand,xv,lsl,rfl,rfl,oL,cI,ct,mE,dC,hB⟩:=hrel
  obtain ⟨xa,rfl⟩:=kU dC.1
  obtain ⟨lsa,lsc,rfl,_⟩:=jG.open dC.2
  obtain ⟨q0,q1,q2,q3⟩:=kH mE
  have hsbY:sb<Y.heap.size:=zZ HY.out.2.2.2.2.1
  have hek:=VC.out.all _ _ oL
  have hjv:=(List.getElem?_eq_some_iff.1 oL).1
  have dW:=VC.out.len
  obtain ⟨i2,sh⟩:=zzM (2*j+2)
  rw [<- sh]
  have oS:Below w.heap.size w wr:=HY.out.2.1.trans (hB.toBelow (by have:=HY.out.2.1.size;omega) fun i hi e1=>by have h1:=ad.out;omega)
  have HB:=bc (bm hB oS)
  have af:=bc (bm dC (bm mE (bm ct cI)))
  clear hB oS dC mE
  by_cases cZ:i2<vw.length
  ·have nF:(i2:Int)<(vw.length:Int):=by omega
   obtain ⟨e1,e',c,p,h1,h2,h3,h4,h5,h6,h7⟩:=VC.out.step j (by omega)
   obtain rfl:e1=e:=Option.some.inj (h1.symm.trans oL)
   have hr:=FO.out.1 (e1+1) (by have:=h6.lt;omega) h6.odd
   obtain ⟨x,hx,i_⟩:=h6.en
   unfold jC at hr
   rw [cI,Option.bind_some,hx] at hr
   obtain ⟨l,ss,y,nn,a,pl,hd⟩:=step_data HI.out.2.2.2.2.1 ct h7 h4 i_ hr
   obtain ⟨s',dg,dO,d9⟩:=hd.next (k:=e') ct (by have:=h6.lt;omega) (by omega) HI.out.2.2.2.2.1
   have AY:kg t b v (e'+1)=some s':=by rw [vH HI.out.2.2.2.2.2.1 b (by omega) h4 h6,cI,Option.bind_some,dO]
   have he'v:(e':Int)<(v.length:Int):=by omega
   obtain ⟨mb,mo,rfl,_,f_,fZ⟩:=HI.out.2.2.2.1 e' _ h6.at'
   have CB:=bc (fun (y:World) (hy:Below wr.heap.size wr y)=>behind_step2 dO (fun g=>g≠sb/\g≠w.heap.size+1) (.pointer (some ⟨xa,0,none⟩)) (.pointer (some ⟨kb,0,none⟩)) (.slice lsa s.2.1.length lsc) y hd ct HI.out.2.2.2.2.1 (by omega) ((HI.out.1.below HB.out.2).below hy)
    ((Rep.keep fun i o _ ho=>⟨by have:=zZ ho;have h1:=ad.out;omega,by rw [hy.block i (by have:=zZ ho;have:=HB.out.2.size;omega),HB.out.2.block i (zZ ho)];exact ho⟩).1 _ _ HI.out.2.1)
    (af.out.1.keep fun i o hi ho=>⟨hi,by rw [hy.block i (zZ ho)];exact ho⟩) (fun i hi=>by have h9:wr.heap.size<=i:=b7 hy.size hi;have h1:=ad.out;have h2:=HB.out.1.size;omega))
   have HN:=bc (bm AY (bm d9 (bm (show vw[2*(j+1)]? = some e' from h2) (show i2+2=2*(j+1)+2 by omega))))
   obtain ⟨M,hM⟩:=zzM (c::p)
   rw [<- hM] at CB fZ
   have KEY:=bc (fun (y:World) (hy:Below wr.heap.size wr y)=>(show (y.cell? ⟨sb,0,none⟩=some (.pointer (some ⟨xa,0,none⟩))/\y.cell? ⟨sb,1,none⟩=some (.slice lsa s.2.1.length lsc)/\y.cell? ⟨sb,2,none⟩=some (.int .i64 (s.2.2.1:Nat))/\y.cell? ⟨sb,3,none⟩=some (str s.2.2.2))/\y.cell? ⟨w.heap.size,0,none⟩=some (.slice (some ⟨mb,mo,none⟩) v.length mc)/\y.cell? ⟨vb,vo+i2,none⟩=some (.int .i64 (e':Nat))/\y.cell? ⟨mb,mo+e',none⟩=some (str M) from by
    have hk:∀ (a:Addr) (u:Value),wr.cell? a=some u->y.cell? a=some u:=fun a u h=>(hy.cell (be _ _ h)).trans h
    have hwk:∀ (a:Addr) (u:Value),w.cell? a=some u->y.cell? a=some u:=fun a u h=>hk a u ((HB.out.2.cell (be _ _ h)).trans h)
    obtain ⟨k0,_⟩:=qX HW.out.2.2.2.1
    have hY0:∀ (a:Addr) (u:Value),a.block≠sb->a.block<Y.heap.size->Y.cell? a=some u->y.cell? a=some u:=fun a u cX hl h=>hk a u ((HB.out.1.cell hl cX).trans h)
    have h1:=ad.out
    refine ⟨⟨hk _ _ q0,hk _ _ q1,hk _ _ q2,hk _ _ q3⟩,hY0 _ _ (by show w.heap.size≠sb;omega) (by show w.heap.size<_;omega) ((HY.out.2.2.1.cell (be _ _ k0)).trans k0),?_,hwk _ _ fZ⟩
    have hvi:vw[i2]? = some e':=by rw [sh];exact h2
    exact hY0 _ _ (by show vb≠sb;have:=H2.out.2.1;omega) (by show vb<_;have:=H2.out.2.1;omega) ((HY.out.2.2.2.1.cell (p:=⟨vb,vo+i2,none⟩) H2.out.2.1).trans (H2.out.2.2 i2 e' hvi))))
   have oT:IntKind.i64.wrap ((i2:Int)+2)=((i2+2:Nat):Int):=by rw [uW _ (by omega) (by omega)];omega
   clear q0 q1 q2 q3 hr hx i_ hd dO d9 AY h1 h2 h3 h4 h5 h6 h7 f_ fZ oL cI ct sh hM hek hjv dW
   go_upto_region 6 with (fail)
   refine wp_region_noPanic ?_
   refine kE (fun w'=>Below wr.heap.size wr w') (fun i=>i=15) (by kernel_rfl) ?_
   have cR:(fun w'=>Below wr.heap.size wr w') wr.drew:=Below.drew (bi _ _)
   refine tk [0,1,2] cR ?_
   (intro d hd;simp [tkD] at hd;subst hd;simp only [tks,pQ,pZ,pS])
   iterate 3 (refine ⟨?_,?_,?_⟩;rotate_left;· (intro oi ho;simp at ho;subst ho;refine Or.inl ⟨by rfl,fun w' cL=>?_⟩;obtain ⟨e0,e1,e2,e3⟩:=(KEY.out w' cL).1;go_simp;try with_reducible rfl))
   refine tk [3,4,5,6] cR ?_
   (intro d hd;simp [tkD] at hd;subst hd;simp only [tks,pQ,pZ,pS])
   iterate 4 (refine ⟨?_,?_,?_⟩;rotate_left;· (intro oi ho;simp at ho;subst ho;refine Or.inl ⟨by rfl,fun w' cL=>?_⟩;have e0:=(KEY.out w' cL).2.1;go_simp;try with_reducible rfl))
   refine tk [7,8] cR ?_
   (intro d hd;simp [tkD] at hd;subst hd;simp only [tks,pQ,pZ,pS])
   iterate 2 (refine ⟨?_,?_,?_⟩;rotate_left;· (intro oi ho;simp at ho;subst ho;refine Or.inl ⟨by rfl,fun w' cL=>?_⟩;have e0:=(KEY.out w' cL).2.2.1;go_simp;try with_reducible rfl))
   refine tk [9,10,11,12] cR ?_
   (intro d hd;simp [tkD] at hd;subst hd;simp only [tks,pQ,pZ,pS])
   iterate 4 (refine ⟨?_,?_,?_⟩;rotate_left;· (intro oi ho;simp at ho;subst ho;refine Or.inl ⟨by rfl,fun w' cL=>?_⟩;have e0:=(KEY.out w' cL).2.2.2;go_simp;try with_reducible rfl))
   refine tk [13] cR ?_
   (intro d hd;simp [tkD] at hd;subst hd;simp only [tks,pQ,pZ,pS])
   (refine ⟨?_,?_,?_⟩;rotate_left;· (intro oi ho;simp at ho;subst ho;refine Or.inl ⟨by rfl,fun w' cL=>?_⟩;have e0:=(KEY.out w' cL).2.2.1;go_simp;try with_reducible rfl))
   (refine on 14 ?_;intro o ho K' hK;simp at ho;subst ho;go_simp)
   go_at_call 104
   (with_reducible refine (CB.out _ cR).mono ?_)
   rintro en Ak ⟨b2,l2,c2,rfl,aL,AW⟩
   have tC:Below wr.heap.size wr Ak:=zzT cR aL
   have xx:=(tC.block _ (zZ af.out.2.1)).trans af.out.2.1
   (refine hK.out _ _ (fun _=>tC) ?_;clear hK K';try simp only [pQ,pN,pZ,pS])
   have az:=tC
   (refine on 15 ?_;intro o ho K' hK;simp at ho;subst ho)
   have f0:=zd xx 0;have f1:=zd xx 1;have f2:=zd xx 2;have f3:=zd xx 3
   obtain ⟨e0,e1,e2,e3⟩:=kH xx
   go_simp
   (refine hK.out _ _ (fun h=>by simp at h) ?_;clear hK K';try simp only [pQ,pN,pZ,pS])
   refine kF (by kernel_rfl) (NoPanic.normal ?_) _
   obtain ⟨W10,tP⟩:=zzN (((((Ak.setCell ⟨sb,0,none⟩ (.pointer (some ⟨b2,0,none⟩))).setCell ⟨sb,1,none⟩ (.slice l2 s'.2.1.length c2)).setCell ⟨sb,2,none⟩ (.int .i64 (s'.2.2.1:Nat))).setCell ⟨sb,3,none⟩ (str s'.2.2.2)))
   rw [tP]
   have iy:W10.heap[sb]? = some (.cells #[.pointer (some ⟨b2,0,none⟩),.slice l2 s'.2.1.length c2,.int .i64 (s'.2.2.1:Nat),str s'.2.2.2] 117 (0,0)):=by rw [<- tP];exact uC xx _ _ _ _
   have aJ:∀ g,g≠sb->W10.heap[g]? = Ak.heap[g]?:=fun g hg=>by
    rw [<- tP,b5 _ _ _ _ (by show g≠sb;exact hg),b5 _ _ _ _ (by show g≠sb;exact hg),b5 _ _ _ _ (by show g≠sb;exact hg),b5 _ _ _ _ (by show g≠sb;exact hg)]
   have Cy:But (fun g=>g=sb) Y W10:=by
    rw [<- tP]
    exact ((((HB.out.1.trans (But.ofBelow tC)).setCell (p:=⟨sb,0,none⟩) (.inl rfl) _).setCell (p:=⟨sb,1,none⟩) (.inl rfl) _).setCell (p:=⟨sb,2,none⟩) (.inl rfl) _).setCell (p:=⟨sb,3,none⟩) (.inl rfl) _
   have rx:=bc (bm iy (bm Cy (AW.keep (F':=fun g=>g≠sb/\g≠w.heap.size+1) (w':=W10) fun i o hi ho=>⟨hi,by rw [aJ i hi.1];exact ho⟩)))
   clear iy aJ Cy AW tP xx tC aL az cR KEY CB
   go_wp2_with fail
   go_roundw
   case rel=>exact ⟨_,j+1,e',s',dg,_,_,rfl,by rw [<- HN.out.2.2.2];rfl,HN.out.2.2.1,HN.out.1,HN.out.2.1,rx.out.1,rx.out.2.2,rx.out.2.1⟩
   case measure=>simp [intOf];omega
  ·have nF:¬ (i2:Int)<(vw.length:Int):=by omega
   have mw:=VC.out.odd
   have dw:=VC.out.last
   have h1:=ad.out
   rw [show vw.length-1=2*j from by omega,oL] at dw
   obtain rfl:=Option.some.inj dw
   obtain rfl:s=s0:=Option.some.inj (cI.symm.trans FO.out.2)
   have b1:wr.heap[w.heap.size+1]? = some (.cells #[.pointer none,.slice none 0 0,.int .i64 0,str []] 117 (0,0)):=by
    rw [HB.out.1.block _ (by omega) (by omega),HY.out.2.2.1.block _ (by omega)];exact HW.out.2.2.2.2
   have f0:=zd b1 0;have f1:=zd b1 1;have f2:=zd b1 2;have f3:=zd b1 3
   obtain ⟨z0',z1',z2',z3'⟩:=kH b1
   have HS:=bc (bm b1 h1)
   clear oL cI ct hek dW dw mw b1 h1 hjv
   go_wp2_with fail
   have hV:=uC HS.out.1 (.pointer (some ⟨xa,0,none⟩)) (.slice lsa s.2.1.length lsc) (.int .i64 (s.2.2.1:Nat)) (str s.2.2.2)
   obtain ⟨s0',s1',s2',s3'⟩:=kH hV
   have aJ:∀ g,g≠w.heap.size+1->((((wr.setCell ⟨w.heap.size+1,0,none⟩ (.pointer (some ⟨xa,0,none⟩))).setCell ⟨w.heap.size+1,1,none⟩ (.slice lsa s.2.1.length lsc)).setCell ⟨w.heap.size+1,2,none⟩ (.int .i64 (s.2.2.1:Nat))).setCell ⟨w.heap.size+1,3,none⟩ (str s.2.2.2)).heap[g]? = wr.heap[g]?:=fun g hg=>by
    rw [b5 _ _ _ _ (by show g≠w.heap.size+1;exact hg),b5 _ _ _ _ (by show g≠w.heap.size+1;exact hg),b5 _ _ _ _ (by show g≠w.heap.size+1;exact hg),b5 _ _ _ _ (by show g≠w.heap.size+1;exact hg)]
   have eP:=(((HB.out.2.setCell (p:=⟨w.heap.size+1,0,none⟩) (Nat.le_succ _) (.pointer (some ⟨xa,0,none⟩))).setCell (p:=⟨w.heap.size+1,1,none⟩) (Nat.le_succ _) (.slice lsa s.2.1.length lsc)).setCell (p:=⟨w.heap.size+1,2,none⟩) (Nat.le_succ _) (.int .i64 (s.2.2.1:Nat))).setCell (p:=⟨w.heap.size+1,3,none⟩) (Nat.le_succ _) (str s.2.2.2)
   refine bodyPost_ret (v:=.agg #[(.pointer (some ⟨xa,0,none⟩)),(.slice lsa s.2.1.length lsc),.int .i64 (s.2.2.1:Nat),str s.2.2.2]) (by simp [results,Tryz.results66,go_sem,s0',s1',s2',s3']) rfl ?_
   exact ⟨_,_,rfl,eP,af.out.1.keep fun i o hi ho=>⟨trivial,by rw [aJ i hi.2];exact ho⟩⟩
set_option maxRecDepth 100000 in
theorem tells_u (F:Nat->Prop) (bv lsl:Value) (bg:zj) (w:World) (hb:Rep F w (kp (.leaf 117)) bv) :
 Calls Tryz.prog 67 #[.agg #[bv,lsl,.int .i64 (bg.1:Nat),str bg.2]] w fun en w'=>en=.returned (.tuple #[str [],.int .i64 (-1)])/\Below w.heap.size w w':=by
 have C:=bc (fun wz (h:Below w.heap.size w wz)=>yu F wz 117 bv (hb.below h (fun _ h=>h)))
 obtain ⟨b,sl,rfl,_,hc,_⟩:=y6 hb
 obtain ⟨W,hW,cK,hz,bx⟩:=qn w (.cells #[.pointer (some ⟨b,0,none⟩),lsl,.int .i64 (bg.1:Nat),str bg.2] 117)
 have CW:=bc (C.out W cK)
 obtain ⟨e0,e1,e2,e3⟩:=kH bx
 have c1:W.cell? ⟨b,0,none⟩=some (.string ⟨#[117]⟩):=(cK.cell (by exact zZ hc)).trans (by simp [World.cell?,hc])
 have HW:=bc (bm hW cK)
 clear hW cK hz bx hc hb C e1
 go_enter Tryz.func67,Tryz.ntmps67
 go_upto_region 1 with (fail)
 rw [HW.out.1]
 go_wp2_with fail
 (with_reducible refine CW.out.mono ?_)
 rintro en w1 ⟨rfl,ew⟩
 subst ew
 go_wp2_with fail
 go_ret2
 exact ⟨rfl,HW.out.2⟩
def yD (s:St):Bs×Int:=(xp s).getD ([],-1)
theorem tells_any {t:Ty} {hand:List Ty} {s:St} {n:Nat} (F:Nat->Prop) (bv lsl:Value) (w:World) (hs:wR t hand s n) (cQ:zV t<=15) (hn:n<=100) (hr:yf F w s bv lsl) :
 Calls Tryz.prog 67 #[.agg #[bv,lsl,.int .i64 (s.2.2.1:Nat),str s.2.2.2]] w fun en w'=>en=.returned (.tuple #[str (yD s).1,.int .i64 (yD s).2])/\Below w.heap.size w w':=by
 obtain ⟨ta,t6⟩:=hs.bgt
 have db:=jE _ _ _ t6
 have rE:=hs.ll
 obtain ⟨b,lv,bg⟩:=s
 cases b with
 | leaf c =>
   by_cases hc:c=117
   ·subst hc;exact tells_u F bv lsl bg w hr.1
   ·refine (tells_leaf F c bv lsl bg w hr.1 hc (by have:bg.2.length<=100:=by { show ((Bd.leaf c,lv,bg):St).2.2.2.length<=100;omega };omega)).mono ?_
    rintro en w' ⟨rfl,hb⟩
    refine ⟨?_,hb⟩
    unfold yD xp
    simp only [if_neg hc,Option.getD_some]
 | ask l ss y nn =>
   have hf:=hs.fit
   rw [show ((Bd.ask l ss y nn,lv,bg):St).1=.ask l ss y nn from rfl,kJ] at hf
   obtain ⟨a,h1,_⟩:=hf
   obtain ⟨pl,hl,hat,_⟩:=hs.pf.each l a h1
   have eS:lv[l]? = some pl:=hl
   have cI:=jE _ _ _ hat
   have hll':lv.length<=8*n:=rE
   refine (tells_ask F l ss y nn bv lsl lv bg pl w hr.1 hr.2 eS (by omega) (by omega)).mono ?_
   rintro en w' ⟨rfl,hb⟩
   refine ⟨?_,hb⟩
   unfold yD xp
   simp only [eS,Option.map_some,Option.getD_some]
theorem tellV_eq {s:St} {c:UInt8} {p:Bs} {z:Int}:xp s=some (c::p,z)↔((yD s).1=c::p/\(yD s).2=z):=by
 unfold yD
 cases h:xp s with
 | none=>simp
 | some x=>obtain ⟨m,y⟩:=x;simp
set_option maxRecDepth 100000 in
theorem follows_any (F:Nat->Prop) (t:Ty) (b:Bd) (v:Pl) (kv bv mv pt:Value) (w:World) (hg:qF w) (hk:Rep F w (jS t) kv) (hb:Rep F w (kp b) bv) (hm:p9 F t v mv pt w)
 (cQ:zV t<=15) (hf:kJ t.args b) (hw:wfB b) :
 Calls Tryz.prog 36 #[kv,bv,.agg #[mv,pt]] w fun en w'=>en=.returned (.bool (decide (kB t b v v.length)))/\Below w.heap.size w w':=by
 have fd:=qc hm.ok
 obtain ⟨ba,rfl⟩:=kU hb
 obtain ⟨kb,ks,rfl,_⟩:=zv hk
 obtain ⟨ma,mc,rfl,fT⟩:=hm.m.cells
 obtain ⟨pa,pc,rfl,fq⟩:=hm.p.cells
 obtain ⟨W,hW,cK,hz,b0⟩:=qn w (.cells #[.slice ma v.length mc,.slice pa v.length pc] 33)
 obtain ⟨c0,c1,_,_⟩:=qX b0
 have PF:=bc (fun e (he:e<v.length) (se:e % 2=0)=>gp cQ hf hw hm.ok e he se)
 have SIN:=bc (fun (y:World) (hy:Below W.heap.size W y) (k n:Nat) (hnk:n=k+1) (s0:St) (aH:k<v.length) (eT:k % 2=0) (nM:kB t b v k) (fY:kg t b v (k+1)=some s0) =>
  standIn_any F t b v k n hnk s0 _ _ _ _ y ((hg.below cK).below hy) ((hk.below cK fun _ h=>h).below hy fun _ h=>h) ((hb.below cK fun _ h=>h).below hy fun _ h=>h) ((hm.below cK).below hy) cQ hf hw aH eT nM fY)
 have HH:=bc (bm fT (bm fq (bm cK (bm hm.ok cQ))))
 have HW:=bc hW
 clear hm fT fq hz b0 cK hW hg hk hb cQ hf hw
 go_enter Tryz.func36,Tryz.ntmps36
 go_upto_region 1 with (fail)
 rw [HW.out]
 go_wp2_with fail
 go_loopw [7] (fun i wr=>∃ (wz:World) (k n:Nat),wz=wr/\n=k+1/\k % 2=0/\k<=v.length+1/\i=.int .i64 (n:Nat)/\kB t b v n/\Below W.heap.size W wz) (fun i _=>v.length+5-(intOf i).toNat)
 case atStart=>exact ⟨_,0,1,rfl,rfl,rfl,by omega,rfl,fun i hi h=>by omega,bi _ _⟩
 case round =>
  obtain ⟨wr,k,n,rfl,hnk,eT,aC,rfl,nM,hB⟩:=hrel
  have d0:=(hB.cell (be _ _ c0)).trans c0
  have d1:=(hB.cell (be _ _ c1)).trans c1
  clear c0 c1
  have HB:=bc (bm hB (zzT HH.out.2.2.1 hB))
  clear hB
  by_cases cZ:n<v.length
  ·have nF:(n:Int)<(v.length:Int):=by omega
   obtain ⟨x,p,z,dW,cH⟩:=kq HH.out.2.2.2.1 cZ
   obtain ⟨mb,mo,rfl,_,f_,fZ⟩:=HH.out.1 n _ dW
   obtain ⟨pb,po,rfl,_,mS,fk⟩:=HH.out.2.1 n _ dW
   obtain ⟨s,hand,fY,ct⟩:=PF.out k (by omega) eT (fun i hi h=>nM i (by omega) h)
   have CS:=bc (SIN.out wr HB.out.1 k n hnk s (by omega) eT (fun i hi h=>nM i (by omega) h) fY)
   have mj:jC t b v n=xp s:=by unfold jC;rw [hnk,fY];rfl
   have HQ:Hid ((yD s).1=x::p/\(yD s).2=z↔jC t b v n=v[n]?):=bc (by rw [mj,dW];exact tellV_eq.symm)
   have CT:=bc (fun (y:World) (xv lv:Value) (hr:yf (fun _=>True) y s xv lv)=>tells_any (fun _=>True) xv lv y ct HH.out.2.2.2.2 (by omega) hr)
   have KEY:=bc (fun (y:World) (hy:Below wr.heap.size wr y)=>(show y.cell? ⟨w.heap.size,0,none⟩=some (.slice (some ⟨mb,mo,none⟩) v.length mc)/\y.cell? ⟨w.heap.size,1,none⟩=some (.slice (some ⟨pb,po,none⟩) v.length pc)/\y.cell? ⟨mb,mo+n,none⟩=some (str (x::p))/\y.cell? ⟨pb,po+n,none⟩=some (.int .i64 z) from by
    have hk:∀ (a:Addr) (u:Value),wr.cell? a=some u->y.cell? a=some u:=fun a u h=>(hy.cell (be _ _ h)).trans h
    exact ⟨hk _ _ d0,hk _ _ d1,hk _ _ ((HB.out.2.cell (p:=⟨mb,mo+n,none⟩) f_).trans fZ),hk _ _ ((HB.out.2.cell (p:=⟨pb,po+n,none⟩) mS).trans fk)⟩))
   have HF:=bc (bm nM (bm hnk (bm eT (bm aC cZ))))
   obtain ⟨M,hM⟩:=zzM (x::p)
   obtain ⟨tm,htm⟩:=zzN ((yD s).1)
   obtain ⟨tz,htz⟩:=zzN ((yD s).2)
   rw [<- hM] at KEY HQ
   rw [htm,htz] at HQ CT
   clear dW cH f_ fZ mS fk fY ct mj nM hnk eT aC hM htm htz SIN PF
   go_wp2_with fail
   (with_reducible refine CS.out.mono ?_)
   rintro en w1 ⟨xv,lv,rfl,b9,cw⟩
   have CT1:=bc (CT.out w1 xv lv cw)
   clear CS CT cw
   go_wp2_with fail
   (with_reducible refine CT1.out.mono ?_)
   rintro en w2 ⟨rfl,b8⟩
   have fM:=zzT b9 b8
   obtain ⟨e0,e1,m0,p0⟩:=KEY.out w2 fM
   have c_:=bc (bm (zzT HB.out.1 fM) (zzT HB.out.2 fM))
   have oT:IntKind.i64.wrap ((n:Int)+2)=((n+2:Nat):Int):=by rw [uW _ (by omega) (by omega)];omega
   clear b9 b8 fM d0 d1 KEY CT1
   by_cases hm:tm=M
   ·have aP:(tm == M)=true:=by simp [hm]
    have hmm2:(tm != M)=false:=by simp [hm]
    by_cases hz:tz=z
    ·have oR:(tz != z)=false:=by simp [hz]
     have E:=bc (show kB t b v (n+2) from fun i hi h=>by
      have h1:=HF.out.2.1;have h2:=HF.out.2.2.1
      rcases Nat.lt_or_ge i n with h3 | h3
      ·exact HF.out.1 i h3 h
      ·obtain rfl:i=n:=by omega
       exact HQ.out.1 ⟨hm,hz⟩)
     have HE:=bc (show n+2=(n+1)+1/\(n+1) % 2=0/\n+1<=v.length+1 by
      have h1:=HF.out.2.1;have h2:=HF.out.2.2.1;have h3:=HF.out.2.2.2.2;omega)
     clear hm hz
     go_wp2_with fail
     go_roundw
     case rel=>exact ⟨_,n+1,n+2,rfl,rfl,HE.out.2.1,HE.out.2.2,rfl,E.out,c_.out.1⟩
     case measure=>simp [intOf];omega
    ·have oR:(tz != z)=true:=by simp [hz]
     have E:=bc (show decide (kB t b v v.length)=false by
      rw [decide_eq_false_iff_not]
      intro h
      have h1:=HF.out.2.1;have h2:=HF.out.2.2.1
      exact hz (HQ.out.2 (h n HF.out.2.2.2.2 (by omega))).2)
     clear hm hz
     go_wp2_with fail
     go_ret
     exact ⟨by rw [E.out];rfl,c_.out.2⟩
   ·have aP:(tm == M)=false:=by simp [hm]
    have hmm2:(tm != M)=true:=by simp [hm]
    have E:=bc (show decide (kB t b v v.length)=false by
     rw [decide_eq_false_iff_not]
     intro h
     have h1:=HF.out.2.1;have h2:=HF.out.2.2.1
     exact hm (HQ.out.2 (h n HF.out.2.2.2.2 (by omega))).1)
    clear hm
    go_wp2_with fail
    go_ret
    exact ⟨by rw [E.out];rfl,c_.out.2⟩
  ·have nF:¬ (n:Int)<(v.length:Int):=by omega
   have E:=bc (show decide (kB t b v v.length)=true from decide_eq_true fun i hi h=>nM i (by omega) h)
   clear nM hnk
   go_wp2_with fail
   go_ret
   exact ⟨by rw [E.out];rfl,HB.out.2⟩
def jY (s text:Bs) (ms:List Bs) (ps:List Int):Bool:=match zT s text with
 | none=>false
 | some b=>jq s ms ps && decide (kB (zQ s).1 b (ms.zip ps) (ms.zip ps).length)
theorem followOk_none {s text:Bs} (h:xS s text=none) (ms:List Bs) (ps:List Int):jY s text ms ps=false:=by
 rw [uw,Option.map_eq_none_iff] at h
 unfold jY;rw [h]
theorem followOk_some {s text:Bs} {t:Ty} {b:Bd} (h:xS s text=some (t,b)) (ms:List Bs) (ps:List Int):jY s text ms ps=(jq s ms ps && decide (kB t b (ms.zip ps) (ms.zip ps).length))/\t=(zQ s).1/\Good t b:=by
 rw [uw,Option.map_eq_some_iff] at h
 obtain ⟨b',h,e⟩:=h
 simp at e;obtain ⟨rfl,rfl⟩:=e
 refine ⟨?_,rfl,(qP h).1⟩
 unfold jY;rw [h]
theorem g8 {s:Bs} {ms:List Bs} {ps:List Int} (h:jq s ms ps=true):jM s ms ps=true:=by
 unfold jq at h;rw [Bool.and_eq_true] at h;exact h.1
set_option maxRecDepth 100000 in
theorem uS (F:Nat->Prop) (s text:Bs) (mv pt:Value) (ms:List Bs) (ps:List Int) (w:World) (hg:qF w) (hs:Lim s.length) (ht:Lim text.length) (hm:ve F w ms mv) (hp:vt F w ps pt) (hl:∀ x∈ms,Lim x.length) :
 Calls Tryz.prog 12 #[str s,str text,.agg #[mv,pt]] w fun en w'=>en=.returned (.bool (jY s text ms ps))/\Below w.heap.size w w':=by
 obtain ⟨ma,mc,rfl⟩:=hm.slice
 obtain ⟨pa,pc,rfl⟩:=hp.slice
 obtain ⟨W,hW,cK,hz,b0⟩:=qn w (.cells #[.slice ma ms.length mc,.slice pa ps.length pc] 33)
 have C:=bc (xg s text W (hg.below cK) hs ht)
 have CL:=bc (fun (y:World) (hy:Below W.heap.size W y)=>vr F s _ _ ms ps y hs ((hm.below cK fun _ h=>h).below hy fun _ h=>h) ((hp.below cK fun _ h=>h).below hy fun _ h=>h) hl)
 have HP:=bc (fun (y:World) (hy:Below W.heap.size W y) (h:jM s ms ps=true)=>(plIn_zip (hm.below cK fun _ h=>h) (hp.below cK fun _ h=>h) hl h).below hy)
 have HG:=bc (fun (y:World) (hy:Below W.heap.size W y)=>(hg.below cK).below hy)
 have HW:=bc (bm hW (bm cK b0))
 clear hW cK hz b0 hg hs ht hm hp hl
 go_enter Tryz.func12,Tryz.ntmps12
 go_upto_region 1 with (fail)
 rw [HW.out.1]
 go_wp2_with fail
 (with_reducible refine C.out.mono ?_)
 rintro en w1 ⟨kv,bv,rfl,b9,cT,dH⟩
 clear C
 obtain ⟨c0,c1,_,_⟩:=qX HW.out.2.2
 have d0:=(b9.cell (be _ _ c0)).trans c0
 have d1:=(b9.cell (be _ _ c1)).trans c1
 clear c0 c1
 have HB:=bc (bm b9 (zzT HW.out.2.1 b9))
 cases hq:xS s text with
 | none =>
   obtain rfl:=cT hq
   have E:=bc (followOk_none hq ms ps)
   clear cT dH hq b9
   go_wp2_with fail
   go_ret
   exact ⟨by rw [E.out];rfl,HB.out.2⟩
 | some tb =>
   obtain ⟨t,b⟩:=tb
   obtain ⟨rk,rb⟩:=dH t b hq
   obtain ⟨E,et,ik⟩:=followOk_some hq ms ps
   obtain ⟨ka,ks,rfl,_⟩:=zv rk
   obtain ⟨ba,rfl⟩:=kU rb
   have E:=bc E
   have HR:=bc (bm rk (bm rb (bm et ik)))
   have C1:=bc (CL.out w1 b9)
   clear cT dH hq b9 rk rb et ik CL
   cases oh:jq s ms ps with
   | false =>
     rw [oh] at E C1
     clear oh
     go_wp2_with fail
     (with_reducible refine C1.out.mono ?_)
     rintro en w2 ⟨rfl,b8⟩
     have c_:=bc (zzT HB.out.2 b8)
     clear b8 d0 d1
     go_wp2_with fail
     go_ret
     exact ⟨by rw [E.out];rfl,c_.out⟩
   | true =>
     rw [oh,Bool.true_and] at E
     rw [oh] at C1
     have ai:=bc (g8 oh)
     clear oh
     go_wp2_with fail
     (with_reducible refine C1.out.mono ?_)
     rintro en w2 ⟨rfl,b8⟩
     have fM:=zzT HB.out.1 b8
     have e0:=(b8.cell (be _ _ d0)).trans d0
     have e1:=(b8.cell (be _ _ d1)).trans d1
     have cI:=HP.out w2 fM ai.out
     rw [<- HR.out.2.2.1] at cI
     have C2:=bc (follows_any (fun _=>True) t b (ms.zip ps) (.pointer (some ⟨ka,0,none⟩)) (.pointer (some ⟨ba,0,none⟩)) _ _ w2 (HG.out w2 fM)
      ((Rep.below b8 fun _ _=>trivial) HR.out.1) ((Rep.below b8 fun _ _=>trivial) HR.out.2.1) ⟨(Rep.keep fun b o _ ho=>⟨trivial,ho⟩).1 _ _ cI.m,(Rep.keep fun b o _ ho=>⟨trivial,ho⟩).1 _ _ cI.p,cI.ok,cI.l⟩ HR.out.2.2.2.atoms HR.out.2.2.2.fit HR.out.2.2.2.wf)
     have c_:=bc (zzT HB.out.2 b8)
     obtain ⟨r,hr⟩:=zzN (decide (kB t b (ms.zip ps) (ms.zip ps).length))
     rw [hr] at C2 E
     clear b8 d0 d1 fM cI C1 HP HG hr
     go_wp2_with fail
     (with_reducible refine C2.out.mono ?_)
     rintro en w3 ⟨rfl,cP⟩
     have nV:=bc (zzT c_.out cP)
     clear cP
     go_wp2_with fail
     go_ret
     exact ⟨by rw [E.out];rfl,nV.out⟩
structure NumQ (B:Nat) (xs ys:List Nat) (u v:Value) (w:World):Prop where
 l:Rep (B<=·) w (numD xs) u
 r:Rep (B<=·) w (numD ys) v
theorem NumQ.below {B:Nat} {xs ys:List Nat} {u v:Value} {w w':World} (h:NumQ B xs ys u v w) (hb:Below w.heap.size w w'):NumQ B xs ys u v w':=⟨h.l.below hb (fun _ h=>h),h.r.below hb (fun _ h=>h)⟩
theorem NumQ.but {B:Nat} {xs ys:List Nat} {u v:Value} {w w':World} {g:Nat} (_:NumQ B xs ys u v w) (hb:But (fun i=>i=g) w w') (hn:Rep (fun i=>B<=i/\i≠g) w (numD xs) u/\Rep (fun i=>B<=i/\i≠g) w (numD ys) v):NumQ B xs ys u v w' :=
 ⟨(Rep.keep fun i o hi ho=>⟨hi.1,by rw [hb.block i (zZ ho) hi.2];exact ho⟩).1 _ _ hn.1,(Rep.keep fun i o hi ho=>⟨hi.1,by rw [hb.block i (zZ ho) hi.2];exact ho⟩).1 _ _ hn.2⟩

section
variable {P:Program} {ops:Array Oper} {Q:Exit->Act->World->Prop} {md:Region.Mode} {S:World->Prop} {T:Nat->Bool}
end
structure Kv (va:Nat) (vw:Value) (w:World) (vw':Value) (w':World):Prop where
 but:But (Mv va vw) w w'
 row:∀ g,vw'.ownBlock=some g->vw.ownBlock=some g\/w.heap.size<=g
theorem Kv.obj {va:Nat} {vw vw':Value} {w w':World} (h:Kv va vw w vw' w') {b:Nat} {o:Obj} (hF:Fv va vw b) (ho:w.heap[b]? = some o):Fv va vw' b/\w'.heap[b]? = some o :=
 ⟨⟨hF.1,fun e=>by
   rcases h.row b e with h1 | h1
   ·exact hF.2 h1
   ·have:=zZ ho;omega⟩,by rw [h.but.block b (zZ ho) (fun e=>e.elim hF.1 hF.2)];exact ho⟩
theorem Kv.rep {va:Nat} {vw vw':Value} {w w':World} (h:Kv va vw w vw' w') {d:DV} {x:Value} (hr:Rep (Fv va vw) w d x):Rep (Fv va vw') w' d x:=Fv.keep h.but h.row hr
theorem Kv.trans {va:Nat} {vw vw' vw'':Value} {w w' w'':World} (h:Kv va vw w vw' w') (k:Kv va vw' w' vw'' w''):Kv va vw w vw'' w'' :=
 ⟨h.but.trans' k.but (fun i hi hm=>hm.imp id (fun e=>(h.row i e).resolve_right (by omega))),fun g hg=>(k.row g hg).elim (fun e=>h.row g e) (fun e=>.inr (b7 h.but.size e))⟩
theorem Kv.below {va:Nat} {vw:Value} {w w':World} (hb:Below w.heap.size w w'):Kv va vw w vw w':=⟨But.ofBelow hb,fun _ hg=>.inl hg⟩
structure AskV (t:Ty) (l:Nat) (ss:List Bd) (y n:Bd) (lv:List zj) (bg:zj) (asked:Pl) (kv bv lsl mv pt:Value) (B0 B1:Nat) (va:Nat) (vw:Value) (w:World):Prop where
 g:qF w
 ng:∀ g,Mv va vw g->p_ g
 rk:Rep (Fv va vw) w (jS t) kv
 rb:Rep (Fv va vw) w (kp (.ask l ss y n)) bv
 rl:jG (Fv va vw) w lv lsl
 rm:vK (Fv va vw) w asked mv
 rp:j_ (Fv va vw) w asked pt
 f0:Fv va vw B0
 b0:w.heap[B0]? = some (.cells #[bv,lsl,.int .i64 (bg.1:Nat),str bg.2] 117 (0,0))
 f1:Fv va vw B1
 b1:w.heap[B1]? = some (.cells #[mv,pt] 33 (0,0))
theorem AskV.keep {t:Ty} {l:Nat} {ss:List Bd} {y n:Bd} {lv:List zj} {bg:zj} {asked:Pl} {kv bv lsl mv pt:Value} {B0 B1:Nat} {va:Nat} {vw vw':Value} {w w':World}
 (h:AskV t l ss y n lv bg asked kv bv lsl mv pt B0 B1 va vw w) (k:Kv va vw w vw' w'):AskV t l ss y n lv bg asked kv bv lsl mv pt B0 B1 va vw' w' :=
 ⟨h.g.but k.but h.ng,fun g hg=>hg.elim (fun e=>h.ng g (.inl e)) (fun e=>(k.row g e).elim (fun e=>h.ng g (.inr e)) (fun e=>h.g.new e)),k.rep h.rk,k.rep h.rb,k.rep h.rl,k.rep h.rm,k.rep h.rp,
  (k.obj h.f0 h.b0).1,(k.obj h.f0 h.b0).2,(k.obj h.f1 h.b1).1,(k.obj h.f1 h.b1).2⟩
structure Ko (vw:Value) (w:World) (vw':Value) (w':World):Prop where
 but:But (fun i=>vw.ownBlock=some i) w w'
 row:∀ g,vw'.ownBlock=some g->vw.ownBlock=some g\/w.heap.size<=g
abbrev Fo (vw:Value) (i:Nat):Prop:=¬ vw.ownBlock=some i
theorem Ko.obj {vw vw':Value} {w w':World} (h:Ko vw w vw' w') {b:Nat} {o:Obj} (hF:Fo vw b) (ho:w.heap[b]? = some o):Fo vw' b/\w'.heap[b]? = some o :=
 ⟨fun e=>by
  rcases h.row b e with h1 | h1
  ·exact hF h1
  ·have:=zZ ho;omega,by rw [h.but.block b (zZ ho) hF];exact ho⟩
theorem Ko.rep {vw vw':Value} {w w':World} (h:Ko vw w vw' w') {d:DV} {x:Value} (hr:Rep (Fo vw) w d x):Rep (Fo vw') w' d x:=(Rep.keep fun _ _ hF ho=>h.obj hF ho).1 _ _ hr
theorem Ko.reps {vw vw':Value} {w w':World} (h:Ko vw w vw' w') {d:List DV} {x:List Value} (hr:zG (Fo vw) w d x):zG (Fo vw') w' d x:=(Rep.keep fun _ _ hF ho=>h.obj hF ho).2 _ _ hr
theorem Ko.trans {vw vw' vw'':Value} {w w' w'':World} (h:Ko vw w vw' w') (k:Ko vw' w' vw'' w''):Ko vw w vw'' w'' :=
 ⟨h.but.trans' k.but (fun i hi hm=>(h.row i hm).resolve_right (by omega)),fun g hg=>(k.row g hg).elim (fun e=>h.row g e) (fun e=>.inr (b7 h.but.size e))⟩
theorem Ko.below {vw:Value} {w w':World} (hb:Below w.heap.size w w'):Ko vw w vw w':=⟨But.ofBelow hb,fun _ hg=>.inl hg⟩
theorem SpAt.ko {vw vw':Value} {w w':World} (h:Ko vw w vw' w') {b:Bd} {lv:List zj} {bg:zj} {v:Pl} {vs:List Value} (hr:SpAt (Fo vw) w b lv bg v vs):SpAt (Fo vw') w' b lv bg v vs:=by
 obtain ⟨begun,args,opens,h1,h2⟩:=hr
 exact ⟨begun,args,opens,h1,h.reps h2⟩
theorem SpAt.below {F:Nat->Prop} {w w':World} (hb:Below w.heap.size w w') {b:Bd} {lv:List zj} {bg:zj} {v:Pl} {vs:List Value} (hr:SpAt F w b lv bg v vs):SpAt F w' b lv bg v vs:=by
 obtain ⟨begun,args,opens,h1,h2⟩:=hr
 exact ⟨begun,args,opens,h1,h2.below hb (fun _ h=>h)⟩
def TvOut (o:Option (List Pl)) (vw:Value) (us:List (Value×Value)) (L:List Pl) (w:World) (en:Ending) (w':World):Prop :=
 ∃ a n c,en=.returned (.tuple #[.slice a n c,.bool o.isSome])/\But (fun i=>vw.ownBlock=some i) w w'/\∀ out,o=some out->∃ us',ym w' (L++out) (.slice a n c) (us++us')/\(∀ g,(Value.slice a n c).ownBlock=some g->vw.ownBlock=some g\/w.heap.size<=g)/\∀ u∈us',∀ g,u.1.ownBlock=some g\/u.2.ownBlock=some g->w.heap.size<=g
theorem TvOut.no {t:Ty} {b:Bd} {lv:List zj} {bg:zj} {v:Pl} {vw:Value} {us:List (Value×Value)} {L:List Pl} {w w':World} {a:Option Addr} {n c:Nat} (hb:But (fun i=>vw.ownBlock=some i) w w') (e:vR t b lv bg v=none) :
 TvOut (vR t b lv bg v) vw us L w (.returned (.tuple #[.slice a n c,.bool false])) w':=by
 rw [e]
 exact ⟨a,n,c,rfl,hb,fun out h=>by simp at h⟩
theorem pls_add {w W:World} {vw:Value} {us:List (Value×Value)} {L:List Pl} {l:Pl} {mv pt:Value} (hp:ym w L vw us) (hB:Below w.heap.size w W) (hl:za W l mv pt) (hn:∀ g,mv.ownBlock=some g\/pt.ownBlock=some g->w.heap.size<=g)
 {v':Value} {w5:World} (oy:Own w5 33 2 v' (us.length+1) (plC us++[mv,pt])) (cF:But (fun b=>vw.ownBlock=some b) W w5):ym w5 (L++[l]) v' (us++[(mv,pt)]):=by
 have ou:ym W L vw us:=jw.below hp hB
 have lM:(plX l).1.length=l.length:=by simp [plX,jk]
 have lP:(plX l).2.length=l.length:=by simp [plX,jU]
 unfold ym
 rw [List.map_append,List.map_singleton]
 exact jw.snoc (u:=(mv,pt)) (x:=plX l) ou oy cF (by rw [lM];exact hl.1) (by rw [lP];exact hl.2) (fun g hg hP=>by
  have h1:=hn g hg
  have h2:=hp.lt hP
  omega)

theorem take_at (v:Pl) {n i:Nat} (h:i<n):(v.take n)[i]? = v[i]?:=by rw [List.getElem?_take,if_pos h]
theorem okAt_take (t:Ty) (v:Pl) {n i:Nat} (h:i<n):vV t (v.take n) i=vV t v i:=by
 unfold vV
 rw [take_at v h]
 cases hv:v[i]? with
 | none=>rfl
 | some x =>
   simp only
   by_cases hi:i=0
   ·rw [if_pos hi,if_pos hi]
   ·rw [if_neg hi,if_neg hi]
    by_cases hz:0<=x.2/\x.2<(i:Int)
    ·rw [take_at v (show x.2.toNat<n by omega)]
    ·have:(decide (0<=x.2) && decide (x.2<(i:Int)))=false:=by
      rw [Bool.and_eq_false_iff,decide_eq_false_iff_not,decide_eq_false_iff_not]
      by_cases h0:0<=x.2
      ·exact .inr fun h1=>hz ⟨h0,h1⟩
      ·exact .inl h0
     rw [this,Bool.false_and,Bool.false_and,Bool.false_and]
theorem bL (t:Ty) (v:Pl) {n:Nat}:∀ m,m<=n->qp t (v.take n) m=qp t v m
 | 0,_=>rfl
 | m+1,h=>by rw [qp,qp,bL t v m (by omega),okAt_take t v (by omega)]
theorem bI {t:Ty} {v:Pl}:∀ {m:Nat},(∀ i,i<m->vV t v i=true)->qp t v m=true
 | 0,_=>rfl
 | m+1,h=>by rw [qp,bI (fun i hi=>h i (by omega)),h m (by omega)];rfl
theorem valid_take {t:Ty} {v:Pl} (h:zR t v=true) (n:Nat):zR t (v.take n)=true:=by
 have fd:=qc h
 unfold zR at h ⊢
 rw [Bool.and_eq_true] at h ⊢
 refine ⟨by rw [decide_eq_true_eq,List.length_take];omega,?_⟩
 rw [bL t v _ (by rw [List.length_take];omega)]
 exact bI fun i hi=>wN h.2 (by rw [List.length_take] at hi;omega)
theorem pE {t:Ty} {v:Pl} (h:zR t v=true) (b:Bd) {n:Nat}:∀ f m,m<=n->m<=v.length->vJ t b (v.take n) f m=vJ t b v f m
 | 0,_,_,_=>rfl
 | f+1,m,hm,hl=>by
   rw [vJ,vJ]
   by_cases h1:m<=1
   ·rw [if_pos h1,if_pos h1]
   ·rw [if_neg h1,if_neg h1,take_at v (show m-1<n by omega)]
    obtain ⟨c,p,z,hv,ho⟩:=kq h (show m-1<v.length by omega)
    rw [hv]
    have:=(ho.pos (by omega)).2.1
    simp only
    rw [pE h b f z.toNat (by omega) (by omega)]
theorem xl {t:Ty} {v:Pl} (h:zR t v=true) (b:Bd) {n m:Nat} (hm:m<=n) (hl:m<=v.length):kg t b (v.take n) m=kg t b v m:=pE h b _ m hm hl
theorem p9.take {F:Nat->Prop} {t:Ty} {v:Pl} {mv pt:Value} {w:World} (h:p9 F t v mv pt w) {n:Nat} {mv' pt':Value} (hm:vK F w (v.take n) mv') (hp:j_ F w (v.take n) pt'):p9 F t (v.take n) mv' pt' w :=
 ⟨hm,hp,valid_take h.ok n,fun x hx=>h.l x (List.mem_of_mem_take hx)⟩
def qAt (v:Pl) (i:Nat):Prop:=∃ m z,v[i]? = some (m,z)/\isQ m=true
def p8 (v:Pl) (k:Nat) (ans:List Int) (q:Nat):Prop:=(q:Int)∈ans\/∃ j m,q<j/\j<k/\v[j]? = some (m,(q:Int))/\isQ m=false
structure yr (v:Pl) (k:Nat) (ans:List Int) (z:Nat):Prop where
 lt:z<k
 q:qAt v z
 free:¬ p8 v k ans z
 all:∀ i,z<i->i<k->qAt v i->p8 v k ans i
theorem gZ (v:Pl):∀ (k:Nat) (ans:List Int),k<=v.length->(∃ z:Nat,qG v k ans=(z:Int)/\yr v k ans z)\/(qG v k ans = -1/\∀ i,i<k->qAt v i->p8 v k ans i)
 | 0,ans,_=>.inr ⟨rfl,fun i hi=>absurd hi (by omega)⟩
 | k+1,ans,hk=>by
   have hv:v[k]? = some v[k]:=List.getElem?_eq_getElem (by omega)
   obtain ⟨m,y⟩:Bs×Int:=v[k]
   obtain ⟨m,y,hv⟩:∃ m y,v[k]? = some (m,y):=⟨_,_,hv⟩
   cases hq:isQ m with
   | true =>
     have dA:∀ i,p8 v k ans i->p8 v (k+1) ans i:=fun i h=>h.imp id fun ⟨j,m',h1,h2,h3⟩=>⟨j,m',h1,by omega,h3⟩
     have n8:∀ i,p8 v (k+1) ans i->p8 v k ans i:=fun i h=>h.imp id fun ⟨j,m',h1,h2,h3,h4⟩=>⟨j,m',h1,by
      rcases Nat.lt_or_ge j k with h | h
      ·exact h
      ·obtain rfl:j=k:=by omega
       rw [hv] at h3
       simp only [Option.some.injEq,Prod.mk.injEq] at h3
       rw [<- h3.1,hq] at h4;simp at h4,h3,h4⟩
     rw [xo hv,hq,if_pos rfl]
     by_cases hc:ans.contains (k:Int)=true
     ·rw [if_pos hc]
      have r9:(k:Int)∈ans:=by simpa using hc
      rcases gZ v k ans (by omega) with ⟨z,h1,h2⟩ | ⟨h1,h2⟩
      ·refine .inl ⟨z,h1,by have:=h2.lt;omega,h2.q,fun h=>h2.free (n8 _ h),fun i hi sh rG=>?_⟩
       rcases Nat.lt_or_ge i k with h | h
       ·exact dA _ (h2.all i hi h rG)
       ·obtain rfl:i=k:=by omega
        exact .inl r9
      ·refine .inr ⟨h1,fun i hi rG=>?_⟩
       rcases Nat.lt_or_ge i k with h | h
       ·exact dA _ (h2 i h rG)
       ·obtain rfl:i=k:=by omega
        exact .inl r9
     ·rw [if_neg hc]
      refine .inl ⟨k,rfl,by omega,⟨m,y,hv,hq⟩,fun h=>?_,fun i hi sh=>absurd sh (by omega)⟩
      rcases h with h | ⟨j,_,h1,h2,_⟩
      ·exact hc (by simpa using h)
      ·omega
   | false =>
     rw [xo hv,hq,if_neg (by simp)]
     have hto:∀ i,i<k->(p8 v k (ans++[y]) i↔p8 v (k+1) ans i):=fun i hi=>by
      unfold p8
      constructor
      ·rintro (h | ⟨j,m',h1,h2,h3,h4⟩)
       ·rw [List.mem_append,List.mem_singleton] at h
        rcases h with h | h
        ·exact .inl h
        ·exact .inr ⟨k,m,hi,by omega,by rw [hv,h],hq⟩
       ·exact .inr ⟨j,m',h1,by omega,h3,h4⟩
      ·rintro (h | ⟨j,m',h1,h2,h3,h4⟩)
       ·exact .inl (List.mem_append_left _ h)
       ·rcases Nat.lt_or_ge j k with h | h
        ·exact .inr ⟨j,m',h1,h,h3,h4⟩
        ·obtain rfl:j=k:=by omega
         rw [hv] at h3
         simp only [Option.some.injEq,Prod.mk.injEq] at h3
         exact .inl (List.mem_append_right _ (by rw [List.mem_singleton];exact h3.2.symm))
     have A_:¬ qAt v k:=fun ⟨m',y',h1,h2⟩=>by
      rw [hv] at h1
      simp only [Option.some.injEq,Prod.mk.injEq] at h1
      rw [<- h1.1,hq] at h2;simp at h2
     rcases gZ v k (ans++[y]) (by omega) with ⟨z,h1,h2⟩ | ⟨h1,h2⟩
     ·refine .inl ⟨z,h1,by have:=h2.lt;omega,h2.q,fun h=>h2.free ((hto z h2.lt).2 h),fun i hi sh rG=>?_⟩
      rcases Nat.lt_or_ge i k with h | h
      ·exact (hto i h).1 (h2.all i hi h rG)
      ·obtain rfl:i=k:=by omega
       exact absurd rG A_
     ·refine .inr ⟨h1,fun i hi rG=>?_⟩
      rcases Nat.lt_or_ge i k with h | h
      ·exact (hto i h).1 (h2 i h rG)
      ·obtain rfl:i=k:=by omega
       exact absurd rG A_
theorem yr.eq {v:Pl} {k z:Nat} {ans:List Int} (hk:k<=v.length) (h:yr v k ans z):qG v k ans=(z:Int):=by
 rcases gZ v k ans hk with ⟨y,h1,h2⟩ | ⟨_,h2⟩
 ·rw [h1]
  rcases Nat.lt_trichotomy y z with h3 | h3 | h3
  ·exact absurd (h2.all z h3 h.lt h.q) h.free
  ·rw [h3]
  ·exact absurd (h.all y h3 h2.lt h2.q) h2.free
 ·exact absurd (h2 z h.lt h.q) h.free
theorem pend_of {v:Pl} {k z:Nat} {ans:List Int} (hk:k<=v.length) (h:qG v k ans=(z:Int)):yr v k ans z:=by
 rcases gZ v k ans hk with ⟨y,h1,h2⟩ | ⟨h1,_⟩
 ·rw [h1] at h
  obtain rfl:y=z:=by omega
  exact h2
 ·rw [h1] at h;omega
def brTo (v:Pl) (n:Nat):Prop:=∀ i m z,i<n->v[i]? = some (m,z)->isQ m=false->z=qG v i []
theorem brP_to {v:Pl} (h:vz v=true):brTo v v.length:=fun i m z hi hv hq=>by
 unfold vz brP at h
 rw [Bool.and_eq_true] at h
 have h1:=xZ h.2 hi
 rw [brAt_at hv,hq,Bool.false_or] at h1
 simpa using h1
theorem pend_back {v:Pl} {k z g:Nat} {m mq:Bs} {y:Int} (hk:k<v.length) (hb:brTo v v.length) (hv:v[k]? = some (m,(z:Int))) (hq:isQ m=false) (hz:v[z]? = some (mq,y)) (hzq:isQ mq=true) (cZ:z<k) (hg:qG v z []=(g:Int)):qG v (k+1) []=(g:Int):=by
 have hP:yr v k [] z:=pend_of (by omega) (hb k m _ hk hv hq).symm
 have hG:yr v z [] g:=pend_of (by omega) hg
 have hgz:=hG.lt
 have dA:∀ a c i,a<=c->p8 v a [] i->p8 v c [] i:=fun a c i hac h=>h.imp id fun ⟨j,m',h1,h2,h3⟩=>⟨j,m',h1,by omega,h3⟩
 refine yr.eq (by omega) ⟨by omega,hG.q,fun h=>?_,fun i hi sh rG=>?_⟩
 ·rcases h with h | ⟨j,m',h1,h2,h3,h4⟩
  ·simp at h
  ·rcases Nat.lt_trichotomy j z with hj | hj | hj
   ·exact hG.free (.inr ⟨j,m',h1,hj,h3,h4⟩)
   ·subst hj
    rw [hz] at h3
    simp only [Option.some.injEq,Prod.mk.injEq] at h3
    rw [<- h3.1,hzq] at h4;simp at h4
   ·rcases Nat.lt_or_ge j k with hjk | hjk
    ·have h5:yr v j [] g:=pend_of (by omega) (hb j m' _ (by omega) h3 h4).symm
     have h6:=h5.all z hgz hj ⟨mq,y,hz,hzq⟩
     exact hP.free (dA j k z (by omega) h6)
    ·obtain rfl:j=k:=by omega
     rw [hv] at h3
     simp only [Option.some.injEq,Prod.mk.injEq] at h3
     have:=h3.2;omega
 ·rcases Nat.lt_trichotomy i z with h | h | h
  ·exact dA z (k+1) i (by omega) (hG.all i hi h rG)
  ·subst h
   exact .inr ⟨k,m,cZ,by omega,hv,hq⟩
  ·rcases Nat.lt_or_ge i k with hik | hik
   ·exact dA k (k+1) i (by omega) (hP.all i h hik rG)
   ·obtain rfl:i=k:=by omega
    obtain ⟨m',y',h1,h2⟩:=rG
    rw [hv] at h1
    simp only [Option.some.injEq,Prod.mk.injEq] at h1
    rw [<- h1.1,hq] at h2;simp at h2
theorem jB {v:Pl} {x:Bs×Int} {i:Nat} (h:i<v.length):(v++[x])[i]? = v[i]?:=List.getElem?_append_left h
theorem gT (v:Pl) (x:Bs×Int):(v++[x])[v.length]? = some x:=by rw [List.getElem?_append_right (br _),Nat.sub_self];rfl
theorem gB {t:Ty} {v:Pl} (hv:zR t v=true) (x:Bs×Int) (o:Bool):∀ f n,n<=v.length->jJ (v++[x]) o f n=jJ v o f n
 | 0,_,_=>by rw [jJ,jJ]
 | f+1,0,_=>by rw [jg,jg]
 | f+1,n+1,hn=>by
   have e:qq (v++[x]) o n=qq v o n:=by unfold qq;rw [jB (by omega)]
   have h1:=backTo_le hv o (n:=n) (by omega)
   rw [kT,kT,e,gB hv x o f _ (by omega)]
theorem jp {t:Ty} {v:Pl} (hv:zR t v=true) (x:Bs×Int) (o:Bool) {n:Nat} (hn:n<=v.length):kG (v++[x]) o n=kG v o n:=by
 unfold kG;rw [gB hv x o n n hn]
theorem jR (v:Pl) (x:Bs×Int):∀ (n:Nat) (ans:List Int),n<=v.length->qG (v++[x]) n ans=qG v n ans
 | 0,_,_=>rfl
 | n+1,ans,h=>by
   rw [qG,qG,jB (show n<v.length by omega),jR v x n ans (by omega)]
   cases v[n]? with
   | none=>rfl
   | some y=>simp only [jR v x n _ (by omega)]
theorem okAt_snoc (t:Ty) (v:Pl) (x:Bs×Int) {i:Nat} (h:i<v.length):vV t (v++[x]) i=vV t v i:=by
 have:=okAt_take t (v++[x]) h
 rw [List.take_left' rfl] at this
 exact this.symm
theorem valid_snoc {t:Ty} {v:Pl} (hv:zR t v=true) (x:Bs×Int):zR t (v++[x])=(decide (v.length<60) && vV t (v++[x]) v.length):=by
 unfold zR at hv
 rw [Bool.and_eq_true] at hv
 have h1:qp t (v++[x]) v.length=true:=bI fun i hi=>by rw [okAt_snoc t v x hi];exact wN hv.2 hi
 unfold zR
 rw [List.length_append,List.length_singleton,qp,h1,Bool.true_and]
 congr 1
theorem visAt_snoc {t:Ty} {v:Pl} (hv:zR t v=true) (x:Bs×Int) {i:Nat} (h:i<v.length):yB (v++[x]) i=yB v i:=by
 unfold yB
 rw [jB h]
 cases v[i]? with
 | none=>rfl
 | some y=>simp only [jp hv x _ (Nat.le_of_lt h)]
theorem brAt_snoc (v:Pl) (x:Bs×Int) {i:Nat} (h:i<v.length):p7 (v++[x]) i=p7 v i:=by
 unfold p7
 rw [jB h]
 cases v[i]? with
 | none=>rfl
 | some y=>simp only [jR v x i _ (Nat.le_of_lt h)]
theorem legal_snoc {t:Ty} {v:Pl} (hv:zR t v=true) (hl:vz v=true) (x:Bs×Int):vz (v++[x])=(yB (v++[x]) v.length && p7 (v++[x]) v.length):=by
 unfold vz visP brP at hl ⊢
 rw [Bool.and_eq_true] at hl
 have h1:vu (yB (v++[x])) v.length=true:=gU fun i hi=>by rw [visAt_snoc hv x hi];exact xZ hl.1 hi
 have h2:vu (p7 (v++[x])) v.length=true:=gU fun i hi=>by rw [brAt_snoc v x hi];exact xZ hl.2 hi
 rw [List.length_append,List.length_singleton,vu,vu,h1,h2,Bool.true_and,Bool.true_and]
structure InPl (t:Ty) (b:Bd) (v:Pl):Prop where
 ok:zR t v=true
 lg:vz v=true
 fo:kB t b v v.length
theorem follows_snoc {t:Ty} {b:Bd} {v:Pl} {x:Bs×Int} (hv:zR t (v++[x])=true) (n:Nat) (hn:n<=v.length) (hf:kB t b v n):kB t b (v++[x]) n:=fun i hi ho=>by
 have h1:=xl hv b (n:=v.length) (m:=i) (by omega) (by rw [List.length_append];omega)
 rw [List.take_left' rfl] at h1
 unfold jC
 rw [<- h1,jB (by omega)]
 exact hf i hi ho



def PlQ (o:Option Pl) (w:World) (en:Ending) (w':World):Prop :=
 ∃ a1 c1 a2 c2,en=.returned (.tuple #[.agg #[.slice a1 (o.getD []).length c1,.slice a2 (o.getD []).length c2],.bool o.isSome])/\Below w.heap.size w w'/\za w' (o.getD []) (.slice a1 (o.getD []).length c1) (.slice a2 (o.getD []).length c2) /\
   ∀ g,(Value.slice a1 (o.getD []).length c1).ownBlock=some g\/(Value.slice a2 (o.getD []).length c2).ownBlock=some g->w.heap.size<=g
theorem PlQ.none {w w':World} (hb:Below w.heap.size w w'):PlQ none w (.returned (.tuple #[.agg #[.slice .none 0 0,.slice .none 0 0],.bool false])) w' :=
 ⟨_,_,_,_,rfl,hb,ud _,fun g h=>by simp [Value.ownBlock] at h⟩

structure NxR (B:Nat) (L:List Pl) (a:Option Addr) (n c:Nat) (us:List (Value×Value)) (wz:World):Prop where
 len:L.length=n
 pls:ym wz L (.slice a n c) us
 new:∀ g,PlB (.slice a n c) us g->B<=g
theorem NxR.below {B:Nat} {L:List Pl} {a:Option Addr} {n c:Nat} {us:List (Value×Value)} {w w':World} (h:NxR B L a n c us w) (hb:Below w.heap.size w w'):NxR B L a n c us w':=⟨h.len,jw.below h.pls hb,h.new⟩
theorem NxR.mono {B B':Nat} {L:List Pl} {a:Option Addr} {n c:Nat} {us:List (Value×Value)} {w:World} (h:NxR B L a n c us w) (hb:B'<=B):NxR B' L a n c us w:=⟨h.len,h.pls,fun g hg=>b7 hb (h.new g hg)⟩
theorem NxR.nil (B:Nat) (w:World):NxR B [] none 0 0 [] w:=⟨rfl,jw.nil w,fun g h=>by
 rcases h with h | ⟨u,hu,_⟩
 ·simp [Value.ownBlock] at h
 ·simp at hu⟩
theorem NxR.add {B:Nat} {L:List Pl} {a:Option Addr} {n c:Nat} {us:List (Value×Value)} {w W:World} {l:Pl} {mv pt:Value} (h:NxR B L a n c us w) (hB:Below w.heap.size w W) (hBB:B<=w.heap.size) (hl:za W l mv pt) (hn:∀ g,mv.ownBlock=some g\/pt.ownBlock=some g->w.heap.size<=g)
 {a':Option Addr} {c':Nat} {w5:World} (oy:Own w5 33 2 (.slice a' (n+1) c') (n+1) (plC us++[mv,pt])) (cF:But (fun b=>(Value.slice a n c).ownBlock=some b) W w5) (hg5:∀ g,(Value.slice a' (n+1) c').ownBlock=some g->(Value.slice a n c).ownBlock=some g\/g=W.heap.size) :
 NxR B (L++[l]) a' (n+1) c' (us++[(mv,pt)]) w5:=by
 have hul:us.length=n:=by rw [h.pls.length,h.len]
 have h1:=pls_add (v':=.slice a' (n+1) c') h.pls hB hl hn (by rw [hul];exact oy) cF
 refine ⟨by rw [List.length_append,h.len];rfl,h1,fun g hg=>?_⟩
 rcases hg with hg | ⟨u,hu,hg⟩
 ·rcases hg5 g hg with hg | hg
  ·exact h.new g (.inl hg)
  ·have:=hB.size;omega
 ·rcases List.mem_append.1 hu with hu | hu
  ·exact h.new g (.inr ⟨u,hu,hg⟩)
  ·rw [List.mem_singleton] at hu
   subst hu
   have:=hn g hg;omega
theorem NxR.own {B:Nat} {L:List Pl} {a:Option Addr} {n c:Nat} {us:List (Value×Value)} {w:World} (h:NxR B L a n c us w):Own w 33 2 (.slice a n c) n (plC us):=by
 have hul:us.length=n:=by rw [h.pls.length,h.len]
 have:=h.pls.own
 rwa [hul] at this
structure RdR (B:Nat) (L:List Pl) (a:Option Addr) (n c:Nat) (us:List (Value×Value)) (wz:World):Prop where
 len:L.length=n
 ul:us.length=n
 own:Own wz 33 2 (.slice a n c) n (plC us)
 each:∀ (i:Nat) (u:Value×Value) (l:Pl),us[i]? = some u->L[i]? = some l->za wz l u.1 u.2
 new:∀ g,PlB (.slice a n c) us g->B<=g
theorem NxR.rd {B:Nat} {L:List Pl} {a:Option Addr} {n c:Nat} {us:List (Value×Value)} {w:World} (h:NxR B L a n c us w):RdR B L a n c us w :=
 ⟨h.len,by rw [h.pls.length,h.len],h.own,fun i u l hu hl=>h.pls.play hu hl,h.new⟩
theorem RdR.below {B:Nat} {L:List Pl} {a:Option Addr} {n c:Nat} {us:List (Value×Value)} {w w':World} (h:RdR B L a n c us w) (hb:Below w.heap.size w w'):RdR B L a n c us w' :=
 ⟨h.len,h.ul,h.own.keep fun g o _ ho=>by rw [hb.block g (zZ ho)];exact ho,fun i u l hu hl=>(h.each i u l hu hl).below hb,h.new⟩
theorem RdR.mono {B B':Nat} {L:List Pl} {a:Option Addr} {n c:Nat} {us:List (Value×Value)} {w:World} (h:RdR B L a n c us w) (hb:B'<=B):RdR B' L a n c us w:=⟨h.len,h.ul,h.own,h.each,fun g hg=>b7 hb (h.new g hg)⟩
theorem za.offRow {w w':World} {l:Pl} {mv pt v:Value} {n:Nat} {xs:List Value} (h:za w l mv pt) (ho:Own w 33 2 v n xs) (hb:But (fun b=>v.ownBlock=some b) w w'):za w' l mv pt :=
 h.but hb fun g hg e=>hg.elim (fun hg=>h.1.unlikeG ho yE hg e) fun hg=>h.2.unlikeG ho wJ hg e
theorem RdR.off {B:Nat} {L:List Pl} {a:Option Addr} {n c:Nat} {us:List (Value×Value)} {w w':World} (h:RdR B L a n c us w) {v:Value} {m:Nat} {xs:List Value} (ho:Own w 33 2 v m xs) (hb:But (fun b=>v.ownBlock=some b) w w') (hn:∀ g,(Value.slice a n c).ownBlock=some g->v.ownBlock≠some g):RdR B L a n c us w' :=
 ⟨h.len,h.ul,h.own.keep fun g o hg hh=>by rw [hb.block g (zZ hh) (hn g hg)];exact hh,fun i u l hu hl=>(h.each i u l hu hl).offRow ho hb,h.new⟩
theorem RdR.cells {B:Nat} {L:List Pl} {a:Option Addr} {n c:Nat} {us:List (Value×Value)} {w:World} (h:RdR B L a n c us w) {i:Nat} {u:Value×Value} (hu:us[i]? = some u):∃ g,a=some ⟨g,0,none⟩/\w.cell? ⟨g,i*2,none⟩=some u.1/\w.cell? ⟨g,i*2+1,none⟩=some u.2:=by
 obtain ⟨h1,h2⟩:=plC_at us i u hu
 obtain ⟨g,c',e,k1⟩:=h.own.at h1
 obtain ⟨g',c'',e',k2⟩:=h.own.at h2
 simp only [Value.slice.injEq,true_and] at e e'
 obtain ⟨rfl,_⟩:=e
 obtain ⟨e',_⟩:=e'
 simp only [Option.some.injEq,Addr.mk.injEq,and_true] at e'
 obtain rfl:=e'
 exact ⟨g,rfl,k1,k2⟩
theorem RdR.at {B:Nat} {L:List Pl} {a:Option Addr} {n c:Nat} {us:List (Value×Value)} {w:World} (h:RdR B L a n c us w) {i:Nat} (hi:i<n):∃ u l,us[i]? = some u/\L[i]? = some l/\za w l u.1 u.2:=by
 have h1:us[i]? = some (us[i]'(by rw [h.ul];exact hi)):=List.getElem?_eq_getElem _
 have h2:L[i]? = some (L[i]'(by rw [h.len];exact hi)):=List.getElem?_eq_getElem _
 exact ⟨_,_,h1,h2,h.each i _ _ h1 h2⟩
theorem RdR.one {B:Nat} {L:List Pl} {a:Option Addr} {n c:Nat} {us:List (Value×Value)} {w:World} (h:RdR B L a n c us w):∀ x∈plC us,x.oneCell'=true:=by
 intro x hx
 unfold plC at hx
 rw [List.mem_flatMap] at hx
 obtain ⟨u,hu,hx⟩:=hx
 obtain ⟨i,hi⟩:=List.mem_iff_getElem?.1 hu
 have hl:=(List.getElem?_eq_some_iff.1 hi).1
 have hL:L[i]? = some (L[i]'(by rw [h.len,<- h.ul];exact hl)):=List.getElem?_eq_getElem _
 have hp:=h.each i u _ hi hL
 obtain ⟨a1,c1,e1⟩:=hp.1.slice
 obtain ⟨a2,c2,e2⟩:=hp.2.slice
 simp only [List.mem_cons,List.not_mem_nil,or_false] at hx
 rcases hx with rfl | rfl
 ·rw [e1];rfl
 ·rw [e2];rfl
theorem RdR.first (B:Nat) (w:World) (hB:B<=w.heap.size):RdR B [[]] (some ⟨w.heap.size,0,none⟩) 1 1 [(.slice none 0 0,.slice none 0 0)] (w.alloc (.cells #[.slice none 0 0,.slice none 0 0] 33)):=by
 refine ⟨rfl,rfl,Own.lit #[.slice none 0 0,.slice none 0 0] 1 (by unfold maxLen;omega) rfl,fun i u l hu hl=>?_,fun g hg=>?_⟩
 ·cases i with
  | zero =>
    obtain rfl:=Option.some.inj hu
    obtain rfl:=Option.some.inj hl
    exact ud _
  | succ i=>simp at hu
 ·rcases hg with hg | ⟨u,hu,hg⟩
  ·simp [Value.ownBlock] at hg;omega
  ·rw [List.mem_singleton] at hu
   subst hu
   rcases hg with hg | hg <;> simp [Value.ownBlock] at hg
structure ClR (B:Nat) (L:List Pl) (a:Option Addr) (n c i:Nat) (us vs:List (Value×Value)) (wz:World):Prop where
 len:L.length=n
 ul:us.length=n
 vl:vs.length=i
 own:Own wz 33 2 (.slice a n c) n (plC (vs++us.drop i))
 each:∀ (k:Nat) (u:Value×Value) (l:Pl),us[k]? = some u->L[k]? = some l->za wz l u.1 u.2
 done:∀ (k:Nat) (u:Value×Value) (l:Pl),vs[k]? = some u->L[k]? = some l->za wz l u.1 u.2
 apart:∀ (i j:Nat) (u u':Value×Value),i≠j->vs[i]? = some u->vs[j]? = some u'->∀ g,(u.1.ownBlock=some g->u'.1.ownBlock≠some g)/\(u.2.ownBlock=some g->u'.2.ownBlock≠some g)
 row:∀ g,(Value.slice a n c).ownBlock=some g->B<=g
 new:∀ u∈vs,∀ g,u.1.ownBlock=some g\/u.2.ownBlock=some g->B<=g
theorem RdR.cl {B:Nat} {L:List Pl} {a:Option Addr} {n c:Nat} {us:List (Value×Value)} {w:World} (h:RdR B L a n c us w):ClR B L a n c 0 us [] w :=
 ⟨h.len,h.ul,rfl,h.own,h.each,fun k u l hu _=>by simp at hu,fun i j u u' _ hu=>by simp at hu,fun g hg=>h.new g (.inl hg),fun u hu=>by simp at hu⟩
theorem ClR.nx {B:Nat} {L:List Pl} {a:Option Addr} {n c:Nat} {us vs:List (Value×Value)} {w:World} (h:ClR B L a n c n us vs w):NxR B L a n c vs w:=by
 have ho:=h.own
 rw [List.drop_of_length_le (by rw [h.ul];exact br _),List.append_nil] at ho
 refine ⟨h.len,⟨by rw [h.vl];exact ho,by rw [h.vl,List.length_map,h.len],fun i u x hu hx=>?_,h.apart⟩,fun g hg=>?_⟩
 ·rw [List.getElem?_map,Option.map_eq_some_iff] at hx
  obtain ⟨l,hl,rfl⟩:=hx
  have hp:=h.done i u l hu hl
  have lM:(plX l).1.length=l.length:=by simp [plX,jk]
  have lP:(plX l).2.length=l.length:=by simp [plX,jU]
  rw [lM,lP];exact hp
 ·rcases hg with hg | ⟨u,hu,hg⟩
  ·exact h.row g hg
  ·exact h.new u hu g hg
theorem ClR.at {B:Nat} {L:List Pl} {a:Option Addr} {n c i:Nat} {us vs:List (Value×Value)} {w:World} (h:ClR B L a n c i us vs w) (hi:i<n):∃ u l,us[i]? = some u/\L[i]? = some l/\za w l u.1 u.2:=by
 have h1:us[i]? = some (us[i]'(by rw [h.ul];exact hi)):=List.getElem?_eq_getElem _
 have h2:L[i]? = some (L[i]'(by rw [h.len];exact hi)):=List.getElem?_eq_getElem _
 exact ⟨_,_,h1,h2,h.each i _ _ h1 h2⟩
theorem ClR.cells {B:Nat} {L:List Pl} {a:Option Addr} {n c i:Nat} {us vs:List (Value×Value)} {w:World} (h:ClR B L a n c i us vs w) {u:Value×Value} (hu:us[i]? = some u):∃ g,a=some ⟨g,0,none⟩/\w.cell? ⟨g,i*2,none⟩=some u.1/\w.cell? ⟨g,i*2+1,none⟩=some u.2:=by
 have fm:(vs++us.drop i)[i]? = some u:=by
  have hv:=h.vl
  rw [List.getElem?_append_right (by omega),List.getElem?_drop,hv,Nat.sub_self,Nat.add_zero];exact hu
 obtain ⟨h1,h2⟩:=plC_at _ i u fm
 obtain ⟨g,c',e,k1⟩:=h.own.at h1
 obtain ⟨g',c'',e',k2⟩:=h.own.at h2
 simp only [Value.slice.injEq,true_and] at e e'
 obtain ⟨rfl,_⟩:=e
 obtain ⟨e',_⟩:=e'
 simp only [Option.some.injEq,Addr.mk.injEq,and_true] at e'
 obtain rfl:=e'
 exact ⟨g,rfl,k1,k2⟩
theorem Own.put2 {w:World} {e:TypeId} {g n c:Nat} {xs:List Value} (h:Own w e 2 (.slice (some ⟨g,0,none⟩) n c) n xs) (j:Nat) (u:Value):Own (w.setCell ⟨g,j,none⟩ u) e 2 (.slice (some ⟨g,0,none⟩) n c) n (xs.set j u):=by
 obtain ⟨hl,⟨h0,_⟩ | ⟨g',cap,cur,hv,h0,hg,mT,lp,hcs,dI⟩⟩:=h
 ·cases h0
 ·simp only [Value.slice.injEq,Option.some.injEq,Addr.mk.injEq] at hv
  obtain ⟨⟨rfl,_,_⟩,_,rfl⟩:=hv
  refine ⟨by simpa using hl,.inr ⟨g,c,cur.setIfInBounds j u,rfl,h0,zO hg,mT,lp,by simpa using hcs,?_⟩⟩
  rw [Array.toList_setIfInBounds,<- dI,List.take_set]
theorem plC_put (vs us:List (Value×Value)) (u:Value×Value) (h:vs.length<us.length):((plC (vs++us.drop vs.length)).set (vs.length*2) u.1).set (vs.length*2+1) u.2=plC ((vs++[u])++us.drop (vs.length+1)):=by
 have hl:=gg vs
 have hd:us.drop vs.length=us[vs.length]::us.drop (vs.length+1):=(List.drop_eq_getElem_cons h)
 rw [hd,ur,xn,List.append_assoc,ur,ur,show plC [u]=[u.1,u.2] from rfl]
 rw [<- hl,List.set_append_right _ _ (br _),Nat.sub_self,List.set_cons_zero,List.set_append_right _ _ (by omega),Nat.add_sub_cancel_left]
 rfl
theorem ClR.put {B:Nat} {L:List Pl} {g n c i:Nat} {us vs:List (Value×Value)} {w W:World} (h:ClR B L (some ⟨g,0,none⟩) n c i us vs w) (hi:i<n) (hB:Below w.heap.size w W) (hBB:B<=w.heap.size) {l:Pl} (hL:L[i]? = some l) {mv pt:Value} (hp:za W l mv pt) (hn:∀ g,mv.ownBlock=some g\/pt.ownBlock=some g->w.heap.size<=g) :
 ClR B L (some ⟨g,0,none⟩) n c (i+1) us (vs++[(mv,pt)]) ((W.setCell ⟨g,i*2,none⟩ mv).setCell ⟨g,i*2+1,none⟩ pt):=by
 have hoW:Own W 33 2 (.slice (some ⟨g,0,none⟩) n c) n (plC (vs++us.drop i)):=h.own.keep fun g o _ ho=>by rw [hB.block g (zZ ho)];exact ho
 have cS:But (fun b=>(Value.slice (some ⟨g,0,none⟩) n c).ownBlock=some b) W ((W.setCell ⟨g,i*2,none⟩ mv).setCell ⟨g,i*2+1,none⟩ pt):=((But.refl (fun b=>(Value.slice (some ⟨g,0,none⟩) n c).ownBlock=some b) W).setCell (p:=⟨g,i*2,none⟩) (.inl rfl) _).setCell (p:=⟨g,i*2+1,none⟩) (.inl rfl) _
 have dc:=(hoW.put2 (i*2) mv).put2 (i*2+1) pt
 have fS:=h.vl
 refine ⟨h.len,h.ul,by rw [List.length_append,fS];rfl,?_,fun k u l hu hl=>?_,fun k u l' hu hl=>?_,fun k j u u' hkj hu fm g'=>?_,h.row,fun u hu g' hg=>?_⟩
 ·subst fS
  rw [plC_put vs us (mv,pt) (by rw [h.ul];exact hi)] at dc
  exact dc
 ·exact ((h.each k u l hu hl).below hB).offRow hoW cS
 ·rcases Nat.lt_or_ge k vs.length with hk | hk
  ·rw [List.getElem?_append_left hk] at hu
   exact ((h.done k u l' hu hl).below hB).offRow hoW cS
  ·rw [List.getElem?_append_right hk] at hu
   have nr:k-vs.length=0:=by have:=(List.getElem?_eq_some_iff.1 hu).1;simp at this;omega
   rw [nr] at hu
   obtain rfl:=Option.some.inj hu
   obtain rfl:k=i:=by omega
   rw [hL] at hl
   obtain rfl:=Option.some.inj hl
   exact hp.offRow hoW cS
 ·have old:∀ q x,q<vs.length->(vs++[(mv,pt)])[q]? = some x->∀ g',(x.1.ownBlock=some g'\/x.2.ownBlock=some g')->g'<w.heap.size:=fun q x hq hx g' ch=>by
   rw [List.getElem?_append_left hq] at hx
   have hqn:q<L.length:=by rw [h.len];omega
   have hp:=h.done q x _ hx (List.getElem?_eq_getElem hqn)
   exact ch.elim (fun e=>hp.1.lt e) fun e=>hp.2.lt e
  have new:∀ q x,vs.length<=q->(vs++[(mv,pt)])[q]? = some x->q=vs.length/\x=(mv,pt):=fun q x hq hx=>by
   have h2:=(List.getElem?_eq_some_iff.1 hx).1
   rw [List.length_append,List.length_singleton] at h2
   obtain rfl:q=vs.length:=by omega
   rw [List.getElem?_append_right (br _),Nat.sub_self] at hx
   exact ⟨rfl,(Option.some.inj hx).symm⟩
  rcases Nat.lt_or_ge k vs.length with hk | hk <;> rcases Nat.lt_or_ge j vs.length with hj | hj
  ·rw [List.getElem?_append_left hk] at hu
   rw [List.getElem?_append_left hj] at fm
   exact h.apart k j u u' hkj hu fm g'
  ·obtain ⟨_,rfl⟩:=new j u' hj fm
   refine ⟨fun e e'=>?_,fun e e'=>?_⟩
   ·have h1:=old k u hk hu g' (.inl e);have h2:=hn g' (.inl e');omega
   ·have h1:=old k u hk hu g' (.inr e);have h2:=hn g' (.inr e');omega
  ·obtain ⟨_,rfl⟩:=new k u hk hu
   refine ⟨fun e e'=>?_,fun e e'=>?_⟩
   ·have h1:=old j u' hj fm g' (.inl e');have h2:=hn g' (.inl e);omega
   ·have h1:=old j u' hj fm g' (.inr e');have h2:=hn g' (.inr e);omega
  ·obtain ⟨rfl,_⟩:=new k u hk hu
   obtain ⟨rfl,_⟩:=new j u' hj fm
   exact absurd rfl hkj
 ·rcases List.mem_append.1 hu with hu | hu
  ·exact h.new u hu g' hg
  ·rw [List.mem_singleton] at hu
   subst hu
   have:=hn g' hg;omega
def PlaysQ (o:Option (List Pl)) (w:World) (en:Ending) (w':World):Prop :=
 ∃ a n c us,en=.returned (.tuple #[.slice a n c,.bool o.isSome])/\Below w.heap.size w w'/\NxR w.heap.size (o.getD []) a n c us w'
theorem PlaysQ.none {w w':World} (hb:Below w.heap.size w w'):PlaysQ none w (.returned (.tuple #[.slice .none 0 0,.bool false])) w':=⟨_,_,_,[],rfl,hb,NxR.nil _ _⟩
theorem legPl_lim {t:Ty} (cQ:zV t<=15) {v:Pl} (h:zR t v=true):∀ x∈v,Lim x.1.length:=by
 intro x hx
 obtain ⟨i,hi⟩:=List.mem_iff_getElem?.1 hx
 have hl:=(List.getElem?_eq_some_iff.1 hi).1
 obtain ⟨c,p,z,hv,ho⟩:=kq h hl
 rw [hv] at hi
 obtain rfl:=Option.some.inj hi
 obtain ⟨a,ha⟩:=ho.hp
 have:=jE _ _ _ ha
 show (c::p).length<=_
 rw [List.length_cons];omega

theorem NxR.empty (B:Nat) (w:World) (hB:B<=w.heap.size):NxR B [] (some ⟨w.heap.size,0,none⟩) 0 0 [] (w.alloc (.cells #[] 33)):=by
 refine ⟨rfl,⟨Own.lit #[] 0 (by unfold maxLen;omega) rfl,rfl,fun i u x h=>by simp at h,fun i j u u' _ h=>by simp at h⟩,fun g hg=>?_⟩
 rcases hg with hg | ⟨u,hu,_⟩
 ·simp [Value.ownBlock] at hg;omega
 ·simp at hu
theorem NxR.lt {B:Nat} {L:List Pl} {a:Option Addr} {n c:Nat} {us:List (Value×Value)} {w:World} (h:NxR B L a n c us w):∀ g,PlB (.slice a n c) us g->g<w.heap.size:=fun g hg=>h.pls.lt hg
theorem NxR.off {B:Nat} {L:List Pl} {a:Option Addr} {n c:Nat} {us:List (Value×Value)} {w w':World} (h:NxR B L a n c us w) {v:Value} {m:Nat} {xs:List Value} (ho:Own w 33 2 v m xs) (hb:But (fun b=>v.ownBlock=some b) w w') (hn:∀ g,(Value.slice a n c).ownBlock=some g->v.ownBlock≠some g):NxR B L a n c us w' :=
 ⟨h.len,jw.but h.pls hb fun g hg e=>by
  rcases hg with hg | ⟨u,hu,hg⟩
  ·exact hn g hg e
  ·obtain ⟨i,x,h1,h2⟩:=h.pls.mem hu
   obtain ⟨k1,k2⟩:=h.pls.each i u x h1 h2
   rcases hg with hg | hg
   ·exact k1.unlikeG ho yE hg e
   ·exact k2.unlikeG ho wJ hg e,h.new⟩
end Go.Proofs.YtfedjhgaeikjmaaGreatDoor

/- Walks of functions that the statement reaches, and plain words. No conditions. -/
import Derived.Maps.Own
import Derived.Maps.Views
import Derived.Test.YtfedjhgaeikjmaaGreatDoorQ5
set_option linter.unusedVariables false
set_option linter.unusedSimpArgs false
set_option maxHeartbeats 8000000
namespace Go.Proofs.YtfedjhgaeikjmaaGreatDoor
open Go.RowKit
def NatAt (w:World) (ns:List Nat) (x:Value):Prop:=∃ b o c,x=.slice (some ⟨b,o,none⟩) ns.length c/\b<w.heap.size/\∀ (i n:Nat),ns[i]? = some n->w.cell? ⟨b,o+i,none⟩=some (.int .i64 (n:Nat))
theorem NatAt.below {w w':World} {ns:List Nat} {x:Value} (h:NatAt w ns x) (hb:Below w.heap.size w w'):NatAt w' ns x:=by
 obtain ⟨b,o,c,e,hl,hc⟩:=h
 exact ⟨b,o,c,e,gY hl hb.size,fun i n hi=>(hb.cell (p:=⟨b,o+i,none⟩) hl).trans (hc i n hi)⟩
theorem Own.cells1 {w:World} {ns:List Nat} {v:Value} (h:Own w 3 1 v ns.length (ku ns)) (hp:0<ns.length):∃ b c,v=.slice (some ⟨b,0,none⟩) ns.length c/\b<w.heap.size/\∀ (i n:Nat),ns[i]? = some n->w.cell? ⟨b,i,none⟩=some (.int .i64 (n:Nat))/\w.frozen? ⟨b,i,none⟩=false:=by
 rcases h.2 with ⟨_,h0⟩ | ⟨g,cap,cur,e,_,hg,mH,_,hcs,ht⟩
 ·omega
 ·refine ⟨g,cap,e,zZ hg,fun i n hi=>?_⟩
  have tF:=(List.getElem?_eq_some_iff.1 hi).1
  have h2:(ku ns)[i]? = some (.int .i64 (n:Nat)):=by unfold ku;rw [List.getElem?_map,hi];rfl
  rw [<- ht,List.getElem?_take,if_pos (by omega),Array.getElem?_toList] at h2
  exact ⟨by simp only [World.cell?,hg];simpa using h2,by simp [World.frozen?,hg]⟩
theorem wK {B b:Nat} (hb:B<=b) {a:World}:∀ (vs:List Value) (o:Nat) (w:World),Below B a w->Below B a (w.setCells b o vs)
 | [],_,_,h=>h
 | v::r,o,_,h=>wK hb r (o+1) _ (h.setCell (p:=⟨b,o,none⟩) hb v)
theorem reversed_at {w w':World} {ns:List Nat} {b c:Nat} {B:Nat} (hB:B<=b) (hl:b<w.heap.size) (hc:∀ (i n:Nat),ns[i]? = some n->w.cell? ⟨b,i,none⟩=some (.int .i64 (n:Nat))/\w.frozen? ⟨b,i,none⟩=false) {q:Nat}
 (e:w'=(w.drewN q).setCells b 0 ((ns.map fun n=>((n:Nat):Int)).reverse.map (Value.int .i64))):NatAt w' ns.reverse (.slice (some ⟨b,0,none⟩) ns.length c)/\Below B w w':=by
 have e2:(ns.map fun n=>((n:Nat):Int)).reverse.map (Value.int .i64)=ku ns.reverse:=by unfold ku;rw [<- List.map_reverse,List.map_map];rfl
 rw [e2] at e
 have gC:(ku ns.reverse).length=ns.length:=by unfold ku;simp
 have hb:Below B w w':=by
  rw [e]
  exact wK hB _ _ _ (kU (gV _ _) q)
 refine ⟨⟨b,0,c,by rw [List.length_reverse],gY hl hb.size,fun i n hi=>?_⟩,hb⟩
 have tF:=(List.getElem?_eq_some_iff.1 hi).1
 rw [List.length_reverse] at tF
 have h3:=World.cell?_setCells_in b (ku ns.reverse) 0 (w.drewN q) (fun j hj=>by
  rw [gC] at hj
  have:=(hc j (ns[j]) (List.getElem?_eq_getElem hj)).1
  rw [Nat.zero_add]
  rw [show (w.drewN q).cell? ⟨b,j,none⟩=w.cell? ⟨b,j,none⟩ from (kU (gV w.heap.size w) q).cell hl,this];rfl) i (by omega)
 rw [e,h3]
 congr 1
 have h2:(ku ns.reverse)[i]? = some (.int .i64 (n:Nat)):=by unfold ku;rw [List.getElem?_map,hi];rfl
 exact (List.getElem?_eq_some_iff.1 h2).2
theorem vT (x:Int) (h1 : -2000<=x) (h2:x<=1000000):IntKind.i64.wrap x=x:=by
 simp [IntKind.wrap,IntKind.bits,IntKind.signed];omega
theorem intsV_append (a b:List Nat):ku (a++b)=ku a++ku b:=by simp [ku]
theorem good_pos {t:Ty} {v:Pl} {i:Nat} {c:UInt8} {p:Bs} {z:Int} (h:OkMv t v i c p z) : -1<=z/\z<(i:Int):=by
 rcases Nat.eq_zero_or_pos i with h0 | h0
 ·have:=(h.zero h0).2.2;omega
 ·have:=h.pos h0;omega
set_option maxRecDepth 100000 in
theorem view_any (F:Nat->Prop) (t:Ty) (v:Pl) (opp:Bool) (n:Nat) (mv pt:Value) (w:World) (hm:jJ F w v mv) (hp:jQ F w v pt) (hv:zS t v=true) (iX:0<n) (hn:n<=v.length) (hl:∀ x∈v,x.1.length<=16777216) :
 Calls Tryz.prog 54 #[.agg #[mv,pt],.int .i64 (n:Nat),.bool opp] w fun en w'=>∃ x,en=.returned x/\Below w.heap.size w w'/\NatAt w' (qM v opp n) x:=by
 have du:=qD hv
 obtain ⟨ma,mc,rfl,cF⟩:=hm.cells
 obtain ⟨pa,pc,rfl,br⟩:=hp.cells
 obtain ⟨W,hW,gG,hz,b0⟩:=qC w (.cells #[.slice ma v.length mc,.slice pa v.length pc] 33)
 obtain ⟨c0,c1,_,_⟩:=zT b0
 have hwn:IntKind.i64.wrap ((n:Int)-1)=(n:Int)-1:=wrap_small _ (by omega) (by omega)
 have HH:=gZ (gK cF (gK br (gK gG (gK hv hl))))
 have HW:=gZ hW
 clear hm hp cF br hz b0 gG hW hl hv
 go_enter Tryz.func54,Tryz.ntmps54
 go_upto_region 1 with (fail)
 rw [HW.out]
 go_wp2_with fail
 go_loopw [7,8] (fun o i wr=>∃ (r f:Nat) (ds:List Nat) (a:Option Addr) (c:Nat),i=.int .i64 ((r:Int)-1)/\r<=f/\ds.length+f=n/\ds++qt v opp f r=qt v opp n n/\o=.slice a ds.length c/\Own wr 3 1 (.slice a ds.length c) ds.length (ku ds)/\Below W.heap.size W wr/\(∀ g,(Value.slice a ds.length c).ownBlock=some g->W.heap.size<=g)) (fun _ i _=>(intOf i+1).toNat)
 case atStart=>exact ⟨n,n,[],none,0,rfl,gQ _,by simp,rfl,rfl,World.ownsRow_nil _ _ _ _,gV _ _,fun g h=>by simp [Value.ownBlock] at h⟩
 case round =>
  obtain ⟨r,f,ds,a,c,rfl,hrf,hdf,hvd,rfl,ho,hB,hf⟩:=hrel
  have HO:=gZ ho;have HF:=gZ hf;have HB:=gZ hB;have HV:=gZ hvd
  clear ho hf hB hvd
  cases r with
  | zero =>
    have e0:(((0:Nat):Int)-1) = -1:=rfl
    rw [e0]
    have m_:ds=qt v opp n n:=by
     have h:=HV.out
     rw [jG,List.append_nil] at h;exact h
    have hlp:0<ds.length:=by
     rw [m_]
     obtain ⟨n',rfl⟩:∃ n',n=n'+1:=⟨n-1,by omega⟩
     rw [k9,List.length_cons];omega
    obtain ⟨g,c',ev,iA,tN⟩:=Own.cells1 HO.out hlp
    simp only [Value.slice.injEq,true_and] at ev
    obtain ⟨rfl,rfl⟩:=ev
    have C:=gZ (Tryz.slices_Reverse_int_cells g 0 ds.length c (ds.map fun n=>((n:Nat):Int)) wr (by simp) (by omega) (fun j hj=>by
     rw [List.length_map] at hj
     rw [Nat.zero_add,(tN j ds[j] (List.getElem?_eq_getElem hj)).1,List.getD_eq_getElem?_getD,List.getElem?_map,List.getElem?_eq_getElem hj];rfl) (fun j hj=>by
     rw [Nat.zero_add];exact (tN j ds[j] (List.getElem?_eq_getElem hj)).2))
    have HG:=gZ (gK iA tN)
    have HD:=gZ m_
    clear iA tN hlp m_
    go_wp2_with fail
    (with_reducible refine C.out.mono ?_)
    rintro en w1 ⟨rfl,q,e⟩
    obtain ⟨hN,hb⟩:=reversed_at (B:=W.heap.size) (c:=c) (HF.out g rfl) HG.out.1 HG.out.2 (e.trans (by rw [List.take_of_length_le (by simp)]))
    have HN:=gZ (gK hN (HB.out.trans hb))
    clear e hN hb C
    go_wp2_with fail
    go_ret
    refine ⟨_,rfl,zzT HH.out.2.2.1 HN.out.2,?_⟩
    unfold qM
    rw [<- HD.out]
    exact HN.out.1
  | succ k =>
    have ek:(((k+1:Nat):Int)-1)=(k:Int):=by omega
    rw [ek]
    have me:k<v.length:=by omega
    have hkvI:(k:Int)<(v.length:Int):=by omega
    obtain ⟨x,p,z,gh,gy⟩:=kp HH.out.2.2.2.1 me
    have gO:=HH.out.2.2.2.2 _ (List.mem_of_getElem? gh)
    rw [List.length_cons] at gO
    obtain ⟨mb,mo,rfl,_,cw,cU⟩:=HH.out.1 k _ gh
    obtain ⟨pb,po,rfl,_,cS,cV⟩:=HH.out.2.1 k _ gh
    have hz:=good_pos gy
    have hwk:IntKind.i64.wrap ((k:Int)-1)=(k:Int)-1:=vT _ (by omega) (by omega)
    obtain ⟨f',rfl⟩:∃ f',f=f'+1:=⟨f-1,by omega⟩
    have KEY:Hid (∀ y,Below W.heap.size W y->y.cell? ⟨w.heap.size,0,none⟩=some (.slice (some ⟨mb,mo,none⟩) v.length mc)/\y.cell? ⟨w.heap.size,1,none⟩=some (.slice (some ⟨pb,po,none⟩) v.length pc)/\y.cell? ⟨mb,mo+k,none⟩=some (str (x::p))/\y.cell? ⟨pb,po+k,none⟩=some (.int .i64 z)):=gZ (fun y hy=>by
     have bJ:=zzT HH.out.2.2.1 hy
     exact ⟨(hy.cell (gJ _ _ c0)).trans c0,(hy.cell (gJ _ _ c1)).trans c1,(bJ.cell (p:=⟨mb,mo+k,none⟩) cw).trans cU,(bJ.cell (p:=⟨pb,po+k,none⟩) cS).trans cV⟩)
    have CB:=j6 x p (show p.length<=16777216 by omega)
    have hbk:jW v opp (k+1-1)=jW v opp k:=rfl
    have HN:Hid (ds++[k]++qt v opp f' (if qL (x::p)=opp then k else (z+1).toNat)=qt v opp n n):=gZ (by
     have h:=HV.out
     rw [k9] at h
     unfold jW at h
     rw [gh] at h
     rw [List.append_assoc];exact h)
    obtain ⟨bo,dx⟩:=zzN (qL (x::p))
    rw [dx] at CB HN
    have CB:=gZ CB
    clear c0 c1 gh gy gO cw cU cS cV dx hbk
    go_wp2_with (at_builtin;refine zB rfl _ _ 31 rfl 3 (.int .i64 0) 1 8 Tryz.underlying31 Tryz.infoInt2 rfl (by decide) (.slice a ds.length c) ds.length (ku ds) rfl ?c1 _ 1 [.int .i64 (k:Nat)] rfl ?c2 ?c3 ?c4 ?_)
    case c1=>exact HO.out.alloc _
    case c2=>exact zN.litk #[.int .i64 (k:Nat)] rfl (by simp [Value.oneCell']) _ (by rfl)
    case c3=>unfold maxLen;omega
    case c4=>omega
    intro a7 c7 w8 ho8 i7 hg8
    have hzr:=HB.out.size
    have eF:Below W.heap.size W w8:=(HB.out.alloc hzr _).trans (i7.toBelow (by rw [zK];omega) fun i hi e=>by have:=HF.out i e;omega)
    have hF8:∀ g,(Value.slice a7 (ds.length+1) c7).ownBlock=some g->W.heap.size<=g:=fun g hg=>by
     rcases hg8 g hg with e | e
     ·exact HF.out g e
     ·omega
    have af:Own w8 3 1 (.slice a7 (ds++[k]).length c7) (ds++[k]).length (ku (ds++[k])):=by rw [intsV_append,List.length_append];exact ho8
    obtain ⟨d0,d1,m0,p0⟩:=KEY.out w8 eF
    have H8:=gZ (gK af (gK eF (by rw [show ds.length+1=(ds++[k]).length from by simp] at hF8;exact hF8)))
    have el:ds.length+1=(ds++[k]).length:=by simp
    rw [el]
    generalize m_:ds++[k]=ds' at *
    have tA:ds'.length=ds.length+1:=el.symm
    clear ho8 i7 hg8 eF hF8 af KEY hzr el m_ HO HF HV
    go_wp2_with fail
    (with_reducible refine (CB.out _).mono ?_)
    rintro en w9 ⟨rfl,e⟩
    subst w9
    by_cases dx:bo=opp
    ·rw [if_pos dx] at HN
     have gW:(bo == opp)=true:=by simp [dx]
     clear dx CB d1 p0
     go_wp2_with fail
     go_roundw
     case rel=>exact ⟨k,f',ds',a7,c7,rfl,by omega,by omega,HN.out,by rw [tA],H8.out.1,H8.out.2.1,H8.out.2.2⟩
     case measure=>simp [intOf]
    ·rw [if_neg dx] at HN
     have gW:(bo == opp)=false:=by simp [dx]
     clear dx CB d0 m0
     go_wp2_with fail
     go_roundw
     case rel=>exact ⟨(z+1).toNat,f',ds',a7,c7,by congr 1;omega,by omega,by omega,HN.out,by rw [tA],H8.out.1,H8.out.2.1,H8.out.2.2⟩
     case measure=>simp [intOf];omega

def qG (v:Pl):Nat->List Int->Int
 | 0,_=>-1
 | k+1,ans=>match v[k]? with
   | none=>-1
   | some x=>if isQ x.1 then (if ans.contains (k:Int) then qG v k ans else (k:Int)) else qG v k (ans++[x.2])
theorem uI {v:Pl} {k:Nat} {m:Bs} {z:Int} (h:v[k]? = some (m,z)) (ans:List Int):qG v (k+1) ans=if isQ m then (if ans.contains (k:Int) then qG v k ans else (k:Int)) else qG v k (ans++[z]):=by
 rw [qG,h]
def setD (ans:List Int):DataW Unit:=ans.foldl (fun D z=>D.put (.int .i64 z) (.lit (.bool true))) (.map [])
theorem setD_snoc (ans:List Int) (z:Int):setD (ans++[z])=(setD ans).put (.int .i64 z) (.lit (.bool true)):=by
 unfold setD;rw [List.foldl_append];rfl
theorem pL (z:Int):∀ (ans:List Int) (D:DataW Unit) (b:Bool),Maps.IsMap D->D.atKey (.int .i64 z) (.lit (.bool false))=.lit (.bool b)->(ans.foldl (fun D z=>D.put (.int .i64 z) (.lit (.bool true))) D).atKey (.int .i64 z) (.lit (.bool false))=.lit (.bool (b || ans.contains z))
 | [],D,b,_,h=>by simpa using h
 | x::r,D,b,hm,h=>by
   rw [List.foldl_cons]
   by_cases hx:z=x
   ·subst hx
    rw [pL z r _ true (hm.put _ _) (Maps.atKey_put_same hm (show WideAt.IsKeyLit (.int .i64 z) from trivial) _ _)]
    simp
   ·rw [pL z r _ b (hm.put _ _) (by rw [Maps.atKey_put_other (by simpa using hx)];exact h)]
    simp [hx]
theorem setD_at (ans:List Int) (z:Int):(setD ans).atKey (.int .i64 z) (.lit (.bool false))=.lit (.bool (ans.contains z)):=by
 unfold setD
 rw [pL z ans _ false Maps.isMap_empty rfl,Bool.false_or]
theorem ownsMap_bool {P:Program} {k:TypeId} {w:World} {b n:Nat} {D:DataW Unit} {t e:TypeId} (h:w.ownsMap P k (plainElem P e) b n D) (K:Maps.Keyed P k) (ht:P.underlying t=some (.map k e)) (he:P.underlying e=some .bool) (hz:(zeroValue e).run P w=.ok (.bool false) w)
 {key:Value} {kl:Lit} (hkey:keyOf P k key=some kl):∃ c,(Instr.lookup t (.map (some b)) key false).run P w=.ok (.bool c) w/\D.atKey kl (.lit (.bool false))=.lit (.bool c):=by
 obtain ⟨v,ps,mz,hv⟩:=h.lookup K ht hz (plainElem_bool he false) hkey
 unfold plainElem at hv
 rw [he] at hv
 cases v <;> simp at hv
 exact ⟨_,mz,hv.1.symm⟩
theorem Tryz.lawI:Maps.Keyed Tryz.prog 3:=Maps.int_keyed Tryz.underlying3
theorem Tryz.zeroB (w:World):(zeroValue 4).run Tryz.prog w=.ok (.bool false) w:=by kernel_rfl
theorem keyI {z:Int} (h1 : -2000<=z) (h2:z<=1000000):keyOf Tryz.prog 3 (.int .i64 z)=some (.int .i64 z):=Maps.keyOf_int_mk Tryz.underlying3 (WalkArith.wf_i64 ⟨by omega,by omega⟩)
set_option maxRecDepth 100000 in
theorem pending_any (F:Nat->Prop) (t:Ty) (v:Pl) (n:Nat) (mv pt:Value) (w:World) (hm:jJ F w v mv) (hp:jQ F w v pt) (hv:zS t v=true) (hn:n<=v.length) :
 Calls Tryz.prog 115 #[.agg #[mv,pt],.int .i64 (n:Nat)] w fun en w'=>en=.returned (.int .i64 (qG v n []))/\Below w.heap.size w w':=by
 have du:=qD hv
 obtain ⟨ma,mc,rfl,cF⟩:=hm.cells
 obtain ⟨pa,pc,rfl,br⟩:=hp.cells
 obtain ⟨W,hW,gG,hz,b0⟩:=qC w (.cells #[.slice ma v.length mc,.slice pa v.length pc] 33)
 obtain ⟨c0,c1,_,_⟩:=zT b0
 have hwn:IntKind.i64.wrap ((n:Int)-1)=(n:Int)-1:=vT _ (by omega) (by omega)
 have HH:=gZ (gK cF (gK br (gK gG hv)))
 have HW:=gZ hW
 have hmm:=@run_makeMap Tryz.prog
 clear hm hp cF br hz b0 gG hW hv
 go_enter Tryz.func115,Tryz.ntmps115
 go_upto_region 1 with (fail)
 rw [HW.out]
 go_wp2_with fail
 go_loopw [6] (fun i wr=>∃ (r:Nat) (ans:List Int),i=.int .i64 ((r:Int)-1)/\r+ans.length<=n/\qG v r ans=qG v n []/\wr.ownsMap Tryz.prog 3 (plainElem (H:=Unit) Tryz.prog 4) W.heap.size ans.length (setD ans)/\Below W.heap.size W wr) (fun i _=>(intOf i+1).toNat)
 case atStart=>exact ⟨n,[],rfl,by simp,rfl,World.ownsMap_made _ _ _ _,(gV _ _).alloc (gQ _) _⟩
 case round =>
  obtain ⟨r,ans,rfl,rg,hpe,ho,hB⟩:=hrel
  have HB:=gZ hB;have HP:=gZ hpe;have HO:=gZ ho
  clear hB hpe ho
  cases r with
  | zero =>
    have e0:(((0:Nat):Int)-1) = -1:=rfl
    have E:=gZ (show qG v n [] = -1 by rw [<- HP.out];rfl)
    rw [e0]
    go_wp2_with fail
    go_ret
    exact ⟨by rw [E.out];rfl,zzT HH.out.2.2.1 HB.out⟩
  | succ k =>
    have ek:(((k+1:Nat):Int)-1)=(k:Int):=by omega
    rw [ek]
    have me:k<v.length:=by omega
    have hkvI:(k:Int)<(v.length:Int):=by omega
    obtain ⟨x,p,z,gh,gy⟩:=kp HH.out.2.2.2 me
    obtain ⟨mb,mo,rfl,_,cw,cU⟩:=HH.out.1 k _ gh
    obtain ⟨pb,po,rfl,_,cS,cV⟩:=HH.out.2.1 k _ gh
    have hz:=good_pos gy
    have hwk:IntKind.i64.wrap ((k:Int)-1)=(k:Int)-1:=vT _ (by omega) (by omega)
    obtain ⟨d0,d1,m0,p0⟩:wr.cell? ⟨w.heap.size,0,none⟩=some (.slice (some ⟨mb,mo,none⟩) v.length mc)/\wr.cell? ⟨w.heap.size,1,none⟩=some (.slice (some ⟨pb,po,none⟩) v.length pc)/\wr.cell? ⟨mb,mo+k,none⟩=some (str (x::p))/\wr.cell? ⟨pb,po+k,none⟩=some (.int .i64 z):=by
     have hy:=HB.out
     have bJ:=zzT HH.out.2.2.1 hy
     exact ⟨(hy.cell (gJ _ _ c0)).trans c0,(hy.cell (gJ _ _ c1)).trans c1,(bJ.cell (p:=⟨mb,mo+k,none⟩) cw).trans cU,(bJ.cell (p:=⟨pb,po+k,none⟩) cS).trans cV⟩
    have CB:=jX x p wr
    have HQ:=uI gh ans
    cases hq:isQ (x::p) with
    | false =>
      rw [hq] at CB HQ
      have E:=gZ (HP.out.symm.trans HQ)
      have CB:=gZ CB
      have kz:=gZ (keyI (z:=z) (by omega) (by omega))
      clear c0 c1 gh gy cw cU cS cV hq HQ
      go_wp2_with fail
      (with_reducible refine CB.out.mono ?_)
      rintro en w9 ⟨rfl,e⟩
      subst w9
      go_wp2_with (at_mapUpdate;refine wpList_mapUpdate_own (H:=Unit) _ rfl _ _ _ 207 rfl 3 4 Tryz.lawI Tryz.underlying207 (plainElem Tryz.prog 4) W.heap.size ans.length _ rfl HO.out (by unfold maxLen;omega) _ _ _ rfl rfl kz.out _ [] (plainElem_bool Tryz.underlying4 true) ?_)
      intro w1 tB n8
      have fG:Below W.heap.size W w1:=HB.out.trans ((But.ofGrown n8).toBelow HB.out.size fun i hi e=>by simp at e;omega)
      rw [<- setD_snoc] at tB
      have H1:=gZ (gK tB fG)
      clear tB n8 fG d0 d1 m0 p0
      go_wp2_with fail
      go_roundw
      case rel=>exact ⟨k,ans++[z],rfl,by rw [List.length_append];simp;omega,E.out.symm,by rw [List.length_append];exact H1.out.1,H1.out.2⟩
      case measure=>simp [intOf]
    | true =>
      rw [hq] at CB HQ
      obtain ⟨c,mz,hat⟩:=ownsMap_bool HO.out Tryz.lawI Tryz.underlying207 Tryz.underlying4 (Tryz.zeroB _) (keyI (z:=(k:Int)) (by omega) (by omega))
      rw [setD_at] at hat
      obtain rfl:ans.contains (k:Int)=c:=by simpa using hat
      have E:=gZ (HP.out.symm.trans HQ)
      have CB:=gZ CB
      clear c0 c1 gh gy cw cU cS cV hq HQ hat
      cases hc:ans.contains (k:Int) with
      | true =>
        rw [hc] at mz E
        clear hc
        go_wp2_with fail
        (with_reducible refine CB.out.mono ?_)
        rintro en w9 ⟨rfl,e⟩
        subst w9
        go_wp2_with fail
        go_roundw
        case rel=>exact ⟨k,ans,rfl,by omega,E.out.symm,HO.out,HB.out⟩
        case measure=>simp [intOf]
      | false =>
        rw [hc] at mz E
        clear hc
        go_wp2_with fail
        (with_reducible refine CB.out.mono ?_)
        rintro en w9 ⟨rfl,e⟩
        subst w9
        go_wp2_with fail
        go_ret
        exact ⟨by rw [E.out];rfl,zzT HH.out.2.2.1 HB.out⟩

def j9 (p:Nat->Bool):Nat->Bool
 | 0=>true
 | n+1=>j9 p n && p n
theorem un {p:Nat->Bool}:∀ {n i:Nat},j9 p n=true->i<n->p i=true
 | 0,i,_,hi=>absurd hi (by omega)
 | n+1,i,h,hi=>by
   rw [j9,Bool.and_eq_true] at h
   rcases Nat.lt_or_ge i n with h' | h'
   ·exact un h.1 h'
   ·obtain rfl:i=n:=by omega
    exact h.2
theorem allP_no {p:Nat->Bool} {n i:Nat} (h:p i=false) (hi:i<n):j9 p n=false:=by
 cases hh:j9 p n with
 | false=>rfl
 | true=>rw [un hh hi] at h;simp at h
theorem wM {p:Nat->Bool}:∀ {n:Nat},(∀ i,i<n->p i=true)->j9 p n=true
 | 0,_=>rfl
 | n+1,h=>by rw [j9,wM (fun i hi=>h i (by omega)),h n (by omega)];rfl
theorem allP_le {p:Nat->Bool} {n m:Nat} (h:j9 p n=true) (hm:m<=n):j9 p m=true:=wM fun i hi=>un h (by omega)
def uM (v:Pl) (i:Nat):Bool:=if i=0 then true else match v[i]? with
 | none=>true
 | some x=>((qM v (qL x.1) i).map fun n=>((n:Nat):Int)).contains x.2
def wC (v:Pl) (i:Nat):Bool:=match v[i]? with
 | none=>true
 | some x=>isQ x.1 || x.2 == qG v i []
def visP (v:Pl):Bool:=j9 (uM v) v.length
def brP (v:Pl):Bool:=j9 (wC v) v.length
def qm (v:Pl):Bool:=visP v && brP v
theorem visAt_at {v:Pl} {i:Nat} {m:Bs} {z:Int} (h:v[i]? = some (m,z)) (hi:0<i):uM v i=((qM v (qL m) i).map fun n=>((n:Nat):Int)).contains z:=by
 unfold uM;rw [if_neg (by omega),h]
theorem brAt_at {v:Pl} {i:Nat} {m:Bs} {z:Int} (h:v[i]? = some (m,z)):wC v i=(isQ m || z == qG v i []):=by
 unfold wC;rw [h]
theorem viewD_len (v:Pl) (opp:Bool):∀ f n,(qt v opp f n).length<=f
 | 0,_=>by simp [qt]
 | f+1,0=>by rw [jG];simp
 | f+1,n+1=>by rw [k9,List.length_cons];have:=viewD_len v opp f (jW v opp n);omega
theorem viewP_len (v:Pl) (opp:Bool) (n:Nat):(qM v opp n).length<=n:=by
 unfold qM;rw [List.length_reverse];exact viewD_len v opp n n
theorem contains_view {w:World} {ns:List Nat} {x:Value} (h:NatAt w ns x) (hl:ns.length<=1000000) (z:Int) :
 Calls Tryz.prog 113 #[x,.int .i64 z] w fun en w'=>en=.returned (.bool ((ns.map fun n=>((n:Nat):Int)).contains z))/\w'=w:=by
 obtain ⟨b,o,c,rfl,hb,hc⟩:=h
 refine (Tryz.slices_Contains_int b o ns.length c (ns.map fun n=>((n:Nat):Int)) z w (by simp) (by omega) (fun j hj=>?_)).mono ?_
 ·rw [List.length_map] at hj
  rw [hc j ns[j] (List.getElem?_eq_getElem hj),List.getD_eq_getElem?_getD,List.getElem?_map,List.getElem?_eq_getElem hj];rfl
 ·rintro en w' ⟨rfl,e⟩
  exact ⟨by rw [List.take_of_length_le (by simp)],e⟩
structure xp (F:Nat->Prop) (t:Ty) (v:Pl) (mv pt:Value) (w:World):Prop where
 m:jJ F w v mv
 p:jQ F w v pt
 ok:zS t v=true
 l:∀ x∈v,x.1.length<=16777216
theorem xp.below {F:Nat->Prop} {t:Ty} {v:Pl} {mv pt:Value} {w w':World} (h:xp F t v mv pt w) (hb:Below w.heap.size w w'):xp F t v mv pt w':=⟨Rep.below hb (fun _ h=>h) h.m,Rep.below hb (fun _ h=>h) h.p,h.ok,h.l⟩
set_option maxRecDepth 100000 in
theorem visible_any (F:Nat->Prop) (t:Ty) (v:Pl) (mv pt:Value) (w:World) (h:xp F t v mv pt w) :
 Calls Tryz.prog 79 #[.agg #[mv,pt]] w fun en w'=>en=.returned (.bool (visP v))/\Below w.heap.size w w':=by
 have du:=qD h.ok
 obtain ⟨ma,mc,rfl,cF⟩:=h.m.cells
 obtain ⟨pa,pc,rfl,br⟩:=h.p.cells
 obtain ⟨W,hW,gG,hz,b0⟩:=qC w (.cells #[.slice ma v.length mc,.slice pa v.length pc] 33)
 obtain ⟨c0,c1,_,_⟩:=zT b0
 have HH:=gZ (gK cF (gK br (gK gG (h.below gG))))
 have HW:=gZ hW
 clear h cF br hz b0 gG hW
 go_enter Tryz.func79,Tryz.ntmps79
 go_upto_region 1 with (fail)
 rw [HW.out]
 go_wp2_with fail
 go_loopw [3] (fun i wr=>∃ (wz:World) (k:Nat),wz=wr/\1<=k/\k<=v.length+1/\i=.int .i64 k/\j9 (uM v) k=true/\Below W.heap.size W wz) (fun i _=>v.length+1-(intOf i).toNat)
 case atStart=>exact ⟨_,1,rfl,gQ _,by omega,rfl,rfl,gV _ _⟩
 case round =>
  obtain ⟨wr,k,rfl,hk1,hk,rfl,hH,hB⟩:=hrel
  have d0:=(hB.cell (gJ _ _ c0)).trans c0
  have d1:=(hB.cell (gJ _ _ c1)).trans c1
  clear c0 c1
  have HB:=gZ (gK hB (zzT HH.out.2.2.1 hB))
  clear hB
  by_cases gH:k<v.length
  ·have bH:(k:Int)<(v.length:Int):=by omega
   obtain ⟨x,p,z,gh,gy⟩:=kp HH.out.2.2.2.ok gH
   have gO:=HH.out.2.2.2.l _ (List.mem_of_getElem? gh)
   rw [List.length_cons] at gO
   obtain ⟨mb,mo,rfl,_,cw,cU⟩:=HH.out.1 k _ gh
   obtain ⟨pb,po,rfl,_,cS,cV⟩:=HH.out.2.1 k _ gh
   have m0:=(HB.out.2.cell (p:=⟨mb,mo+k,none⟩) cw).trans cU
   have p0:=(HB.out.2.cell (p:=⟨pb,po+k,none⟩) cS).trans cV
   have PLR:=gZ (fun (y:World) (hy:Below wr.heap.size wr y)=>(HH.out.2.2.2.below HB.out.1).below hy)
   have VK:=visAt_at gh (by omega)
   have CB:=gZ (j6 x p (show p.length<=16777216 by omega))
   obtain ⟨bo,dx⟩:=zzN (qL (x::p))
   rw [dx] at VK CB
   obtain ⟨cn,mC⟩:=zzN (uM v k)
   rw [mC] at VK
   have CV:=gZ (fun (y:World) (hy:Below wr.heap.size wr y)=>view_any F t v bo k _ _ y (PLR.out y hy).m (PLR.out y hy).p HH.out.2.2.2.ok (by omega) (by omega) HH.out.2.2.2.l)
   have HV:=gZ (gK VK (gK mC (gK hH gH)))
   have KEY:=gZ (fun (y:World) (hy:Below wr.heap.size wr y)=>(show y.cell? ⟨w.heap.size,0,none⟩=some (.slice (some ⟨mb,mo,none⟩) v.length mc)/\y.cell? ⟨w.heap.size,1,none⟩=some (.slice (some ⟨pb,po,none⟩) v.length pc)/\y.cell? ⟨mb,mo+k,none⟩=some (str (x::p))/\y.cell? ⟨pb,po+k,none⟩=some (.int .i64 z) from
    ⟨(hy.cell (gJ _ _ d0)).trans d0,(hy.cell (gJ _ _ d1)).trans d1,(hy.cell (gJ _ _ m0)).trans m0,(hy.cell (gJ _ _ p0)).trans p0⟩))
   clear gh gy gO cw cU cS cV dx mC VK hH
   go_upto_region 4 with (fail)
   clear d0 d1 m0 p0
   refine wp_region_noPanic ?_
   refine zl (fun w'=>Below wr.heap.size wr w') (fun _=>false) (by kernel_rfl) ?_
   have gT:(fun w'=>Below wr.heap.size wr w') wr.drew:=Below.drew (gV _ _)
   refine tk [0,1,2] gT ?_
   (intro d hd;simp [tkD] at hd;subst hd;simp only [tks,pQ,pZ,pS])
   iterate 3 (refine ⟨?_,?_,?_⟩;rotate_left;· (intro oi ho;simp at ho;subst ho;refine Or.inl ⟨by rfl,fun w' gI=>?_⟩;have e0:=(KEY.out w' gI).1;have e1:=(KEY.out w' gI).2.1;go_simp;try with_reducible rfl))
   refine tk [3,4,5] gT ?_
   (intro d hd;simp [tkD] at hd;subst hd;simp only [tks,pQ,pZ,pS])
   iterate 3 (refine ⟨?_,?_,?_⟩;rotate_left;· (intro oi ho;simp at ho;subst ho;refine Or.inl ⟨by rfl,fun w' gI=>?_⟩;have e0:=(KEY.out w' gI).1;go_simp;try with_reducible rfl))
   refine tk [6,9] gT ?_
   (intro d hd;simp [tkD] at hd;subst hd;simp only [tks,pQ,pZ,pS])
   iterate 2 (refine ⟨?_,?_,?_⟩;rotate_left;· (intro oi ho;simp at ho;subst ho;refine Or.inl ⟨by rfl,fun w' gI=>?_⟩;have e0:=(KEY.out w' gI).2.2.1;go_simp;try with_reducible rfl))
   refine tk [10,11,12] gT ?_
   (intro d hd;simp [tkD] at hd;subst hd;simp only [tks,pQ,pZ,pS])
   iterate 3 (refine ⟨?_,?_,?_⟩;rotate_left;· (intro oi ho;simp at ho;subst ho;refine Or.inl ⟨by rfl,fun w' gI=>?_⟩;have e0:=(KEY.out w' gI).2.1;go_simp;try with_reducible rfl))
   refine tk [13] gT ?_
   (intro d hd;simp [tkD] at hd;subst hd;simp only [tks,pQ,pZ,pS])
   (refine ⟨?_,?_,?_⟩;rotate_left;· (intro oi ho;simp at ho;subst ho;refine Or.inl ⟨by rfl,fun w' gI=>?_⟩;have e0:=(KEY.out w' gI).2.2.2;go_simp;try with_reducible rfl))
   (refine on 7 ?_;intro o ho K' hK;simp at ho;subst ho;go_simp)
   go_at_call 94
   (with_reducible refine (CB.out _).mono ?_)
   rintro en x7 ⟨rfl,e⟩
   subst x7
   (refine hK.out _ _ (fun _=>gT) ?_;clear hK K';try simp only [pQ,pN,pZ,pS])
   (refine on 8 ?_;intro o ho K' hK;simp at ho;subst ho;go_simp)
   go_at_call 54
   (with_reducible refine (CV.out _ gT).mono ?_)
   rintro en x8 ⟨xv,rfl,i7,hn8⟩
   have eF:Below wr.heap.size wr x8:=zzT gT i7
   have CC:=contains_view hn8 (by have:=viewP_len v bo k;omega) z
   rw [<- HV.out.1] at CC
   (refine hK.out _ _ (fun _=>eF) ?_;clear hK K';try simp only [pQ,pN,pZ,pS])
   (refine on 14 ?_;intro o ho K' hK;simp at ho;subst ho;go_simp)
   go_at_call 113
   (with_reducible refine CC.mono ?_)
   rintro en tl ⟨rfl,e⟩
   subst tl
   clear CC
   (refine hK.out _ _ (fun _=>eF) ?_;clear hK K';try simp only [pQ,pN,pZ,pS])
   have nV:=eF
   refine tk [15] nV ?_
   (intro d hd;simp [tkD] at hd;subst hd;simp only [tks,pQ,pZ,pS])
   (refine ⟨?_,?_,?_⟩;rotate_left;· (intro oi ho;simp at ho;subst ho;refine Or.inl ⟨by rfl,fun w' gI=>?_⟩;go_simp;try with_reducible rfl))
   refine zo (by kernel_rfl) (NoPanic.normal ?_) _
   have l9:=gZ eF
   clear eF i7 hn8 gT nV KEY CV CB PLR
   cases cn with
   | true =>
     have E:=gZ (show j9 (uM v) (k+1)=true by rw [j9,HV.out.2.2.1,HV.out.2.1];rfl)
     go_wp2_with fail
     go_roundw
     case rel=>exact ⟨_,k+1,rfl,by omega,by omega,by go_num,E.out,zzT HB.out.1 l9.out⟩
     case measure=>simp [intOf];omega
   | false =>
     have E:=gZ (show visP v=false from allP_no HV.out.2.1 HV.out.2.2.2)
     go_wp2_with fail
     go_ret
     exact ⟨by rw [E.out];rfl,zzT HB.out.2 l9.out⟩
  ·have E:=gZ (show visP v=true from allP_le hH (by omega))
   have bH:¬ (k:Int)<(v.length:Int):=by omega
   clear hH
   go_wp2_with fail
   go_ret
   exact ⟨by rw [E.out];rfl,HB.out.2⟩
set_option maxRecDepth 100000 in
theorem bracketed_any (F:Nat->Prop) (t:Ty) (v:Pl) (mv pt:Value) (w:World) (h:xp F t v mv pt w) :
 Calls Tryz.prog 80 #[.agg #[mv,pt]] w fun en w'=>en=.returned (.bool (brP v))/\Below w.heap.size w w':=by
 have du:=qD h.ok
 obtain ⟨ma,mc,rfl,cF⟩:=h.m.cells
 obtain ⟨pa,pc,rfl,br⟩:=h.p.cells
 obtain ⟨W,hW,gG,hz,b0⟩:=qC w (.cells #[.slice ma v.length mc,.slice pa v.length pc] 33)
 obtain ⟨c0,c1,_,_⟩:=zT b0
 have HH:=gZ (gK cF (gK br (gK gG (h.below gG))))
 have HW:=gZ hW
 clear h cF br hz b0 gG hW
 go_enter Tryz.func80,Tryz.ntmps80
 go_upto_region 1 with (fail)
 rw [HW.out]
 go_wp2_with fail
 go_loopw [8] (fun i wr=>∃ (wz:World) (k:Nat),wz=wr/\k<=v.length/\i=.int .i64 k/\j9 (wC v) k=true/\Below W.heap.size W wz) (fun i _=>v.length-(intOf i).toNat)
 case atStart=>exact ⟨_,0,rfl,Nat.zero_le _,rfl,rfl,gV _ _⟩
 case round =>
  obtain ⟨wr,k,rfl,hk,rfl,hH,hB⟩:=hrel
  have d0:=(hB.cell (gJ _ _ c0)).trans c0
  have d1:=(hB.cell (gJ _ _ c1)).trans c1
  clear c0 c1
  have HB:=gZ (gK hB (zzT HH.out.2.2.1 hB))
  clear hB
  by_cases gH:k<v.length
  ·have bH:(k:Int)<(v.length:Int):=by omega
   obtain ⟨x,p,z,gh,gy⟩:=kp HH.out.2.2.2.ok gH
   obtain ⟨mb,mo,rfl,_,cw,cU⟩:=HH.out.1 k _ gh
   obtain ⟨pb,po,rfl,_,cS,cV⟩:=HH.out.2.1 k _ gh
   have m0:=(HB.out.2.cell (p:=⟨mb,mo+k,none⟩) cw).trans cU
   have p0:=(HB.out.2.cell (p:=⟨pb,po+k,none⟩) cS).trans cV
   have PLR:=gZ (fun (y:World) (hy:Below wr.heap.size wr y)=>(HH.out.2.2.2.below HB.out.1).below hy)
   have VK:=brAt_at gh
   have CB:=gZ (jX x p)
   obtain ⟨q,hq⟩:=zzN (isQ (x::p))
   obtain ⟨M,hM⟩:=zzM (x::p)
   obtain ⟨cn,mC⟩:=zzN (wC v k)
   rw [hq] at VK CB
   rw [mC] at VK
   rw [<- hM] at m0 CB
   have CV:=gZ (fun (y:World) (hy:Below wr.heap.size wr y)=>pending_any F t v k _ _ y (PLR.out y hy).m (PLR.out y hy).p HH.out.2.2.2.ok (by omega))
   have KEY:=gZ (fun (y:World) (hy:Below wr.heap.size wr y)=>(show y.cell? ⟨w.heap.size,0,none⟩=some (.slice (some ⟨mb,mo,none⟩) v.length mc)/\y.cell? ⟨w.heap.size,1,none⟩=some (.slice (some ⟨pb,po,none⟩) v.length pc)/\y.cell? ⟨pb,po+k,none⟩=some (.int .i64 z) from
    ⟨(hy.cell (gJ _ _ d0)).trans d0,(hy.cell (gJ _ _ d1)).trans d1,(hy.cell (gJ _ _ p0)).trans p0⟩))
   have HV:=gZ (gK mC (gK hH gH))
   generalize hpe:qG v k []=pe at *
   clear gh gy cw cU cS cV hq mC hH hpe hM
   cases q with
   | true =>
     obtain rfl:cn=true:=by rw [VK];rfl
     clear VK
     go_upto_region 4 with (fail)
     clear d0 d1 m0 p0
     refine wp_region_noPanic ?_
     refine zl (fun w'=>Below wr.heap.size wr w') (fun _=>false) (by kernel_rfl) ?_
     have gT:(fun w'=>Below wr.heap.size wr w') wr.drew:=Below.drew (gV _ _)
     refine tk [0] gT ?_
     (intro d hd;simp [tkD] at hd;subst hd;simp only [tks,pQ,pZ,pS])
     (refine ⟨?_,?_,?_⟩;rotate_left;· (intro oi ho;simp at ho;subst ho;refine Or.inl ⟨by rfl,fun w' gI=>?_⟩;go_simp;try with_reducible rfl))
     (refine on 1 ?_;intro o ho K' hK;simp at ho;subst ho;go_simp)
     go_at_call 114
     (with_reducible refine (CB.out _).mono ?_)
     rintro en x1 ⟨rfl,e⟩
     subst x1
     (refine hK.out _ _ (fun _=>gT) ?_;clear hK K';try simp only [pQ,pN,pZ,pS])
     refine tk [2,3,4,5,6,7,8,9,10,11,12,13] gT ?_
     (intro d hd;simp [tkD] at hd;subst hd;simp only [tks,pQ,pZ,pS])
     iterate 12 (refine ⟨?_,?_,?_⟩;rotate_left;· (intro oi ho;simp at ho;subst ho;first | (refine Or.inr ⟨by rfl,?_⟩;with_reducible rfl) | (refine Or.inl ⟨by rfl,fun w' gI=>?_⟩;go_simp;try with_reducible rfl)))
     refine zo (by kernel_rfl) (NoPanic.normal ?_) _
     have E:=gZ (show j9 (wC v) (k+1)=true by rw [j9,HV.out.2.1,HV.out.1];rfl)
     clear KEY CV CB PLR gT
     go_wp2_with fail
     go_roundw
     case rel=>exact ⟨_,k+1,rfl,by omega,by go_num,E.out,HB.out.1.drew⟩
     case measure=>simp [intOf];omega
   | false =>
     rw [Bool.false_or] at VK
     go_upto_region 4 with (fail)
     clear d0 d1 m0 p0
     refine wp_region_noPanic ?_
     refine zl (fun w'=>Below wr.heap.size wr w') (fun _=>false) (by kernel_rfl) ?_
     have gT:(fun w'=>Below wr.heap.size wr w') wr.drew:=Below.drew (gV _ _)
     refine tk [0] gT ?_
     (intro d hd;simp [tkD] at hd;subst hd;simp only [tks,pQ,pZ,pS])
     (refine ⟨?_,?_,?_⟩;rotate_left;· (intro oi ho;simp at ho;subst ho;refine Or.inl ⟨by rfl,fun w' gI=>?_⟩;go_simp;try with_reducible rfl))
     (refine on 1 ?_;intro o ho K' hK;simp at ho;subst ho;go_simp)
     go_at_call 114
     (with_reducible refine (CB.out _).mono ?_)
     rintro en x1 ⟨rfl,e⟩
     subst x1
     (refine hK.out _ _ (fun _=>gT) ?_;clear hK K';try simp only [pQ,pN,pZ,pS])
     refine tk [2,3,4,5,6,7] gT ?_
     (intro d hd;simp [tkD] at hd;subst hd;simp only [tks,pQ,pZ,pS])
     iterate 6 (refine ⟨?_,?_,?_⟩;rotate_left;· (intro oi ho;simp at ho;subst ho;refine Or.inl ⟨by rfl,fun w' gI=>?_⟩;have e0:=(KEY.out w' gI).2.1;go_simp;try with_reducible rfl))
     refine tk [8] gT ?_
     (intro d hd;simp [tkD] at hd;subst hd;simp only [tks,pQ,pZ,pS])
     (refine ⟨?_,?_,?_⟩;rotate_left;· (intro oi ho;simp at ho;subst ho;refine Or.inl ⟨by rfl,fun w' gI=>?_⟩;have e0:=(KEY.out w' gI).2.2;go_simp;try with_reducible rfl))
     refine tk [9,10] gT ?_
     (intro d hd;simp [tkD] at hd;subst hd;simp only [tks,pQ,pZ,pS])
     iterate 2 (refine ⟨?_,?_,?_⟩;rotate_left;· (intro oi ho;simp at ho;subst ho;refine Or.inl ⟨by rfl,fun w' gI=>?_⟩;have e0:=(KEY.out w' gI).1;have e1:=(KEY.out w' gI).2.1;go_simp;try with_reducible rfl))
     (refine on 11 ?_;intro o ho K' hK;simp at ho;subst ho;go_simp)
     go_at_call 115
     (with_reducible refine (CV.out _ gT).mono ?_)
     rintro en mW ⟨rfl,f9⟩
     have eF:Below wr.heap.size wr mW:=zzT gT f9
     (refine hK.out _ _ (fun _=>eF) ?_;clear hK K';try simp only [pQ,pN,pZ,pS])
     have lF:=eF
     refine tk [12,13] lF ?_
     (intro d hd;simp [tkD] at hd;subst hd;simp only [tks,pQ,pZ,pS])
     iterate 2 (refine ⟨?_,?_,?_⟩;rotate_left;· (intro oi ho;simp at ho;subst ho;refine Or.inl ⟨by rfl,fun w' gI=>?_⟩;go_simp;try with_reducible rfl))
     refine zo (by kernel_rfl) (NoPanic.normal ?_) _
     have l9:=gZ eF
     clear KEY CV CB PLR gT eF lF f9
     cases cn with
     | true =>
       have gN:(z != pe)=false:=by rw [bne,<- VK];rfl
       clear VK
       have E:=gZ (show j9 (wC v) (k+1)=true by rw [j9,HV.out.2.1,HV.out.1];rfl)
       go_wp2_with fail
       go_roundw
       case rel=>exact ⟨_,k+1,rfl,by omega,by go_num,E.out,zzT HB.out.1 l9.out⟩
       case measure=>simp [intOf];omega
     | false =>
       have gN:(z != pe)=true:=by rw [bne,<- VK];rfl
       clear VK
       have E:=gZ (show brP v=false from allP_no HV.out.1 HV.out.2.2)
       go_wp2_with fail
       go_ret
       exact ⟨by rw [E.out];rfl,zzT HB.out.2 l9.out⟩
  ·obtain rfl:k=v.length:=by omega
   have E:=gZ (show brP v=true from hH)
   clear hH
   go_wp2_with fail
   go_ret
   exact ⟨by rw [E.out];rfl,HB.out.2⟩
set_option maxRecDepth 100000 in
theorem legal_any (F:Nat->Prop) (t:Ty) (v:Pl) (mv pt:Value) (w:World) (h:xp F t v mv pt w) :
 Calls Tryz.prog 44 #[.agg #[mv,pt]] w fun en w'=>en=.returned (.bool (qm v))/\Below w.heap.size w w':=by
 obtain ⟨ma,mc,rfl,cF⟩:=h.m.cells
 obtain ⟨pa,pc,rfl,br⟩:=h.p.cells
 obtain ⟨W,hW,gG,hz,b0⟩:=qC w (.cells #[.slice ma v.length mc,.slice pa v.length pc] 33)
 have C1:=gZ (visible_any F t v _ _ W (h.below gG))
 have C2:=gZ (fun (y:World) (hy:Below W.heap.size W y)=>bracketed_any F t v _ _ y ((h.below gG).below hy))
 have HL:Hid (qm v=(visP v && brP v)):=gZ rfl
 have HW:=gZ (gK hW (gK gG b0))
 generalize visP v=b1 at *
 generalize brP v=b2 at *
 obtain ⟨c0,c1,_,_⟩:=zT b0
 clear h cF br hz b0 gG hW
 go_enter Tryz.func44,Tryz.ntmps44
 go_upto_region 1 with (fail)
 rw [HW.out.1]
 go_wp2_with fail
 (with_reducible refine C1.out.mono ?_)
 rintro en w1 ⟨rfl,gW⟩
 cases b1 with
 | false =>
   have HB:=gZ (zzT HW.out.2.1 gW)
   clear gW c0 c1
   go_wp2_with fail
   go_ret
   exact ⟨by rw [HL.out];rfl,HB.out⟩
 | true =>
   have d0:=(gW.cell (gJ _ _ c0)).trans c0
   have d1:=(gW.cell (gJ _ _ c1)).trans c1
   have C2':=gZ (C2.out w1 gW)
   have HB:=gZ (zzT HW.out.2.1 gW)
   clear gW c0 c1 C2
   go_wp2_with fail
   (with_reducible refine C2'.out.mono ?_)
   rintro en w2 ⟨rfl,gP⟩
   have h_:=gZ (zzT HB.out gP)
   clear gP
   go_wp2_with fail
   go_ret
   exact ⟨by rw [HL.out,Bool.true_and];rfl,h_.out⟩
def vJ (s:Bs) (ms:List Bs) (ps:List Int):Bool:=qo s ms ps && qm (ms.zip ps)
theorem playOk_zip {s:Bs} {ms:List Bs} {ps:List Int} (h:qo s ms ps=true):ps.length=ms.length/\zS (zQ s).1 (ms.zip ps)=true/\zY (zQ s).1<=15:=by
 unfold qo jE at h
 simp only [Bool.and_eq_true,decide_eq_true_eq] at h
 obtain ⟨h1,h2,h3,h4⟩:=h
 refine ⟨h3,?_,(uT h1).2⟩
 unfold zS
 rw [h4,Bool.and_true]
 simp only [decide_eq_true_eq]
 rw [List.length_zip];omega
theorem plIn_zip {F:Nat->Prop} {s:Bs} {ms:List Bs} {ps:List Int} {mv pt:Value} {w:World} (hm:vH F w ms mv) (hp:vG F w ps pt) (hl:∀ x∈ms,Lim x.length) (h:qo s ms ps=true):xp F (zQ s).1 (ms.zip ps) mv pt w:=by
 obtain ⟨h1,h2,_⟩:=playOk_zip h
 exact ⟨hm.zip h1,hp.zip h1,h2,fun x hx=>(hl _ (List.of_mem_zip hx).1).le⟩
set_option maxRecDepth 100000 in
theorem y8 (F:Nat->Prop) (s:Bs) (mv pt:Value) (ms:List Bs) (ps:List Int) (w:World) (hs:Lim s.length) (hm:vH F w ms mv) (hp:vG F w ps pt) (hl:∀ x∈ms,Lim x.length) :
 Calls Tryz.prog 18 #[str s,.agg #[mv,pt]] w fun en w'=>en=.returned (.bool (vJ s ms ps))/\Below w.heap.size w w':=by
 obtain ⟨ma,mc,rfl⟩:=hm.slice
 obtain ⟨pa,pc,rfl⟩:=hp.slice
 obtain ⟨W,hW,gG,hz,b0⟩:=qC w (.cells #[.slice ma ms.length mc,.slice pa ps.length pc] 33)
 obtain ⟨c0,c1,_,_⟩:=zT b0
 have hmW:=hm.below gG (fun _ h=>h)
 have hpW:=hp.below gG (fun _ h=>h)
 have C1:=gZ (y7 F s _ _ ms ps W hs hmW hpW hl)
 have C2:=gZ (fun (y:World) (hy:Below W.heap.size W y) (h:qo s ms ps=true)=>legal_any F _ _ _ _ y ((plIn_zip hmW hpW hl h).below hy))
 have HL:Hid (vJ s ms ps=(qo s ms ps && qm (ms.zip ps))):=gZ rfl
 have HW:=gZ (gK hW (gK gG b0))
 generalize qo s ms ps=b1 at *
 generalize qm (ms.zip ps)=b2 at *
 clear hm hp hz b0 gG hW hmW hpW hl hs
 go_enter Tryz.func18,Tryz.ntmps18
 go_upto_region 1 with (fail)
 rw [HW.out.1]
 go_wp2_with fail
 (with_reducible refine C1.out.mono ?_)
 rintro en w1 ⟨rfl,gW⟩
 cases b1 with
 | false =>
   have HB:=gZ (zzT HW.out.2.1 gW)
   clear gW c0 c1
   go_wp2_with fail
   go_ret
   exact ⟨by rw [HL.out];rfl,HB.out⟩
 | true =>
   have d0:=(gW.cell (gJ _ _ c0)).trans c0
   have d1:=(gW.cell (gJ _ _ c1)).trans c1
   have C2':=gZ (C2.out w1 gW rfl)
   have HB:=gZ (zzT HW.out.2.1 gW)
   clear gW c0 c1 C2
   go_wp2_with fail
   (with_reducible refine C2'.out.mono ?_)
   rintro en w2 ⟨rfl,gP⟩
   have h_:=gZ (zzT HB.out gP)
   clear gP
   go_wp2_with fail
   go_ret
   exact ⟨by rw [HL.out,Bool.true_and];rfl,h_.out⟩

def uB (F:Nat->Prop) (w:World) (s:St) (bv lsl:Value):Prop:=Rep F w (ke s.1) bv/\qi F w s.2.1 lsl
theorem uB.keep {F F':Nat->Prop} {w w':World} {s:St} {bv lsl:Value} (h:uB F w s bv lsl) (hk:∀ b o,F b->w.heap[b]? = some o->F' b/\w'.heap[b]? = some o):uB F' w' s bv lsl:=⟨(Rep.keep hk).1 _ _ h.1,(Rep.keep hk).1 _ _ h.2⟩
def BehS (s':St) (F:Nat->Prop) (w:World) (en:Ending) (w':World):Prop :=
 ∃ ba la lc,en=.returned (.agg #[.pointer (some ⟨ba,0,none⟩),.slice la s'.2.1.length lc,.int .i64 (s'.2.2.1:Nat),str s'.2.2.2])/\Below w.heap.size w w'/\uB F w' s' (.pointer (some ⟨ba,0,none⟩)) (.slice la s'.2.1.length lc)
theorem behind_step {t:Ty} {hand:List Ty} {s:St} {l:Nat} {ss:List Bd} {y n:Bd} {a:Ty} {pl:zO} {c:UInt8} {p:Bs} {z:Nat} (k:Nat) (F:Nat->Prop) (bv kv lsl:Value) (w:World)
 (hd:StepD t hand s l ss y n a pl c p) (hs:yU t hand s z) (gA:zY t<=15) (hz:z<=100) (hg:qE w) (hk:Rep F w (qS t) kv) (hr:uB F w s bv lsl) (hF:∀ b,w.heap.size<=b->F b) :
 ∃ s',vL t s (c::p) k=some s'/\Calls Tryz.prog 104 #[.agg #[bv,lsl,.int .i64 (s.2.2.1:Nat),str s.2.2.2],kv,str (c::p),.int .i64 (k:Nat)] w (BehS s' F w):=by
 have rV:=qy _ _ _ hd.hat
 have cm:=qY a
 have cp:=hs.ll
 have gC:=hd.len
 obtain ⟨b,lv,bg⟩:=s
 have dq:b=.ask l ss y n:=hd.body
 subst dq
 obtain ⟨hb,gj⟩:=hr
 have be:qi F w lv lsl:=gj
 have gu:Rep F w (ke (.ask l ss y n)) bv:=hb
 have hll':lv.length<=8*z:=cp
 unfold vL
 simp only
 rcases hd.mv with ⟨rfl,j,aj,sb,hp,hj,tq,eL,hat,iC⟩ | ⟨hc,hp⟩
 ·rw [if_pos rfl,iC,eL]
  have e0:q_ t p=aj.args.length:=by unfold q_;rw [hat]
  have e1:=qy _ _ _ hat
  have mw:0<p.length:=by rw [hp,List.length_append];simp
  refine ⟨_,rfl,(behind_q F t aj l j ss sb y n bv kv lsl lv bg p k w hg gu hk be gA eL hj mw (by omega) ?_ hat (by omega) (by omega)).mono ?_⟩
  ·subst hp;simp
  ·rintro en w' ⟨ba,la,lc,rfl,c_,rb,rl⟩
   refine ⟨ba,la,lc,?_,c_,Rep.below c_ (fun _ h=>h) rb,?_⟩
   ·show _=Ending.returned (.agg #[_,.slice la (lv++zq (q_ t p) k p).length lc,_,_])
    rw [e0]
   ·show qi F w' (lv++zq (q_ t p) k p) (.slice la (lv++zq (q_ t p) k p).length lc)
    rw [e0]
    exact (Rep.keep fun i o hi ho=>⟨hF i hi,ho⟩).1 _ _ rl
 ·have eP:¬ c=113:=by rcases hc with h | h <;> rw [h] <;> decide
  rw [if_neg eP]
  obtain ⟨la,lc,rfl,_⟩:=be.open
  obtain ⟨kb,ks,rfl,_⟩:=zR hk
  refine ⟨_,rfl,(behind_ans c hc F l ss y n bv (.pointer (some ⟨kb,0,none⟩)) la lv.length lc bg (c::p) k w gu (by simp) rfl ⟨_,rfl⟩).mono ?_⟩
  rintro en w' ⟨ba,rfl,c_,rb⟩
  refine ⟨ba,la,lc,rfl,c_,?_,Rep.below c_ (fun _ h=>h) be⟩
  show Rep F w' (ke (if c=102 then n else y)) _
  have:(if c=102 then n else y)=(if c=116 then y else n):=by rcases hc with h | h <;> rw [h] <;> rfl
  rw [this]
  exact Rep.below c_ (fun _ h=>h) rb
theorem behind_step2 {t:Ty} {hand:List Ty} {s s':St} {l:Nat} {ss:List Bd} {y n:Bd} {a:Ty} {pl:zO} {c:UInt8} {p:Bs} {z k:Nat} (dp:vL t s (c::p) k=some s') (F:Nat->Prop) (bv kv lsl:Value) (w:World)
 (hd:StepD t hand s l ss y n a pl c p) (hs:yU t hand s z) (gA:zY t<=15) (hz:z<=100) (hg:qE w) (hk:Rep F w (qS t) kv) (hr:uB F w s bv lsl) (hF:∀ b,w.heap.size<=b->F b) :
 Calls Tryz.prog 104 #[.agg #[bv,lsl,.int .i64 (s.2.2.1:Nat),str s.2.2.2],kv,str (c::p),.int .i64 (k:Nat)] w (BehS s' F w):=by
 obtain ⟨s2,h2,h3⟩:=behind_step k F bv kv lsl w hd hs gA hz hg hk hr hF
 rw [dp] at h2
 obtain rfl:=Option.some.inj h2
 exact h3
def StandQ (s:St) (w:World) (en:Ending) (w':World):Prop :=
 ∃ bv lsl,en=.returned (.agg #[bv,lsl,.int .i64 (s.2.2.1:Nat),str s.2.2.2])/\Below w.heap.size w w'/\uB (fun _=>True) w' s bv lsl
set_option maxRecDepth 100000 in
theorem xt (F:Nat->Prop) (t:Ty) (b:Bd) (v:Pl) (k n:Nat) (hnk:n=k+1) (s0:St) (kv bv mv pt:Value) (w:World) (hg:qE w) (hk:Rep F w (qS t) kv) (hb:Rep F w (ke b) bv) (hm:xp F t v mv pt w)
 (gA:zY t<=15) (hf:zm t.args b) (hw:wfB b) (me:k<v.length) (fW:k % 2=0) (bi:zi t b v k) (bT:qZ t b v (k+1)=some s0) :
 Calls Tryz.prog 66 #[kv,bv,.agg #[mv,pt],.int .i64 (n:Nat)] w (StandQ s0 w):=by
 have du:=qD hm.ok
 have VC:=gZ (view_chain hm.ok k me fW)
 have PF:=gZ (fun e (he:e<=k) (ft:e % 2=0)=>yB gA hf hw hm.ok e (by omega) ft (fun i hi h=>bi i (by omega) h))
 have FO:=gZ (gK bi bT)
 have FIT:=gZ (yP (b:=b) gA hf hw)
 have gq:0<n:=by omega
 have bR:n<=v.length:=by omega
 have HK:=gZ hnk;clear hnk
 obtain ⟨ba,rfl⟩:=kV hb
 obtain ⟨kb,ks,rfl,_⟩:=zR hk
 obtain ⟨ma,mc,rfl,cF⟩:=hm.m.cells
 obtain ⟨pa,pc,rfl,br⟩:=hm.p.cells
 obtain ⟨W,hW,gG,hz,b0,b1⟩:=uV w (.cells #[.slice ma v.length mc,.slice pa v.length pc] 33) (.cells #[.pointer none,.slice none 0 0,.int .i64 0,str []] 117)
 obtain ⟨c0,c1,_,_⟩:=zT b0
 have CV:=gZ (view_any F t v false n _ _ W (hm.below gG).m (hm.below gG).p hm.ok gq bR hm.l)
 have HI:=gZ (gK hg (gK hk (gK hb (gK cF (gK gA (gK hm.ok hm))))))
 have HW:=gZ (gK hW (gK gG (gK hz (gK b0 b1))))
 clear hW gG hz b0 b1 hg hk hb hm gA cF br hf hw bi bT
 go_enter Tryz.func66,Tryz.ntmps66
 go_upto_region 1 with (fail)
 rw [HW.out.1]
 go_wp2_with fail
 (with_reducible refine CV.out.mono ?_)
 rintro en w2 ⟨vv,rfl,gP,cr⟩
 rw [HK.out] at cr
 generalize fM:qM v false (k+1)=vw at *
 obtain ⟨vb,vo,vc,rfl,eN,hvc⟩:=cr
 obtain ⟨z0,rz⟩:∃ z0:Nat,z0=0:=⟨_,rfl⟩
 have h0:w2.cell? ⟨vb,vo,none⟩=some (.int .i64 (z0:Nat)):=by rw [rz];exact hvc 0 0 VC.out.zero
 have HZ:=gZ rz
 have hvp:0<vw.length:=(List.getElem?_eq_some_iff.1 VC.out.zero).1
 have hvpI:(0:Int)<(vw.length:Int):=by omega
 have eX:=(HI.out.1.below HW.out.2.1).below gP
 have dy:=(HI.out.2.1.below HW.out.2.1 (fun _ h=>h)).below gP (fun _ h=>h)
 have CS:=gZ (standOf_any F t (.pointer (some ⟨kb,0,none⟩)) (.pointer (some ⟨ba,0,none⟩)) z0 w2 eX dy HI.out.2.2.2.2.1 ⟨_,rfl⟩)
 have H2:=gZ (gK gP (gK eN hvc))
 clear rz eX dy gP eN hvc c0 c1 CV fM
 go_wp2_with fail
 (with_reducible refine CS.out.mono ?_)
 rintro en w3 ⟨la,lc,rfl,gF,gj⟩
 clear h0 CS
 obtain ⟨Y,hY,tI,hzY,y0⟩:=qC w3 (.cells #[.pointer (some ⟨ba,0,none⟩),.slice la (zq t.args.length z0 []).length lc,.int .i64 (z0:Nat),str []] 117)
 have bw:=HW.out.2.2.1
 have g7:=H2.out.1.size
 have bS:=gF.size
 have sS:Below w2.heap.size w2 Y:=zzT gF tI
 have sM:Below W.heap.size W Y:=zzT H2.out.1 sS
 have sF:Below w.heap.size w Y:=zzT HW.out.2.1 sM
 have HST:=gZ (show uB (fun g=>g≠w3.heap.size/\g≠w.heap.size+1) Y (wh t b) (.pointer (some ⟨ba,0,none⟩)) (.slice la (zq t.args.length z0 []).length lc) by
  constructor
  ·refine (Rep.keep fun i o _ ho=>⟨?_,?_⟩).1 _ _ HI.out.2.2.1
   ·have:=zZ ho;omega
   ·rw [sF.block _ (zZ ho)];exact ho
  ·rw [HZ.out] at gj ⊢
   refine (Rep.keep fun i o hi ho=>⟨?_,?_⟩).1 _ _ gj
   ·have:=zZ ho
    have h9:w2.heap.size<=i:=hi
    omega
   ·rw [tI.block _ (zZ ho)];exact ho)
 have HY:=gZ (gK hY (gK sF (gK sM (gK sS (gK y0 hzY)))))
 have fH:=gZ (gK bw (gK g7 bS))
 clear hY tI hzY y0 bw g7 bS sS sM sF gj gF
 go_wp2_with fail
 rw [HY.out.1]
 generalize eL:w3.heap.size=sb at *
 go_loopw [11] (fun i wr=>∃ (wz:World) (j e:Nat) (s:St) (hand:List Ty) (xv lsl:Value),wz=wr/\i=.int .i64 ((2*j+2:Nat):Int)/\vw[2*j]? = some e/\qZ t b v (e+1)=some s/\yU t hand s (e+1)/\wz.heap[sb]? = some (.cells #[xv,lsl,.int .i64 (s.2.2.1:Nat),str s.2.2.2] 117 (0,0))/\uB (fun g=>g≠sb/\g≠w.heap.size+1) wz s xv lsl/\But (fun g=>g=sb) Y wz) (fun i _=>vw.length+2-(intOf i).toNat)
 case atStart =>
  refine ⟨_,0,0,wh t b,t.args,_,_,rfl,rfl,VC.out.zero,vE t b v,?_,?_,HST.out,But.refl _ _⟩
  ·exact FIT.out
  ·have rz:=HZ.out
   subst rz
   exact HY.out.2.2.2.2.1
 case round =>
  obtain ⟨wr,j,e,s,hand,xv,lsl,rfl,rfl,tY,gO,g_,eo,dp,hB⟩:=hrel
  obtain ⟨xa,rfl⟩:=kV dp.1
  obtain ⟨lsa,lsc,rfl,_⟩:=qi.open dp.2
  obtain ⟨q0,q1,q2,q3⟩:=zc eo
  have hsbY:sb<Y.heap.size:=zZ HY.out.2.2.2.2.1
  have hek:=VC.out.all _ _ tY
  have hjv:=(List.getElem?_eq_some_iff.1 tY).1
  have gh:=VC.out.len
  obtain ⟨i2,fd⟩:=zzM (2*j+2)
  rw [<- fd]
  have tJ:Below w.heap.size w wr:=HY.out.2.1.trans (hB.toBelow (by have:=HY.out.2.1.size;omega) fun i hi e1=>by have h1:=fH.out;omega)
  have HB:=gZ (gK hB tJ)
  have nD:=gZ (gK dp (gK eo (gK g_ gO)))
  clear hB tJ dp eo
  by_cases gH:i2<vw.length
  ·have bH:(i2:Int)<(vw.length:Int):=by omega
   obtain ⟨e1,e',c,p,h1,h2,h3,h4,h5,h6,h7⟩:=VC.out.step j (by omega)
   obtain rfl:e1=e:=Option.some.inj (h1.symm.trans tY)
   have hr:=FO.out.1 (e1+1) (by have:=h6.lt;omega) h6.odd
   obtain ⟨x,hx,mP⟩:=h6.en
   unfold kt at hr
   rw [gO,Option.bind_some,hx] at hr
   obtain ⟨l,ss,y,nn,a,pl,hd⟩:=xF HI.out.2.2.2.2.1 g_ h7 h4 mP hr
   obtain ⟨s',cD,ge,g7⟩:=hd.next (k:=e') g_ (by have:=h6.lt;omega) (by omega) HI.out.2.2.2.2.1
   have aI:qZ t b v (e'+1)=some s':=by rw [vi HI.out.2.2.2.2.2.1 b (by omega) h4 h6,gO,Option.bind_some,ge]
   have he'v:(e':Int)<(v.length:Int):=by omega
   obtain ⟨mb,mo,rfl,_,cw,cU⟩:=HI.out.2.2.2.1 e' _ h6.at'
   have CB:=gZ (fun (y:World) (hy:Below wr.heap.size wr y)=>behind_step2 ge (fun g=>g≠sb/\g≠w.heap.size+1) (.pointer (some ⟨xa,0,none⟩)) (.pointer (some ⟨kb,0,none⟩)) (.slice lsa s.2.1.length lsc) y hd g_ HI.out.2.2.2.2.1 (by omega) ((HI.out.1.below HB.out.2).below hy)
    ((Rep.keep fun i o _ ho=>⟨by have:=zZ ho;have h1:=fH.out;omega,by rw [hy.block i (by have:=zZ ho;have:=HB.out.2.size;omega),HB.out.2.block i (zZ ho)];exact ho⟩).1 _ _ HI.out.2.1)
    (nD.out.1.keep fun i o hi ho=>⟨hi,by rw [hy.block i (zZ ho)];exact ho⟩) (fun i hi=>by have h9:wr.heap.size<=i:=gX hy.size hi;have h1:=fH.out;have h2:=HB.out.1.size;omega))
   have HN:=gZ (gK aI (gK g7 (gK (show vw[2*(j+1)]? = some e' from h2) (show i2+2=2*(j+1)+2 by omega))))
   obtain ⟨M,hM⟩:=zzM (c::p)
   rw [<- hM] at CB cU
   have KEY:=gZ (fun (y:World) (hy:Below wr.heap.size wr y)=>(show (y.cell? ⟨sb,0,none⟩=some (.pointer (some ⟨xa,0,none⟩))/\y.cell? ⟨sb,1,none⟩=some (.slice lsa s.2.1.length lsc)/\y.cell? ⟨sb,2,none⟩=some (.int .i64 (s.2.2.1:Nat))/\y.cell? ⟨sb,3,none⟩=some (str s.2.2.2))/\y.cell? ⟨w.heap.size,0,none⟩=some (.slice (some ⟨mb,mo,none⟩) v.length mc)/\y.cell? ⟨vb,vo+i2,none⟩=some (.int .i64 (e':Nat))/\y.cell? ⟨mb,mo+e',none⟩=some (str M) from by
    have hk:∀ (a:Addr) (u:Value),wr.cell? a=some u->y.cell? a=some u:=fun a u h=>(hy.cell (gJ _ _ h)).trans h
    have hwk:∀ (a:Addr) (u:Value),w.cell? a=some u->y.cell? a=some u:=fun a u h=>hk a u ((HB.out.2.cell (gJ _ _ h)).trans h)
    obtain ⟨k0,_⟩:=zT HW.out.2.2.2.1
    have hY0:∀ (a:Addr) (u:Value),a.block≠sb->a.block<Y.heap.size->Y.cell? a=some u->y.cell? a=some u:=fun a u gN hl h=>hk a u ((HB.out.1.cell hl gN).trans h)
    have h1:=fH.out
    refine ⟨⟨hk _ _ q0,hk _ _ q1,hk _ _ q2,hk _ _ q3⟩,hY0 _ _ (by show w.heap.size≠sb;omega) (by show w.heap.size<_;omega) ((HY.out.2.2.1.cell (gJ _ _ k0)).trans k0),?_,hwk _ _ cU⟩
    have hvi:vw[i2]? = some e':=by rw [fd];exact h2
    exact hY0 _ _ (by show vb≠sb;have:=H2.out.2.1;omega) (by show vb<_;have:=H2.out.2.1;omega) ((HY.out.2.2.2.1.cell (p:=⟨vb,vo+i2,none⟩) H2.out.2.1).trans (H2.out.2.2 i2 e' hvi))))
   have tV:IntKind.i64.wrap ((i2:Int)+2)=((i2+2:Nat):Int):=by rw [vT _ (by omega) (by omega)];omega
   clear q0 q1 q2 q3 hr hx mP hd ge g7 aI h1 h2 h3 h4 h5 h6 h7 cw cU tY gO g_ fd hM hek hjv gh
   go_upto_region 6 with (fail)
   refine wp_region_noPanic ?_
   refine zl (fun w'=>Below wr.heap.size wr w') (fun i=>i=15) (by kernel_rfl) ?_
   have gT:(fun w'=>Below wr.heap.size wr w') wr.drew:=Below.drew (gV _ _)
   refine tk [0,1,2] gT ?_
   (intro d hd;simp [tkD] at hd;subst hd;simp only [tks,pQ,pZ,pS])
   iterate 3 (refine ⟨?_,?_,?_⟩;rotate_left;· (intro oi ho;simp at ho;subst ho;refine Or.inl ⟨by rfl,fun w' gI=>?_⟩;obtain ⟨e0,e1,e2,e3⟩:=(KEY.out w' gI).1;go_simp;try with_reducible rfl))
   refine tk [3,4,5,6] gT ?_
   (intro d hd;simp [tkD] at hd;subst hd;simp only [tks,pQ,pZ,pS])
   iterate 4 (refine ⟨?_,?_,?_⟩;rotate_left;· (intro oi ho;simp at ho;subst ho;refine Or.inl ⟨by rfl,fun w' gI=>?_⟩;have e0:=(KEY.out w' gI).2.1;go_simp;try with_reducible rfl))
   refine tk [7,8] gT ?_
   (intro d hd;simp [tkD] at hd;subst hd;simp only [tks,pQ,pZ,pS])
   iterate 2 (refine ⟨?_,?_,?_⟩;rotate_left;· (intro oi ho;simp at ho;subst ho;refine Or.inl ⟨by rfl,fun w' gI=>?_⟩;have e0:=(KEY.out w' gI).2.2.1;go_simp;try with_reducible rfl))
   refine tk [9,10,11,12] gT ?_
   (intro d hd;simp [tkD] at hd;subst hd;simp only [tks,pQ,pZ,pS])
   iterate 4 (refine ⟨?_,?_,?_⟩;rotate_left;· (intro oi ho;simp at ho;subst ho;refine Or.inl ⟨by rfl,fun w' gI=>?_⟩;have e0:=(KEY.out w' gI).2.2.2;go_simp;try with_reducible rfl))
   refine tk [13] gT ?_
   (intro d hd;simp [tkD] at hd;subst hd;simp only [tks,pQ,pZ,pS])
   (refine ⟨?_,?_,?_⟩;rotate_left;· (intro oi ho;simp at ho;subst ho;refine Or.inl ⟨by rfl,fun w' gI=>?_⟩;have e0:=(KEY.out w' gI).2.2.1;go_simp;try with_reducible rfl))
   (refine on 14 ?_;intro o ho K' hK;simp at ho;subst ho;go_simp)
   go_at_call 104
   (with_reducible refine (CB.out _ gT).mono ?_)
   rintro en tl ⟨b2,l2,c2,rfl,lZ,aL⟩
   have mV:Below wr.heap.size wr tl:=zzT gT lZ
   have xx:=(mV.block _ (zZ nD.out.2.1)).trans nD.out.2.1
   (refine hK.out _ _ (fun _=>mV) ?_;clear hK K';try simp only [pQ,pN,pZ,pS])
   have nV:=mV
   (refine on 15 ?_;intro o ho K' hK;simp at ho;subst ho)
   have f0:=zu xx 0;have f1:=zu xx 1;have f2:=zu xx 2;have f3:=zu xx 3
   obtain ⟨e0,e1,e2,e3⟩:=zc xx
   go_simp
   (refine hK.out _ _ (fun h=>by simp at h) ?_;clear hK K';try simp only [pQ,pN,pZ,pS])
   refine zo (by kernel_rfl) (NoPanic.normal ?_) _
   obtain ⟨W10,mZ⟩:=zzN (((((tl.setCell ⟨sb,0,none⟩ (.pointer (some ⟨b2,0,none⟩))).setCell ⟨sb,1,none⟩ (.slice l2 s'.2.1.length c2)).setCell ⟨sb,2,none⟩ (.int .i64 (s'.2.2.1:Nat))).setCell ⟨sb,3,none⟩ (str s'.2.2.2)))
   rw [mZ]
   have rK:W10.heap[sb]? = some (.cells #[.pointer (some ⟨b2,0,none⟩),.slice l2 s'.2.1.length c2,.int .i64 (s'.2.2.1:Nat),str s'.2.2.2] 117 (0,0)):=by rw [<- mZ];exact vO xx _ _ _ _
   have dr:∀ g,g≠sb->W10.heap[g]? = tl.heap[g]?:=fun g hg=>by
    rw [<- mZ,gU _ _ _ _ (by show g≠sb;exact hg),gU _ _ _ _ (by show g≠sb;exact hg),gU _ _ _ _ (by show g≠sb;exact hg),gU _ _ _ _ (by show g≠sb;exact hg)]
   have lA:But (fun g=>g=sb) Y W10:=by
    rw [<- mZ]
    exact ((((HB.out.1.trans (But.ofBelow mV)).setCell (p:=⟨sb,0,none⟩) (.inl rfl) _).setCell (p:=⟨sb,1,none⟩) (.inl rfl) _).setCell (p:=⟨sb,2,none⟩) (.inl rfl) _).setCell (p:=⟨sb,3,none⟩) (.inl rfl) _
   have H10:=gZ (gK rK (gK lA (aL.keep (F':=fun g=>g≠sb/\g≠w.heap.size+1) (w':=W10) fun i o hi ho=>⟨hi,by rw [dr i hi.1];exact ho⟩)))
   clear rK dr lA aL mZ xx mV lZ nV gT KEY CB
   go_wp2_with fail
   go_roundw
   case rel=>exact ⟨_,j+1,e',s',cD,_,_,rfl,by rw [<- HN.out.2.2.2];rfl,HN.out.2.2.1,HN.out.1,HN.out.2.1,H10.out.1,H10.out.2.2,H10.out.2.1⟩
   case measure=>simp [intOf];omega
  ·have bH:¬ (i2:Int)<(vw.length:Int):=by omega
   have co:=VC.out.odd
   have ch:=VC.out.last
   have h1:=fH.out
   rw [show vw.length-1=2*j from by omega,tY] at ch
   obtain rfl:=Option.some.inj ch
   obtain rfl:s=s0:=Option.some.inj (gO.symm.trans FO.out.2)
   have b1:wr.heap[w.heap.size+1]? = some (.cells #[.pointer none,.slice none 0 0,.int .i64 0,str []] 117 (0,0)):=by
    rw [HB.out.1.block _ (by omega) (by omega),HY.out.2.2.1.block _ (by omega)];exact HW.out.2.2.2.2
   have f0:=zu b1 0;have f1:=zu b1 1;have f2:=zu b1 2;have f3:=zu b1 3
   obtain ⟨z0',z1',z2',z3'⟩:=zc b1
   have HS:=gZ (gK b1 h1)
   clear tY gO g_ hek gh ch co b1 h1 hjv
   go_wp2_with fail
   have hV:=vO HS.out.1 (.pointer (some ⟨xa,0,none⟩)) (.slice lsa s.2.1.length lsc) (.int .i64 (s.2.2.1:Nat)) (str s.2.2.2)
   obtain ⟨s0',s1',s2',s3'⟩:=zc hV
   have dr:∀ g,g≠w.heap.size+1->((((wr.setCell ⟨w.heap.size+1,0,none⟩ (.pointer (some ⟨xa,0,none⟩))).setCell ⟨w.heap.size+1,1,none⟩ (.slice lsa s.2.1.length lsc)).setCell ⟨w.heap.size+1,2,none⟩ (.int .i64 (s.2.2.1:Nat))).setCell ⟨w.heap.size+1,3,none⟩ (str s.2.2.2)).heap[g]? = wr.heap[g]?:=fun g hg=>by
    rw [gU _ _ _ _ (by show g≠w.heap.size+1;exact hg),gU _ _ _ _ (by show g≠w.heap.size+1;exact hg),gU _ _ _ _ (by show g≠w.heap.size+1;exact hg),gU _ _ _ _ (by show g≠w.heap.size+1;exact hg)]
   have bz:=(((HB.out.2.setCell (p:=⟨w.heap.size+1,0,none⟩) (Nat.le_succ _) (.pointer (some ⟨xa,0,none⟩))).setCell (p:=⟨w.heap.size+1,1,none⟩) (Nat.le_succ _) (.slice lsa s.2.1.length lsc)).setCell (p:=⟨w.heap.size+1,2,none⟩) (Nat.le_succ _) (.int .i64 (s.2.2.1:Nat))).setCell (p:=⟨w.heap.size+1,3,none⟩) (Nat.le_succ _) (str s.2.2.2)
   refine bodyPost_ret (v:=.agg #[(.pointer (some ⟨xa,0,none⟩)),(.slice lsa s.2.1.length lsc),.int .i64 (s.2.2.1:Nat),str s.2.2.2]) (by simp [results,Tryz.results66,go_sem,s0',s1',s2',s3']) rfl ?_
   exact ⟨_,_,rfl,bz,nD.out.1.keep fun i o hi ho=>⟨trivial,by rw [dr i hi.2];exact ho⟩⟩
set_option maxRecDepth 100000 in
theorem tells_u (F:Nat->Prop) (bv lsl:Value) (bg:zO) (w:World) (hb:Rep F w (ke (.leaf 117)) bv) :
 Calls Tryz.prog 67 #[.agg #[bv,lsl,.int .i64 (bg.1:Nat),str bg.2]] w fun en w'=>en=.returned (.tuple #[str [],.int .i64 (-1)])/\Below w.heap.size w w':=by
 have C:=gZ (fun wz (h:Below w.heap.size w wz)=>vY F wz 117 bv (hb.below h (fun _ h=>h)))
 obtain ⟨b,sl,rfl,_,hc,_⟩:=um hb
 obtain ⟨W,hW,gG,hz,bx⟩:=qC w (.cells #[.pointer (some ⟨b,0,none⟩),lsl,.int .i64 (bg.1:Nat),str bg.2] 117)
 have CW:=gZ (C.out W gG)
 obtain ⟨e0,e1,e2,e3⟩:=zc bx
 have c1:W.cell? ⟨b,0,none⟩=some (.string ⟨#[117]⟩):=(gG.cell (by exact zZ hc)).trans (by simp [World.cell?,hc])
 have HW:=gZ (gK hW gG)
 clear hW gG hz bx hc hb C e1
 go_enter Tryz.func67,Tryz.ntmps67
 go_upto_region 1 with (fail)
 rw [HW.out.1]
 go_wp2_with fail
 (with_reducible refine CW.out.mono ?_)
 rintro en w1 ⟨rfl,ew⟩
 subst ew
 go_wp2_with fail
 go_ret2
 exact ⟨rfl,HW.out.2⟩
def je (s:St):Bs×Int:=(jm s).getD ([],-1)
theorem tells_any {t:Ty} {hand:List Ty} {s:St} {n:Nat} (F:Nat->Prop) (bv lsl:Value) (w:World) (hs:yU t hand s n) (gA:zY t<=15) (hn:n<=100) (hr:uB F w s bv lsl) :
 Calls Tryz.prog 67 #[.agg #[bv,lsl,.int .i64 (s.2.2.1:Nat),str s.2.2.2]] w fun en w'=>en=.returned (.tuple #[str (je s).1,.int .i64 (je s).2])/\Below w.heap.size w w':=by
 obtain ⟨ta,hta⟩:=hs.bgt
 have c_:=qy _ _ _ hta
 have cp:=hs.ll
 obtain ⟨b,lv,bg⟩:=s
 cases b with
 | leaf c =>
   by_cases hc:c=117
   ·subst hc;exact tells_u F bv lsl bg w hr.1
   ·refine (tells_leaf F c bv lsl bg w hr.1 hc (by have:bg.2.length<=100:=by { show ((Bd.leaf c,lv,bg):St).2.2.2.length<=100;omega };omega)).mono ?_
    rintro en w' ⟨rfl,hb⟩
    refine ⟨?_,hb⟩
    unfold je jm
    simp only [if_neg hc,Option.getD_some]
 | ask l ss y nn =>
   have hf:=hs.fit
   rw [show ((Bd.ask l ss y nn,lv,bg):St).1=.ask l ss y nn from rfl,zm] at hf
   obtain ⟨a,h1,_⟩:=hf
   obtain ⟨pl,hl,hat,_⟩:=hs.pf.each l a h1
   have bC:lv[l]? = some pl:=hl
   have gO:=qy _ _ _ hat
   have hll':lv.length<=8*n:=cp
   refine (tells_ask F l ss y nn bv lsl lv bg pl w hr.1 hr.2 bC (by omega) (by omega)).mono ?_
   rintro en w' ⟨rfl,hb⟩
   refine ⟨?_,hb⟩
   unfold je jm
   simp only [bC,Option.map_some,Option.getD_some]
theorem tellV_eq {s:St} {c:UInt8} {p:Bs} {z:Int}:jm s=some (c::p,z)↔((je s).1=c::p/\(je s).2=z):=by
 unfold je
 cases h:jm s with
 | none=>simp
 | some x=>obtain ⟨m,y⟩:=x;simp
set_option maxRecDepth 100000 in
theorem follows_any (F:Nat->Prop) (t:Ty) (b:Bd) (v:Pl) (kv bv mv pt:Value) (w:World) (hg:qE w) (hk:Rep F w (qS t) kv) (hb:Rep F w (ke b) bv) (hm:xp F t v mv pt w)
 (gA:zY t<=15) (hf:zm t.args b) (hw:wfB b) :
 Calls Tryz.prog 36 #[kv,bv,.agg #[mv,pt]] w fun en w'=>en=.returned (.bool (decide (zi t b v v.length)))/\Below w.heap.size w w':=by
 have du:=qD hm.ok
 obtain ⟨ba,rfl⟩:=kV hb
 obtain ⟨kb,ks,rfl,_⟩:=zR hk
 obtain ⟨ma,mc,rfl,cF⟩:=hm.m.cells
 obtain ⟨pa,pc,rfl,br⟩:=hm.p.cells
 obtain ⟨W,hW,gG,hz,b0⟩:=qC w (.cells #[.slice ma v.length mc,.slice pa v.length pc] 33)
 obtain ⟨c0,c1,_,_⟩:=zT b0
 have PF:=gZ (fun e (he:e<v.length) (ft:e % 2=0)=>yB gA hf hw hm.ok e he ft)
 have SIN:=gZ (fun (y:World) (hy:Below W.heap.size W y) (k n:Nat) (hnk:n=k+1) (s0:St) (me:k<v.length) (fW:k % 2=0) (bi:zi t b v k) (bT:qZ t b v (k+1)=some s0) =>
  xt F t b v k n hnk s0 _ _ _ _ y ((hg.below gG).below hy) ((hk.below gG fun _ h=>h).below hy fun _ h=>h) ((hb.below gG fun _ h=>h).below hy fun _ h=>h) ((hm.below gG).below hy) gA hf hw me fW bi bT)
 have HH:=gZ (gK cF (gK br (gK gG (gK hm.ok gA))))
 have HW:=gZ hW
 clear hm cF br hz b0 gG hW hg hk hb gA hf hw
 go_enter Tryz.func36,Tryz.ntmps36
 go_upto_region 1 with (fail)
 rw [HW.out]
 go_wp2_with fail
 go_loopw [7] (fun i wr=>∃ (wz:World) (k n:Nat),wz=wr/\n=k+1/\k % 2=0/\k<=v.length+1/\i=.int .i64 (n:Nat)/\zi t b v n/\Below W.heap.size W wz) (fun i _=>v.length+5-(intOf i).toNat)
 case atStart=>exact ⟨_,0,1,rfl,rfl,rfl,by omega,rfl,fun i hi h=>by omega,gV _ _⟩
 case round =>
  obtain ⟨wr,k,n,rfl,hnk,fW,tE,rfl,bi,hB⟩:=hrel
  have d0:=(hB.cell (gJ _ _ c0)).trans c0
  have d1:=(hB.cell (gJ _ _ c1)).trans c1
  clear c0 c1
  have HB:=gZ (gK hB (zzT HH.out.2.2.1 hB))
  clear hB
  by_cases gH:n<v.length
  ·have bH:(n:Int)<(v.length:Int):=by omega
   obtain ⟨x,p,z,gh,gy⟩:=kp HH.out.2.2.2.1 gH
   obtain ⟨mb,mo,rfl,_,cw,cU⟩:=HH.out.1 n _ gh
   obtain ⟨pb,po,rfl,_,cS,cV⟩:=HH.out.2.1 n _ gh
   obtain ⟨s,hand,bT,g_⟩:=PF.out k (by omega) fW (fun i hi h=>bi i (by omega) h)
   have CS:=gZ (SIN.out wr HB.out.1 k n hnk s (by omega) fW (fun i hi h=>bi i (by omega) h) bT)
   have eO:kt t b v n=jm s:=by unfold kt;rw [hnk,bT];rfl
   have HQ:Hid ((je s).1=x::p/\(je s).2=z↔kt t b v n=v[n]?):=gZ (by rw [eO,gh];exact tellV_eq.symm)
   have CT:=gZ (fun (y:World) (xv lv:Value) (hr:uB (fun _=>True) y s xv lv)=>tells_any (fun _=>True) xv lv y g_ HH.out.2.2.2.2 (by omega) hr)
   have KEY:=gZ (fun (y:World) (hy:Below wr.heap.size wr y)=>(show y.cell? ⟨w.heap.size,0,none⟩=some (.slice (some ⟨mb,mo,none⟩) v.length mc)/\y.cell? ⟨w.heap.size,1,none⟩=some (.slice (some ⟨pb,po,none⟩) v.length pc)/\y.cell? ⟨mb,mo+n,none⟩=some (str (x::p))/\y.cell? ⟨pb,po+n,none⟩=some (.int .i64 z) from by
    have hk:∀ (a:Addr) (u:Value),wr.cell? a=some u->y.cell? a=some u:=fun a u h=>(hy.cell (gJ _ _ h)).trans h
    exact ⟨hk _ _ d0,hk _ _ d1,hk _ _ ((HB.out.2.cell (p:=⟨mb,mo+n,none⟩) cw).trans cU),hk _ _ ((HB.out.2.cell (p:=⟨pb,po+n,none⟩) cS).trans cV)⟩))
   have HF:=gZ (gK bi (gK hnk (gK fW (gK tE gH))))
   obtain ⟨M,hM⟩:=zzM (x::p)
   obtain ⟨tm,htm⟩:=zzN ((je s).1)
   obtain ⟨tz,htz⟩:=zzN ((je s).2)
   rw [<- hM] at KEY HQ
   rw [htm,htz] at HQ CT
   clear gh gy cw cU cS cV bT g_ eO bi hnk fW tE hM htm htz SIN PF
   go_wp2_with fail
   (with_reducible refine CS.out.mono ?_)
   rintro en w1 ⟨xv,lv,rfl,gW,gp⟩
   have fK:=gZ (CT.out w1 xv lv gp)
   clear CS CT gp
   go_wp2_with fail
   (with_reducible refine fK.out.mono ?_)
   rintro en w2 ⟨rfl,gP⟩
   have gz:=zzT gW gP
   obtain ⟨e0,e1,m0,p0⟩:=KEY.out w2 gz
   have h_:=gZ (gK (zzT HB.out.1 gz) (zzT HB.out.2 gz))
   have tV:IntKind.i64.wrap ((n:Int)+2)=((n+2:Nat):Int):=by rw [vT _ (by omega) (by omega)];omega
   clear gW gP gz d0 d1 KEY fK
   by_cases hm:tm=M
   ·have hmm:(tm == M)=true:=by simp [hm]
    have hmm2:(tm != M)=false:=by simp [hm]
    by_cases hz:tz=z
    ·have hzz:(tz != z)=false:=by simp [hz]
     have E:=gZ (show zi t b v (n+2) from fun i hi h=>by
      have h1:=HF.out.2.1;have h2:=HF.out.2.2.1
      rcases Nat.lt_or_ge i n with h3 | h3
      ·exact HF.out.1 i h3 h
      ·obtain rfl:i=n:=by omega
       exact HQ.out.1 ⟨hm,hz⟩)
     have HE:=gZ (show n+2=(n+1)+1/\(n+1) % 2=0/\n+1<=v.length+1 by
      have h1:=HF.out.2.1;have h2:=HF.out.2.2.1;have h3:=HF.out.2.2.2.2;omega)
     clear hm hz
     go_wp2_with fail
     go_roundw
     case rel=>exact ⟨_,n+1,n+2,rfl,rfl,HE.out.2.1,HE.out.2.2,rfl,E.out,h_.out.1⟩
     case measure=>simp [intOf];omega
    ·have hzz:(tz != z)=true:=by simp [hz]
     have E:=gZ (show decide (zi t b v v.length)=false by
      rw [decide_eq_false_iff_not]
      intro h
      have h1:=HF.out.2.1;have h2:=HF.out.2.2.1
      exact hz (HQ.out.2 (h n HF.out.2.2.2.2 (by omega))).2)
     clear hm hz
     go_wp2_with fail
     go_ret
     exact ⟨by rw [E.out];rfl,h_.out.2⟩
   ·have hmm:(tm == M)=false:=by simp [hm]
    have hmm2:(tm != M)=true:=by simp [hm]
    have E:=gZ (show decide (zi t b v v.length)=false by
     rw [decide_eq_false_iff_not]
     intro h
     have h1:=HF.out.2.1;have h2:=HF.out.2.2.1
     exact hm (HQ.out.2 (h n HF.out.2.2.2.2 (by omega))).1)
    clear hm
    go_wp2_with fail
    go_ret
    exact ⟨by rw [E.out];rfl,h_.out.2⟩
  ·have bH:¬ (n:Int)<(v.length:Int):=by omega
   have E:=gZ (show decide (zi t b v v.length)=true from decide_eq_true fun i hi h=>bi i (by omega) h)
   clear bi hnk
   go_wp2_with fail
   go_ret
   exact ⟨by rw [E.out];rfl,HB.out.2⟩
def jO (s text:Bs) (ms:List Bs) (ps:List Int):Bool:=match zX s text with
 | none=>false
 | some b=>vJ s ms ps && decide (zi (zQ s).1 b (ms.zip ps) (ms.zip ps).length)
theorem followOk_none {s text:Bs} (h:uD s text=none) (ms:List Bs) (ps:List Int):jO s text ms ps=false:=by
 rw [vm,Option.map_eq_none_iff] at h
 unfold jO;rw [h]
theorem followOk_some {s text:Bs} {t:Ty} {b:Bd} (h:uD s text=some (t,b)) (ms:List Bs) (ps:List Int):jO s text ms ps=(vJ s ms ps && decide (zi t b (ms.zip ps) (ms.zip ps).length))/\t=(zQ s).1/\Good t b:=by
 rw [vm,Option.map_eq_some_iff] at h
 obtain ⟨b',h,e⟩:=h
 simp at e;obtain ⟨rfl,rfl⟩:=e
 refine ⟨?_,rfl,(kN h).1⟩
 unfold jO;rw [h]
theorem legalOk_ok {s:Bs} {ms:List Bs} {ps:List Int} (h:vJ s ms ps=true):qo s ms ps=true:=by
 unfold vJ at h;rw [Bool.and_eq_true] at h;exact h.1
set_option maxRecDepth 100000 in
theorem vk (F:Nat->Prop) (s text:Bs) (mv pt:Value) (ms:List Bs) (ps:List Int) (w:World) (hg:qE w) (hs:Lim s.length) (ht:Lim text.length) (hm:vH F w ms mv) (hp:vG F w ps pt) (hl:∀ x∈ms,Lim x.length) :
 Calls Tryz.prog 12 #[str s,str text,.agg #[mv,pt]] w fun en w'=>en=.returned (.bool (jO s text ms ps))/\Below w.heap.size w w':=by
 obtain ⟨ma,mc,rfl⟩:=hm.slice
 obtain ⟨pa,pc,rfl⟩:=hp.slice
 obtain ⟨W,hW,gG,hz,b0⟩:=qC w (.cells #[.slice ma ms.length mc,.slice pa ps.length pc] 33)
 have C:=gZ (jr s text W (hg.below gG) hs ht)
 have CL:=gZ (fun (y:World) (hy:Below W.heap.size W y)=>y8 F s _ _ ms ps y hs ((hm.below gG fun _ h=>h).below hy fun _ h=>h) ((hp.below gG fun _ h=>h).below hy fun _ h=>h) hl)
 have HP:=gZ (fun (y:World) (hy:Below W.heap.size W y) (h:qo s ms ps=true)=>(plIn_zip (hm.below gG fun _ h=>h) (hp.below gG fun _ h=>h) hl h).below hy)
 have HG:=gZ (fun (y:World) (hy:Below W.heap.size W y)=>(hg.below gG).below hy)
 have HW:=gZ (gK hW (gK gG b0))
 clear hW gG hz b0 hg hs ht hm hp hl
 go_enter Tryz.func12,Tryz.ntmps12
 go_upto_region 1 with (fail)
 rw [HW.out.1]
 go_wp2_with fail
 (with_reducible refine C.out.mono ?_)
 rintro en w1 ⟨kv,bv,rfl,gW,gq,gx⟩
 clear C
 obtain ⟨c0,c1,_,_⟩:=zT HW.out.2.2
 have d0:=(gW.cell (gJ _ _ c0)).trans c0
 have d1:=(gW.cell (gJ _ _ c1)).trans c1
 clear c0 c1
 have HB:=gZ (gK gW (zzT HW.out.2.1 gW))
 cases hq:uD s text with
 | none =>
   obtain rfl:=gq hq
   have E:=gZ (followOk_none hq ms ps)
   clear gq gx hq gW
   go_wp2_with fail
   go_ret
   exact ⟨by rw [E.out];rfl,HB.out.2⟩
 | some tb =>
   obtain ⟨t,b⟩:=tb
   obtain ⟨rk,rb⟩:=gx t b hq
   obtain ⟨E,et,cd⟩:=followOk_some hq ms ps
   obtain ⟨ka,ks,rfl,_⟩:=zR rk
   obtain ⟨ba,rfl⟩:=kV rb
   have E:=gZ E
   have HR:=gZ (gK rk (gK rb (gK et cd)))
   have C1:=gZ (CL.out w1 gW)
   clear gq gx hq gW rk rb et cd CL
   cases tD:vJ s ms ps with
   | false =>
     rw [tD] at E C1
     clear tD
     go_wp2_with fail
     (with_reducible refine C1.out.mono ?_)
     rintro en w2 ⟨rfl,gP⟩
     have h_:=gZ (zzT HB.out.2 gP)
     clear gP d0 d1
     go_wp2_with fail
     go_ret
     exact ⟨by rw [E.out];rfl,h_.out⟩
   | true =>
     rw [tD,Bool.true_and] at E
     rw [tD] at C1
     have HOK:=gZ (legalOk_ok tD)
     clear tD
     go_wp2_with fail
     (with_reducible refine C1.out.mono ?_)
     rintro en w2 ⟨rfl,gP⟩
     have gz:=zzT HB.out.1 gP
     have e0:=(gP.cell (gJ _ _ d0)).trans d0
     have e1:=(gP.cell (gJ _ _ d1)).trans d1
     have gO:=HP.out w2 gz HOK.out
     rw [<- HR.out.2.2.1] at gO
     have C2:=gZ (follows_any (fun _=>True) t b (ms.zip ps) (.pointer (some ⟨ka,0,none⟩)) (.pointer (some ⟨ba,0,none⟩)) _ _ w2 (HG.out w2 gz)
      ((Rep.below gP fun _ _=>trivial) HR.out.1) ((Rep.below gP fun _ _=>trivial) HR.out.2.1) ⟨(Rep.keep fun b o _ ho=>⟨trivial,ho⟩).1 _ _ gO.m,(Rep.keep fun b o _ ho=>⟨trivial,ho⟩).1 _ _ gO.p,gO.ok,gO.l⟩ HR.out.2.2.2.atoms HR.out.2.2.2.fit HR.out.2.2.2.wf)
     have h_:=gZ (zzT HB.out.2 gP)
     obtain ⟨r,hr⟩:=zzN (decide (zi t b (ms.zip ps) (ms.zip ps).length))
     rw [hr] at C2 E
     clear gP d0 d1 gz gO C1 HP HG hr
     go_wp2_with fail
     (with_reducible refine C2.out.mono ?_)
     rintro en w3 ⟨rfl,gF⟩
     have cL:=gZ (zzT h_.out gF)
     clear gF
     go_wp2_with fail
     go_ret
     exact ⟨by rw [E.out];rfl,cL.out⟩
theorem numD_ne {F:Nat->Prop} {w:World} {ns:List Nat} {x:Value} (h:Rep F w (numD ns) x) {g:Nat} {c:Array Value} {T:TypeId} {fr:Nat×Nat} (hb:w.heap[g]? = some (.cells c T fr)) (hT:3≠T):Rep (fun i=>F i/\i≠g) w (numD ns) x:=by
 unfold numD at *
 rw [qB] at *
 obtain ⟨hl,a,cap,hv,hn,hz,h⟩:=h
 refine ⟨hl,a,cap,hv,hn,hz,?_⟩
 rcases h with h | ⟨b,o,cs,fr',ha,hF,hc,hr⟩
 ·exact .inl h
 ·refine .inr ⟨b,o,cs,fr',ha,⟨hF,?_⟩,hc,?_⟩
  ·rintro rfl
   rw [hc] at hb;simp at hb;exact hT hb.2.1
  ·rw [show (ns.map fun n=>DV.val (.int .i64 (n:Nat)))=(ns.map fun n=>Value.int .i64 (n:Nat)).map DV.val from by simp [Function.comp_def]] at *
   exact (qP _ _).2 ((qP _ _).1 hr)
structure NumQ (B:Nat) (xs ys:List Nat) (u v:Value) (w:World):Prop where
 l:Rep (B<=·) w (numD xs) u
 r:Rep (B<=·) w (numD ys) v
theorem NumQ.below {B:Nat} {xs ys:List Nat} {u v:Value} {w w':World} (h:NumQ B xs ys u v w) (hb:Below w.heap.size w w'):NumQ B xs ys u v w':=⟨h.l.below hb (fun _ h=>h),h.r.below hb (fun _ h=>h)⟩
theorem NumQ.notBox {B:Nat} {xs ys:List Nat} {u v:Value} {w:World} (h:NumQ B xs ys u v w) {g:Nat} {c:Array Value} {T:TypeId} {fr:Nat×Nat} (hb:w.heap[g]? = some (.cells c T fr)) (h1:3≠T) (_:3≠T) :
 Rep (fun i=>B<=i/\i≠g) w (numD xs) u/\Rep (fun i=>B<=i/\i≠g) w (numD ys) v:=⟨numD_ne h.l hb h1,numD_ne h.r hb h1⟩
theorem NumQ.but {B:Nat} {xs ys:List Nat} {u v:Value} {w w':World} {g:Nat} (_:NumQ B xs ys u v w) (hb:But (fun i=>i=g) w w') (hn:Rep (fun i=>B<=i/\i≠g) w (numD xs) u/\Rep (fun i=>B<=i/\i≠g) w (numD ys) v):NumQ B xs ys u v w' :=
 ⟨(Rep.keep fun i o hi ho=>⟨hi.1,by rw [hb.block i (zZ ho) hi.2];exact ho⟩).1 _ _ hn.1,(Rep.keep fun i o hi ho=>⟨hi.1,by rw [hb.block i (zZ ho) hi.2];exact ho⟩).1 _ _ hn.2⟩
theorem Tryz.infoPlay:(Tryz.prog.info? 33).map (fun i=>(i.zero,i.size,i.bytes))=some (some (.agg #[.slice none 0 0,.slice none 0 0]),2,48):=by kernel_rfl
section
variable {P:Program} {ops:Array Oper} {Q:Exit->Act->World->Prop} {md:Region.Mode} {S:World->Prop} {T:Nat->Bool}
end
structure Kv (va:Nat) (vw:Value) (w:World) (vw':Value) (w':World):Prop where
 but:But (Mv va vw) w w'
 row:∀ g,vw'.ownBlock=some g->vw.ownBlock=some g\/w.heap.size<=g
theorem Kv.obj {va:Nat} {vw vw':Value} {w w':World} (h:Kv va vw w vw' w') {b:Nat} {o:Obj} (hF:Fv va vw b) (ho:w.heap[b]? = some o):Fv va vw' b/\w'.heap[b]? = some o :=
 ⟨⟨hF.1,fun e=>by
   rcases h.row b e with h1 | h1
   ·exact hF.2 h1
   ·have:=zZ ho;omega⟩,by rw [h.but.block b (zZ ho) (fun e=>e.elim hF.1 hF.2)];exact ho⟩
theorem Kv.rep {va:Nat} {vw vw':Value} {w w':World} (h:Kv va vw w vw' w') {d:DV} {x:Value} (hr:Rep (Fv va vw) w d x):Rep (Fv va vw') w' d x:=Fv.keep h.but h.row hr
theorem Kv.trans {va:Nat} {vw vw' vw'':Value} {w w' w'':World} (h:Kv va vw w vw' w') (k:Kv va vw' w' vw'' w''):Kv va vw w vw'' w'' :=
 ⟨h.but.trans' k.but (fun i hi hm=>hm.imp id (fun e=>(h.row i e).resolve_right (by omega))),fun g hg=>(k.row g hg).elim (fun e=>h.row g e) (fun e=>.inr (gX h.but.size e))⟩
theorem Kv.below {va:Nat} {vw:Value} {w w':World} (hb:Below w.heap.size w w'):Kv va vw w vw w':=⟨But.ofBelow hb,fun _ hg=>.inl hg⟩
structure AskV (t:Ty) (l:Nat) (ss:List Bd) (y n:Bd) (lv:List zO) (bg:zO) (asked:Pl) (kv bv lsl mv pt:Value) (B0 B1:Nat) (va:Nat) (vw:Value) (w:World):Prop where
 g:qE w
 ng:∀ g,Mv va vw g->NotG g
 rk:Rep (Fv va vw) w (qS t) kv
 rb:Rep (Fv va vw) w (ke (.ask l ss y n)) bv
 rl:qi (Fv va vw) w lv lsl
 rm:jJ (Fv va vw) w asked mv
 rp:jQ (Fv va vw) w asked pt
 f0:Fv va vw B0
 b0:w.heap[B0]? = some (.cells #[bv,lsl,.int .i64 (bg.1:Nat),str bg.2] 117 (0,0))
 f1:Fv va vw B1
 b1:w.heap[B1]? = some (.cells #[mv,pt] 33 (0,0))
theorem AskV.keep {t:Ty} {l:Nat} {ss:List Bd} {y n:Bd} {lv:List zO} {bg:zO} {asked:Pl} {kv bv lsl mv pt:Value} {B0 B1:Nat} {va:Nat} {vw vw':Value} {w w':World}
 (h:AskV t l ss y n lv bg asked kv bv lsl mv pt B0 B1 va vw w) (k:Kv va vw w vw' w'):AskV t l ss y n lv bg asked kv bv lsl mv pt B0 B1 va vw' w' :=
 ⟨h.g.but k.but h.ng,fun g hg=>hg.elim (fun e=>h.ng g (.inl e)) (fun e=>(k.row g e).elim (fun e=>h.ng g (.inr e)) (fun e=>h.g.new e)),k.rep h.rk,k.rep h.rb,k.rep h.rl,k.rep h.rm,k.rep h.rp,
  (k.obj h.f0 h.b0).1,(k.obj h.f0 h.b0).2,(k.obj h.f1 h.b1).1,(k.obj h.f1 h.b1).2⟩
structure Ko (vw:Value) (w:World) (vw':Value) (w':World):Prop where
 but:But (fun i=>vw.ownBlock=some i) w w'
 row:∀ g,vw'.ownBlock=some g->vw.ownBlock=some g\/w.heap.size<=g
abbrev Fo (vw:Value) (i:Nat):Prop:=¬ vw.ownBlock=some i
theorem Ko.obj {vw vw':Value} {w w':World} (h:Ko vw w vw' w') {b:Nat} {o:Obj} (hF:Fo vw b) (ho:w.heap[b]? = some o):Fo vw' b/\w'.heap[b]? = some o :=
 ⟨fun e=>by
  rcases h.row b e with h1 | h1
  ·exact hF h1
  ·have:=zZ ho;omega,by rw [h.but.block b (zZ ho) hF];exact ho⟩
theorem Ko.rep {vw vw':Value} {w w':World} (h:Ko vw w vw' w') {d:DV} {x:Value} (hr:Rep (Fo vw) w d x):Rep (Fo vw') w' d x:=(Rep.keep fun _ _ hF ho=>h.obj hF ho).1 _ _ hr
theorem Ko.reps {vw vw':Value} {w w':World} (h:Ko vw w vw' w') {d:List DV} {x:List Value} (hr:zD (Fo vw) w d x):zD (Fo vw') w' d x:=(Rep.keep fun _ _ hF ho=>h.obj hF ho).2 _ _ hr
theorem Ko.trans {vw vw' vw'':Value} {w w' w'':World} (h:Ko vw w vw' w') (k:Ko vw' w' vw'' w''):Ko vw w vw'' w'' :=
 ⟨h.but.trans' k.but (fun i hi hm=>(h.row i hm).resolve_right (by omega)),fun g hg=>(k.row g hg).elim (fun e=>h.row g e) (fun e=>.inr (gX h.but.size e))⟩
theorem Ko.below {vw:Value} {w w':World} (hb:Below w.heap.size w w'):Ko vw w vw w':=⟨But.ofBelow hb,fun _ hg=>.inl hg⟩
theorem SpAt.ko {vw vw':Value} {w w':World} (h:Ko vw w vw' w') {b:Bd} {lv:List zO} {bg:zO} {v:Pl} {vs:List Value} (hr:SpAt (Fo vw) w b lv bg v vs):SpAt (Fo vw') w' b lv bg v vs:=by
 obtain ⟨begun,args,opens,h1,h2⟩:=hr
 exact ⟨begun,args,opens,h1,h.reps h2⟩
theorem SpAt.below {F:Nat->Prop} {w w':World} (hb:Below w.heap.size w w') {b:Bd} {lv:List zO} {bg:zO} {v:Pl} {vs:List Value} (hr:SpAt F w b lv bg v vs):SpAt F w' b lv bg v vs:=by
 obtain ⟨begun,args,opens,h1,h2⟩:=hr
 exact ⟨begun,args,opens,h1,h2.below hb (fun _ h=>h)⟩
def TvOut (o:Option (List Pl)) (vw:Value) (us:List (Value×Value)) (L:List Pl) (w:World) (en:Ending) (w':World):Prop :=
 ∃ a n c,en=.returned (.tuple #[.slice a n c,.bool o.isSome])/\But (fun i=>vw.ownBlock=some i) w w'/\∀ out,o=some out->∃ us',jd w' (L++out) (.slice a n c) (us++us')/\(∀ g,(Value.slice a n c).ownBlock=some g->vw.ownBlock=some g\/w.heap.size<=g)/\∀ u∈us',∀ g,u.1.ownBlock=some g\/u.2.ownBlock=some g->w.heap.size<=g
theorem TvOut.no {t:Ty} {b:Bd} {lv:List zO} {bg:zO} {v:Pl} {vw:Value} {us:List (Value×Value)} {L:List Pl} {w w':World} {a:Option Addr} {n c:Nat} (hb:But (fun i=>vw.ownBlock=some i) w w') (e:ja t b lv bg v=none) :
 TvOut (ja t b lv bg v) vw us L w (.returned (.tuple #[.slice a n c,.bool false])) w':=by
 rw [e]
 exact ⟨a,n,c,rfl,hb,fun out h=>by simp at h⟩
theorem pls_add {w W:World} {vw:Value} {us:List (Value×Value)} {L:List Pl} {l:Pl} {mv pt:Value} (hp:jd w L vw us) (hB:Below w.heap.size w W) (hl:kG W l mv pt) (hn:∀ g,mv.ownBlock=some g\/pt.ownBlock=some g->w.heap.size<=g)
 {v':Value} {w5:World} (rc:Own w5 33 2 v' (us.length+1) (plC us++[mv,pt])) (gR:But (fun b=>vw.ownBlock=some b) W w5):jd w5 (L++[l]) v' (us++[(mv,pt)]):=by
 have tH:jd W L vw us:=jh.below hp hB
 have lM:(plX l).1.length=l.length:=by simp [plX,ju]
 have lP:(plX l).2.length=l.length:=by simp [plX,jv]
 unfold jd
 rw [List.map_append,List.map_singleton]
 exact jh.snoc (u:=(mv,pt)) (x:=plX l) tH rc gR (by rw [lM];exact hl.1) (by rw [lP];exact hl.2) (fun g hg hP=>by
  have h1:=hn g hg
  have h2:=hp.lt hP
  omega)
theorem yj {w:World} {b:Nat} {x y:Value} {T:TypeId} (h:w.heap[b]? = some (.cells #[x,y] T (0,0))) (u v:Value):((w.setCell ⟨b,0,none⟩ u).setCell ⟨b,1,none⟩ v).heap[b]? = some (.cells #[u,v] T (0,0)):=by
 rw [zh (zh h)];rfl
theorem take_at (v:Pl) {n i:Nat} (h:i<n):(v.take n)[i]? = v[i]?:=by rw [List.getElem?_take,if_pos h]
theorem okAt_take (t:Ty) (v:Pl) {n i:Nat} (h:i<n):j2 t (v.take n) i=j2 t v i:=by
 unfold j2
 rw [take_at v h]
 cases hv:v[i]? with
 | none=>rfl
 | some x =>
   simp only
   by_cases hi:i=0
   ·rw [if_pos hi,if_pos hi]
   ·rw [if_neg hi,if_neg hi]
    by_cases hz:0<=x.2/\x.2<(i:Int)
    ·rw [take_at v (show x.2.toNat<n by omega)]
    ·have:(decide (0<=x.2) && decide (x.2<(i:Int)))=false:=by
      rw [Bool.and_eq_false_iff,decide_eq_false_iff_not,decide_eq_false_iff_not]
      by_cases h0:0<=x.2
      ·exact .inr fun h1=>hz ⟨h0,h1⟩
      ·exact .inl h0
     rw [this,Bool.false_and,Bool.false_and,Bool.false_and]
theorem pr (t:Ty) (v:Pl) {n:Nat}:∀ m,m<=n->qX t (v.take n) m=qX t v m
 | 0,_=>rfl
 | m+1,h=>by rw [qX,qX,pr t v m (by omega),okAt_take t v (by omega)]
theorem pi {t:Ty} {v:Pl}:∀ {m:Nat},(∀ i,i<m->j2 t v i=true)->qX t v m=true
 | 0,_=>rfl
 | m+1,h=>by rw [qX,pi (fun i hi=>h i (by omega)),h m (by omega)];rfl
theorem valid_take {t:Ty} {v:Pl} (h:zS t v=true) (n:Nat):zS t (v.take n)=true:=by
 have du:=qD h
 unfold zS at h ⊢
 rw [Bool.and_eq_true] at h ⊢
 refine ⟨by rw [decide_eq_true_eq,List.length_take];omega,?_⟩
 rw [pr t v _ (by rw [List.length_take];omega)]
 exact pi fun i hi=>xG h.2 (by rw [List.length_take] at hi;omega)
theorem xl {t:Ty} {v:Pl} (h:zS t v=true) (b:Bd) {n:Nat}:∀ f m,m<=n->m<=v.length->qc t b (v.take n) f m=qc t b v f m
 | 0,_,_,_=>rfl
 | f+1,m,hm,hl=>by
   rw [qc,qc]
   by_cases h1:m<=1
   ·rw [if_pos h1,if_pos h1]
   ·rw [if_neg h1,if_neg h1,take_at v (show m-1<n by omega)]
    obtain ⟨c,p,z,hv,ho⟩:=kp h (show m-1<v.length by omega)
    rw [hv]
    have:=(ho.pos (by omega)).2.1
    simp only
    rw [xl h b f z.toNat (by omega) (by omega)]
theorem yp {t:Ty} {v:Pl} (h:zS t v=true) (b:Bd) {n m:Nat} (hm:m<=n) (hl:m<=v.length):qZ t b (v.take n) m=qZ t b v m:=xl h b _ m hm hl
theorem xp.take {F:Nat->Prop} {t:Ty} {v:Pl} {mv pt:Value} {w:World} (h:xp F t v mv pt w) {n:Nat} {mv' pt':Value} (hm:jJ F w (v.take n) mv') (hp:jQ F w (v.take n) pt'):xp F t (v.take n) mv' pt' w :=
 ⟨hm,hp,valid_take h.ok n,fun x hx=>h.l x (List.mem_of_mem_take hx)⟩
theorem Own.notBox {w:World} {e T:TypeId} {sz n:Nat} {v:Value} {xs:List Value} (h:Own w e sz v n xs) {g:Nat} {c:Array Value} {fr:Nat×Nat} (hb:w.heap[g]? = some (.cells c T fr)) (he:e≠T):v.ownBlock≠some g:=by
 intro hg
 rcases h.2 with ⟨rfl,_⟩ | ⟨b,cap,cur,rfl,_,gW,_⟩
 ·simp [Value.ownBlock] at hg
 ·simp [Value.ownBlock] at hg
  subst hg
  rw [gW] at hb
  simp at hb
  exact he hb.2.1
theorem kG.notBox {w:World} {l:Pl} {mv pt:Value} (h:kG w l mv pt) {T:TypeId} {g:Nat} {c:Array Value} {fr:Nat×Nat} (hb:w.heap[g]? = some (.cells c T fr)) (h1:9≠T) (h2:3≠T):∀ i,mv.ownBlock=some i\/pt.ownBlock=some i->¬ i=g:=by
 intro i hi e
 subst e
 exact hi.elim (h.1.notBox hb h1) (h.2.notBox hb h2)
def qAt (v:Pl) (i:Nat):Prop:=∃ m z,v[i]? = some (m,z)/\isQ m=true
def wD (v:Pl) (k:Nat) (ans:List Int) (q:Nat):Prop:=(q:Int)∈ans\/∃ j m,q<j/\j<k/\v[j]? = some (m,(q:Int))/\isQ m=false
structure uh (v:Pl) (k:Nat) (ans:List Int) (z:Nat):Prop where
 lt:z<k
 q:qAt v z
 free:¬ wD v k ans z
 all:∀ i,z<i->i<k->qAt v i->wD v k ans i
theorem wE (v:Pl):∀ (k:Nat) (ans:List Int),k<=v.length->(∃ z:Nat,qG v k ans=(z:Int)/\uh v k ans z)\/(qG v k ans = -1/\∀ i,i<k->qAt v i->wD v k ans i)
 | 0,ans,_=>.inr ⟨rfl,fun i hi=>absurd hi (by omega)⟩
 | k+1,ans,hk=>by
   have hv:v[k]? = some v[k]:=List.getElem?_eq_getElem (by omega)
   obtain ⟨m,y⟩:Bs×Int:=v[k]
   obtain ⟨m,y,hv⟩:∃ m y,v[k]? = some (m,y):=⟨_,_,hv⟩
   cases hq:isQ m with
   | true =>
     have cu:∀ i,wD v k ans i->wD v (k+1) ans i:=fun i h=>h.imp id fun ⟨j,m',h1,h2,h3⟩=>⟨j,m',h1,by omega,h3⟩
     have eG:∀ i,wD v (k+1) ans i->wD v k ans i:=fun i h=>h.imp id fun ⟨j,m',h1,h2,h3,h4⟩=>⟨j,m',h1,by
      rcases Nat.lt_or_ge j k with h | h
      ·exact h
      ·obtain rfl:j=k:=by omega
       rw [hv] at h3
       simp only [Option.some.injEq,Prod.mk.injEq] at h3
       rw [<- h3.1,hq] at h4;simp at h4,h3,h4⟩
     rw [uI hv,hq,if_pos rfl]
     by_cases hc:ans.contains (k:Int)=true
     ·rw [if_pos hc]
      have bQ:(k:Int)∈ans:=by simpa using hc
      rcases wE v k ans (by omega) with ⟨z,h1,h2⟩ | ⟨h1,h2⟩
      ·refine .inl ⟨z,h1,by have:=h2.lt;omega,h2.q,fun h=>h2.free (eG _ h),fun i hi fd ej=>?_⟩
       rcases Nat.lt_or_ge i k with h | h
       ·exact cu _ (h2.all i hi h ej)
       ·obtain rfl:i=k:=by omega
        exact .inl bQ
      ·refine .inr ⟨h1,fun i hi ej=>?_⟩
       rcases Nat.lt_or_ge i k with h | h
       ·exact cu _ (h2 i h ej)
       ·obtain rfl:i=k:=by omega
        exact .inl bQ
     ·rw [if_neg hc]
      refine .inl ⟨k,rfl,by omega,⟨m,y,hv,hq⟩,fun h=>?_,fun i hi fd=>absurd fd (by omega)⟩
      rcases h with h | ⟨j,_,h1,h2,_⟩
      ·exact hc (by simpa using h)
      ·omega
   | false =>
     rw [uI hv,hq,if_neg (by simp)]
     have fQ:∀ i,i<k->(wD v k (ans++[y]) i↔wD v (k+1) ans i):=fun i hi=>by
      unfold wD
      constructor
      ·rintro (h | ⟨j,m',h1,h2,h3,h4⟩)
       ·rw [List.mem_append,List.mem_singleton] at h
        rcases h with h | h
        ·exact .inl h
        ·exact .inr ⟨k,m,hi,by omega,by rw [hv,h],hq⟩
       ·exact .inr ⟨j,m',h1,by omega,h3,h4⟩
      ·rintro (h | ⟨j,m',h1,h2,h3,h4⟩)
       ·exact .inl (List.mem_append_left _ h)
       ·rcases Nat.lt_or_ge j k with h | h
        ·exact .inr ⟨j,m',h1,h,h3,h4⟩
        ·obtain rfl:j=k:=by omega
         rw [hv] at h3
         simp only [Option.some.injEq,Prod.mk.injEq] at h3
         exact .inl (List.mem_append_right _ (by rw [List.mem_singleton];exact h3.2.symm))
     have rr:¬ qAt v k:=fun ⟨m',y',h1,h2⟩=>by
      rw [hv] at h1
      simp only [Option.some.injEq,Prod.mk.injEq] at h1
      rw [<- h1.1,hq] at h2;simp at h2
     rcases wE v k (ans++[y]) (by omega) with ⟨z,h1,h2⟩ | ⟨h1,h2⟩
     ·refine .inl ⟨z,h1,by have:=h2.lt;omega,h2.q,fun h=>h2.free ((fQ z h2.lt).2 h),fun i hi fd ej=>?_⟩
      rcases Nat.lt_or_ge i k with h | h
      ·exact (fQ i h).1 (h2.all i hi h ej)
      ·obtain rfl:i=k:=by omega
       exact absurd ej rr
     ·refine .inr ⟨h1,fun i hi ej=>?_⟩
      rcases Nat.lt_or_ge i k with h | h
      ·exact (fQ i h).1 (h2 i h ej)
      ·obtain rfl:i=k:=by omega
       exact absurd ej rr
theorem uh.eq {v:Pl} {k z:Nat} {ans:List Int} (hk:k<=v.length) (h:uh v k ans z):qG v k ans=(z:Int):=by
 rcases wE v k ans hk with ⟨y,h1,h2⟩ | ⟨_,h2⟩
 ·rw [h1]
  rcases Nat.lt_trichotomy y z with h3 | h3 | h3
  ·exact absurd (h2.all z h3 h.lt h.q) h.free
  ·rw [h3]
  ·exact absurd (h.all y h3 h2.lt h2.q) h2.free
 ·exact absurd (h2 z h.lt h.q) h.free
theorem pend_of {v:Pl} {k z:Nat} {ans:List Int} (hk:k<=v.length) (h:qG v k ans=(z:Int)):uh v k ans z:=by
 rcases wE v k ans hk with ⟨y,h1,h2⟩ | ⟨h1,_⟩
 ·rw [h1] at h
  obtain rfl:y=z:=by omega
  exact h2
 ·rw [h1] at h;omega
def brTo (v:Pl) (n:Nat):Prop:=∀ i m z,i<n->v[i]? = some (m,z)->isQ m=false->z=qG v i []
theorem brP_to {v:Pl} (h:qm v=true):brTo v v.length:=fun i m z hi hv hq=>by
 unfold qm brP at h
 rw [Bool.and_eq_true] at h
 have h1:=un h.2 hi
 rw [brAt_at hv,hq,Bool.false_or] at h1
 simpa using h1
theorem pend_back {v:Pl} {k z g:Nat} {m mq:Bs} {y:Int} (hk:k<v.length) (hb:brTo v v.length) (hv:v[k]? = some (m,(z:Int))) (hq:isQ m=false) (hz:v[z]? = some (mq,y)) (tQ:isQ mq=true) (gH:z<k) (hg:qG v z []=(g:Int)):qG v (k+1) []=(g:Int):=by
 have hP:uh v k [] z:=pend_of (by omega) (hb k m _ hk hv hq).symm
 have hG:uh v z [] g:=pend_of (by omega) hg
 have hgz:=hG.lt
 have cu:∀ a c i,a<=c->wD v a [] i->wD v c [] i:=fun a c i hac h=>h.imp id fun ⟨j,m',h1,h2,h3⟩=>⟨j,m',h1,by omega,h3⟩
 refine uh.eq (by omega) ⟨by omega,hG.q,fun h=>?_,fun i hi fd ej=>?_⟩
 ·rcases h with h | ⟨j,m',h1,h2,h3,h4⟩
  ·simp at h
  ·rcases Nat.lt_trichotomy j z with hj | hj | hj
   ·exact hG.free (.inr ⟨j,m',h1,hj,h3,h4⟩)
   ·subst hj
    rw [hz] at h3
    simp only [Option.some.injEq,Prod.mk.injEq] at h3
    rw [<- h3.1,tQ] at h4;simp at h4
   ·rcases Nat.lt_or_ge j k with hjk | hjk
    ·have h5:uh v j [] g:=pend_of (by omega) (hb j m' _ (by omega) h3 h4).symm
     have h6:=h5.all z hgz hj ⟨mq,y,hz,tQ⟩
     exact hP.free (cu j k z (by omega) h6)
    ·obtain rfl:j=k:=by omega
     rw [hv] at h3
     simp only [Option.some.injEq,Prod.mk.injEq] at h3
     have:=h3.2;omega
 ·rcases Nat.lt_trichotomy i z with h | h | h
  ·exact cu z (k+1) i (by omega) (hG.all i hi h ej)
  ·subst h
   exact .inr ⟨k,m,gH,by omega,hv,hq⟩
  ·rcases Nat.lt_or_ge i k with hik | hik
   ·exact cu k (k+1) i (by omega) (hP.all i h hik ej)
   ·obtain rfl:i=k:=by omega
    obtain ⟨m',y',h1,h2⟩:=ej
    rw [hv] at h1
    simp only [Option.some.injEq,Prod.mk.injEq] at h1
    rw [<- h1.1,hq] at h2;simp at h2
structure StIn (v:Pl) (s:St) (n:Nat):Prop where
 lv:∀ (l:Nat) (pl:zO),s.2.1[l]? = some pl->pl.1 % 2=0/\pl.1<n/\pl.1∈qM v false n/\∃ z j q,j<10/\pl.2=q++[qw j]/\v[pl.1]? = some (113::q,z)
 bg:s.2.2.1 % 2=0/\s.2.2.1<n/\s.2.2.1∈qM v false n/\∃ z,v[s.2.2.1]? = some (113::s.2.2.2,z)
 pend:qG v n []=(s.2.2.1:Int)
theorem place_in {t:Ty} {b:Bd} {v:Pl} (gA:zY t<=15) (hf:zm t.args b) (hw:wfB b) (hv:zS t v=true) (hl:qm v=true) (k:Nat):k<v.length->k % 2=0->zi t b v k->∃ s hand,qZ t b v (k+1)=some s/\yU t hand s (k+1)/\StIn v s (k+1):=by
 have hbr:=brP_to hl
 induction k using Nat.strongRecOn with
 | _ k ih =>
   intro hk he bi
   rcases Nat.eq_zero_or_pos k with h0 | h0
   ·subst h0
    obtain ⟨c,p,z,mG,ho⟩:=kp hv hk
    obtain ⟨rfl,rfl,rfl⟩:=ho.zero rfl
    have fM:=xm hv hk
    refine ⟨_,_,vE t b v,yP gA hf hw,fun l pl h=>?_,⟨rfl,by show 0<0+1;omega,by rw [fM];exact List.mem_singleton.2 rfl,-1,mG⟩,?_⟩
    ·have gC:=(List.getElem?_eq_some_iff.1 h).1
     have n5:l<(zq t.args.length 0 []).length:=gC
     rw [zx] at n5
     have h':(zq t.args.length 0 [])[l]? = some pl:=h
     rw [vQ n5] at h'
     obtain rfl:=Option.some.inj h'
     have:=qY t
     exact ⟨rfl,by show 0<0+1;omega,by rw [fM];exact List.mem_singleton.2 rfl,-1,l,[],by omega,by show []++dec l=_;rw [qV (by omega)],mG⟩
    ·rw [uI mG];rfl
   ·obtain ⟨c,p,z,ho,gy⟩:=opp_mv hv hk he h0
    have gH:=ho.lt
    have co:=ho.odd
    obtain ⟨z',rfl⟩:∃ z',z=z'+1:=⟨z-1,by omega⟩
    obtain ⟨s,hand,hp,hs,bQ⟩:=ih z' (by omega) (by omega) (by omega) (fun i hi h=>bi i (by omega) h)
    obtain ⟨x,hx,mP⟩:=ho.en
    have hr:=bi (z'+1) (by omega) co
    unfold kt at hr
    rw [hp,Option.bind_some,hx] at hr
    obtain ⟨l,ss,y,n,a,pl,hd⟩:=xF gA hs gy h0 mP hr
    obtain ⟨s',cD,h1,h2⟩:=hd.next (k:=k) hs (by omega) (by omega) gA
    have fM:=wO hv hk ho (by rw [gy.opp];simp [he])
    have de:∀ i,i∈qM v false (z'+1)->i∈qM v false (k+1):=fun i h=>by rw [fM];exact List.mem_append_left _ h
    have hkm:k∈qM v false (k+1):=by rw [fM];exact List.mem_append_right _ (by simp)
    refine ⟨s',cD,by rw [vi hv b hk h0 ho,hp,Option.bind_some,h1],h2,?_⟩
    have cW:=h1
    unfold vL at cW
    rw [hd.body] at cW
    simp only at cW
    rcases hd.mv with ⟨rfl,j,aj,sb,hpp,hj,tq,eL,hat,iC⟩ | ⟨hc,hpp⟩
    ·rw [if_pos rfl,iC,eL] at cW
     obtain rfl:=Option.some.inj cW
     refine ⟨fun i pl' hi=>?_,⟨he,by show k<k+1;omega,hkm,_,ho.at'⟩,?_⟩
     ·have fP:(s.2.1++zq (q_ t p) k p)[i]? = some pl':=hi
      rcases Nat.lt_or_ge i s.2.1.length with h | h
      ·rw [List.getElem?_append_left h] at fP
       obtain ⟨q1,q2,q3,q4⟩:=bQ.lv i pl' fP
       exact ⟨q1,by omega,de _ q3,q4⟩
      ·rw [List.getElem?_append_right h] at fP
       have gC:=(List.getElem?_eq_some_iff.1 fP).1
       rw [zx] at gC
       rw [vQ gC] at fP
       obtain rfl:=Option.some.inj fP
       have e0:q_ t p=aj.args.length:=by unfold q_;rw [hat]
       have e1:=qy _ _ _ hat
       have e2:=qY aj
       exact ⟨he,by show k<k+1;omega,hkm,_,i-s.2.1.length,p,by omega,by show p++dec _=_;rw [qV (by omega)],ho.at'⟩
     ·rw [uI ho.at',qK];rfl
    ·have eP:¬ c=113:=by rcases hc with h | h <;> rw [h] <;> decide
     rw [if_neg eP] at cW
     obtain rfl:=Option.some.inj cW
     refine ⟨fun i pl' hi=>?_,⟨bQ.bg.1,by have:=bQ.bg.2.1;show s.2.2.1<k+1;omega,de _ bQ.bg.2.2.1,bQ.bg.2.2.2⟩,?_⟩
     ·obtain ⟨q1,q2,q3,q4⟩:=bQ.lv i pl' hi
      exact ⟨q1,by omega,de _ q3,q4⟩
     ·obtain ⟨mq,yq⟩:=x
      have rr:isQ (c::p)=false:=by rw [qK];simp [eP]
      refine pend_back hk hbr ho.at' rr hx ?_ gH bQ.pend
      have hxe':mq=j5 (c::p):=mP
      rw [hxe']
      unfold j5
      rw [if_neg (fun e=>eP (by simp only [List.cons.injEq] at e;exact e.1)),rr,if_neg (by simp)]
      rfl
theorem uf {v:Pl} {x:Bs×Int} {i:Nat} (h:i<v.length):(v++[x])[i]? = v[i]?:=List.getElem?_append_left h
theorem snoc_new (v:Pl) (x:Bs×Int):(v++[x])[v.length]? = some x:=by rw [List.getElem?_append_right (gQ _),Nat.sub_self];rfl
theorem wj {t:Ty} {v:Pl} (hv:zS t v=true) (x:Bs×Int) (o:Bool):∀ f n,n<=v.length->qt (v++[x]) o f n=qt v o f n
 | 0,_,_=>by rw [qt,qt]
 | f+1,0,_=>by rw [jG,jG]
 | f+1,n+1,hn=>by
   have e:jW (v++[x]) o n=jW v o n:=by unfold jW;rw [uf (by omega)]
   have h1:=backTo_le hv o (n:=n) (by omega)
   rw [k9,k9,e,wj hv x o f _ (by omega)]
theorem wk {t:Ty} {v:Pl} (hv:zS t v=true) (x:Bs×Int) (o:Bool) {n:Nat} (hn:n<=v.length):qM (v++[x]) o n=qM v o n:=by
 unfold qM;rw [wj hv x o n n hn]
theorem v4 (v:Pl) (x:Bs×Int):∀ (n:Nat) (ans:List Int),n<=v.length->qG (v++[x]) n ans=qG v n ans
 | 0,_,_=>rfl
 | n+1,ans,h=>by
   rw [qG,qG,uf (show n<v.length by omega),v4 v x n ans (by omega)]
   cases v[n]? with
   | none=>rfl
   | some y=>simp only [v4 v x n _ (by omega)]
theorem okAt_snoc (t:Ty) (v:Pl) (x:Bs×Int) {i:Nat} (h:i<v.length):j2 t (v++[x]) i=j2 t v i:=by
 have:=okAt_take t (v++[x]) h
 rw [List.take_left' rfl] at this
 exact this.symm
theorem valid_snoc {t:Ty} {v:Pl} (hv:zS t v=true) (x:Bs×Int):zS t (v++[x])=(decide (v.length<60) && j2 t (v++[x]) v.length):=by
 unfold zS at hv
 rw [Bool.and_eq_true] at hv
 have h1:qX t (v++[x]) v.length=true:=pi fun i hi=>by rw [okAt_snoc t v x hi];exact xG hv.2 hi
 unfold zS
 rw [List.length_append,List.length_singleton,qX,h1,Bool.true_and]
 congr 1
theorem visAt_snoc {t:Ty} {v:Pl} (hv:zS t v=true) (x:Bs×Int) {i:Nat} (h:i<v.length):uM (v++[x]) i=uM v i:=by
 unfold uM
 rw [uf h]
 cases v[i]? with
 | none=>rfl
 | some y=>simp only [wk hv x _ (Nat.le_of_lt h)]
theorem brAt_snoc (v:Pl) (x:Bs×Int) {i:Nat} (h:i<v.length):wC (v++[x]) i=wC v i:=by
 unfold wC
 rw [uf h]
 cases v[i]? with
 | none=>rfl
 | some y=>simp only [v4 v x i _ (Nat.le_of_lt h)]
theorem legal_snoc {t:Ty} {v:Pl} (hv:zS t v=true) (hl:qm v=true) (x:Bs×Int):qm (v++[x])=(uM (v++[x]) v.length && wC (v++[x]) v.length):=by
 unfold qm visP brP at hl ⊢
 rw [Bool.and_eq_true] at hl
 have h1:j9 (uM (v++[x])) v.length=true:=wM fun i hi=>by rw [visAt_snoc hv x hi];exact un hl.1 hi
 have h2:j9 (wC (v++[x])) v.length=true:=wM fun i hi=>by rw [brAt_snoc v x hi];exact un hl.2 hi
 rw [List.length_append,List.length_singleton,j9,j9,h1,h2,Bool.true_and,Bool.true_and]
def jY (t:Ty) (b:Bd) (v:Pl):Option Pl:=if v.length=60 then none else (kt t b v v.length).map fun x=>v++[x]
structure InPl (t:Ty) (b:Bd) (v:Pl):Prop where
 ok:zS t v=true
 lg:qm v=true
 fo:zi t b v v.length
theorem y_ {t:Ty} {b:Bd} {v:Pl} {x:Bs×Int} (hv:zS t (v++[x])=true) (n:Nat) (hn:n<=v.length) (hf:zi t b v n):zi t b (v++[x]) n:=fun i hi ho=>by
 have h1:=yp hv b (n:=v.length) (m:=i) (by omega) (by rw [List.length_append];omega)
 rw [List.take_left' rfl] at h1
 unfold kt
 rw [<- h1,uf (by omega)]
 exact hf i hi ho
theorem xi {t:Ty} {b:Bd} {v:Pl} (gA:zY t<=15) (hf:zm t.args b) (hw:wfB b) (h:InPl t b v) (ho:v.length % 2=1) (du:v.length<60) {x:Bs×Int} (hx:kt t b v v.length=some x):InPl t b (v++[x]):=by
 obtain ⟨k,hk⟩:∃ k,v.length=k+1:=⟨v.length-1,by omega⟩
 obtain ⟨s,hand,hp,hs,bQ⟩:=place_in gA hf hw h.ok h.lg k (by omega) (by omega) (fun i hi ho=>h.fo i (by omega) ho)
 have cK:=hx
 unfold kt at cK
 rw [hk,hp,Option.bind_some] at cK
 rw [<- hk] at bQ hs
 have mg:=snoc_new v x
 have key:∃ (c:UInt8) (p:Bs) (i:Nat),x=(c::p,(i:Int))/\(c=113\/c=116\/c=102)/\(∃ a,atT t p=some a)/\qL (c::p)=false/\i<v.length/\¬ (c::p)=[113]/\(∃ z,v[i]? = some (j5 (c::p),z))/\i∈qM v false v.length/\(isQ (c::p)=true\/(i:Int)=qG v v.length []):=by
  have ah:∀ (i:Nat) (m:Bs) (z:Int),i % 2=0->i<v.length->v[i]? = some (m,z)->qL m=true:=fun i m z h1 h2 h3=>by
   obtain ⟨c',p',z',fN,dM⟩:=kp h.ok h2
   rw [fN] at h3
   simp only [Option.some.injEq,Prod.mk.injEq] at h3
   rw [<- h3.1,dM.opp];simp [h1]
  obtain ⟨bd,lv,bg⟩:=s
  cases bd with
  | leaf c =>
    have gI:=hs.wf
    rw [show ((Bd.leaf c,lv,bg):St).1=.leaf c from rfl,wfB] at gI
    unfold jm at cK
    simp only at cK
    split at cK
    ·simp at cK
    ·rename_i hc
     obtain rfl:=Option.some.inj cK
     have cf:c=116\/c=102:=by
      rcases gI with h | h | h
      ·exact .inl h
      ·exact .inr h
      ·exact absurd h hc
     have fi:¬ c=113:=by rcases cf with h | h <;> rw [h] <;> decide
     have gN:¬ (c::bg.2)=[113]:=fun e=>fi (by simp only [List.cons.injEq] at e;exact e.1)
     have rr:isQ (c::bg.2)=false:=by rw [qK];simp [fi]
     have tS:j5 (c::bg.2)=113::bg.2:=by unfold j5;rw [if_neg gN,rr,if_neg (by simp)];rfl
     obtain ⟨q1,q2,q3,z,q4⟩:=bQ.bg
     refine ⟨c,bg.2,bg.1,rfl,.inr cf,hs.bgt,?_,q2,gN,⟨z,by rw [tS];exact q4⟩,q3,.inr bQ.pend.symm⟩
     have h1:=yR gN
     rw [tS,ah _ _ _ q1 q2 q4] at h1
     cases hh:qL (c::bg.2) with
     | false=>rfl
     | true=>rw [hh] at h1;simp at h1
  | ask l ss y n =>
    have g_:=hs.fit
    rw [show ((Bd.ask l ss y n,lv,bg):St).1=.ask l ss y n from rfl,zm] at g_
    obtain ⟨a,h1,_⟩:=g_
    obtain ⟨pl,hl,hat,_⟩:=hs.pf.each l a h1
    have bC:lv[l]? = some pl:=hl
    unfold jm at cK
    simp only [bC,Option.map_some] at cK
    obtain rfl:=Option.some.inj cK
    obtain ⟨q1,q2,q3,z,j,q,hj,gO,q4⟩:=bQ.lv l pl hl
    have gN:¬ (113::pl.2)=[113]:=fun e=>by rw [gO] at e;simp at e
    have tS:j5 (113::pl.2)=113::q:=by
     unfold j5
     rw [if_neg gN,qK,show ((113:UInt8) == 113)=true from rfl,if_pos rfl,gO,<- List.cons_append,List.dropLast_concat]
    refine ⟨113,pl.2,pl.1,rfl,.inl rfl,⟨a,hat⟩,?_,q2,gN,⟨z,by rw [tS];exact q4⟩,q3,.inl rfl⟩
    have h1:=yR gN
    rw [tS,ah _ _ _ q1 q2 q4] at h1
    cases hh:qL (113::pl.2) with
    | false=>rfl
    | true=>rw [hh] at h1;simp at h1
 obtain ⟨c,p,i,rfl,hc,⟨a,hat⟩,b8,hi,gN,⟨z,hz⟩,fM,hbr⟩:=key
 have gy:j2 t (v++[(c::p,(i:Int))]) v.length=true:=by
  unfold j2
  rw [mg]
  simp only
  rw [if_neg (by omega),b8,show vN t (c::p)=true from by
   simp only [vN,hat];rcases hc with h | h | h <;> rw [h] <;> rfl,Int.toNat_natCast,uf hi,hz]
  have e1:decide (v.length % 2=0)=false:=decide_eq_false (by omega)
  have e2:((c::p) == [113])=false:=by
   cases hh:((c::p) == [113]) with
   | false=>rfl
   | true=>exact absurd (by simpa using hh) gN
  have e3:decide ((0:Int)<=(i:Int))=true:=decide_eq_true (by omega)
  have e4:decide ((i:Int)<(v.length:Int))=true:=decide_eq_true (by omega)
  rw [e1,e2,e3,e4]
  simp
 have eR:zS t (v++[(c::p,(i:Int))])=true:=by
  rw [valid_snoc h.ok,gy,decide_eq_true du];rfl
 refine ⟨eR,?_,?_⟩
 ·rw [legal_snoc h.ok h.lg,visAt_at mg (by omega),brAt_at mg,wk h.ok _ _ (gQ _),v4 v _ _ _ (gQ _),b8,Bool.and_eq_true]
  refine ⟨?_,?_⟩
  ·rw [List.contains_iff_mem,List.mem_map]
   exact ⟨i,fM,rfl⟩
  ·rcases hbr with h | h
   ·rw [h];rfl
   ·rw [h];simp
 ·rw [List.length_append,List.length_singleton]
  intro j hj hjo
  rcases Nat.lt_or_ge j v.length with h' | h'
  ·exact y_ eR v.length (gQ _) h.fo j h' hjo
  ·obtain rfl:j=v.length:=by omega
   have h1:=yp eR b (n:=v.length) (m:=v.length) (gQ _) (by rw [List.length_append];omega)
   rw [List.take_left' rfl] at h1
   rw [mg]
   unfold kt
   rw [<- h1]
   exact hx
mutual
def kE:Ty->Bs->List Bs
 | .mk ts,p=>(113::p)::(116::p)::(102::p)::zd ts 0 p
def zd:List Ty->Nat->Bs->List Bs
 | [],_,_=>[]
 | a::ts,i,p=>kE a (p++dec i)++zd ts (i+1) p
end
theorem movesT_eq (t:Ty) (p:Bs):kE t p=[113::p,116::p,102::p]++zd t.args 0 p:=by
 cases t;rw [kE];rfl
theorem yf:∀ (ts:List Ty) (a:Ty) (i:Nat) (p:Bs),zd (ts++[a]) i p=zd ts i p++kE a (p++dec (i+ts.length))
 | [],a,i,p=>by rw [List.nil_append,zd,zd,zd];simp
 | b::ts,a,i,p=>by rw [List.cons_append,zd,zd,yf ts a (i+1) p,List.append_assoc,List.length_cons,show i+1+ts.length=i+(ts.length+1) from by omega]
theorem movesTs_take {ts:List Ty} {i:Nat} {a:Ty} (h:ts[i]? = some a) (p:Bs):zd (ts.take (i+1)) 0 p=zd (ts.take i) 0 p++kE a (p++dec i):=by
 have hl:=(List.getElem?_eq_some_iff.1 h).1
 rw [List.take_add_one,h,Option.toList_some,yf,List.length_take,show 0+min i ts.length=i from by omega]
mutual
theorem pG:∀ (t:Ty) (p:Bs),2*(kE t p).length<=3*(zY t+1)
 | .mk ts,p=>by
   have:=uq ts 0 p
   rw [kE,zY]
   simp only [List.length_cons];omega
theorem uq:∀ (ts:List Ty) (i:Nat) (p:Bs),2*(zd ts i p).length<=3*zF ts
 | [],_,_=>by simp [zd]
 | a::ts,i,p=>by
   have h1:=pG a (p++dec i)
   have h2:=uq ts (i+1) p
   rw [zd,zF,List.length_append];omega
end
mutual
theorem movesT_ok (t0:Ty):∀ (t:Ty) (p:Bs),atT t0 p=some t->zY t<=15->∀ m∈kE t p,vN t0 m=true
 | .mk ts,p,h,gA,m,hm=>by
   rw [kE] at hm
   simp only [List.mem_cons] at hm
   rcases hm with rfl | rfl | rfl | hm
   ·simp only [vN,h];rfl
   ·simp only [vN,h];rfl
   ·simp only [vN,h];rfl
   ·have h1:=qY (.mk ts)
    refine pP t0 (.mk ts) p h ts 0 (by simp [Ty.args]) (by show 0+ts.length<=10;have:(Ty.mk ts).args=ts:=rfl;rw [this] at h1;omega) (fun a ha=>?_) m hm
    obtain ⟨i,hi⟩:=List.mem_iff_getElem?.1 ha
    have:=yS (t:=.mk ts) hi
    omega
theorem pP (t0 t:Ty) (p:Bs) (h:atT t0 p=some t):∀ (ts:List Ty) (i:Nat),ts=t.args.drop i->i+ts.length<=10->(∀ a∈ts,zY a<=15)->∀ m∈zd ts i p,vN t0 m=true
 | [],_,_,_,_,m,hm=>by simp [zd] at hm
 | a::ts,i,e,h10,gA,m,hm=>by
   rw [List.length_cons] at h10
   rw [zd,List.mem_append] at hm
   have ha:t.args[i]? = some a:=by
    have:(t.args.drop i)[0]? = some a:=by rw [<- e];rfl
    rwa [List.getElem?_drop,Nat.add_zero] at this
   rcases hm with hm | hm
   ·refine movesT_ok t0 a (p++dec i) ?_ (gA a (List.mem_cons_self ..)) m hm
    rw [jD,h,Option.bind_some,qV (by omega),atT_digit _ (by omega)];exact ha
   ·refine pP t0 t p h ts (i+1) ?_ (by omega) (fun a' h'=>gA a' (List.mem_cons_of_mem _ h')) m hm
    rw [<- List.drop_drop,<- e];rfl
end
def xZ (t:Ty) (v:Pl) (m:Bs) (i:Nat):Bool:=zS t (v++[(m,(i:Int))]) && qm (v++[(m,(i:Int))])
def wa (t:Ty) (v:Pl) (i:Nat) (ms:List Bs):List Pl:=ms.filterMap fun m=>if xZ t v m i then some (v++[(m,(i:Int))]) else none
def uz (t:Ty) (v:Pl) (n:Nat):List Pl:=(List.range n).flatMap fun i=>wa t v i (kE t [])
def jL (t:Ty) (v:Pl):List Pl:=if v.length=0 then [[([113],-1)]] else uz t v v.length
theorem rowL_snoc (t:Ty) (v:Pl) (i:Nat) (ms:List Bs) (m:Bs):wa t v i (ms++[m])=wa t v i ms++(if xZ t v m i then [v++[(m,(i:Int))]] else []):=by
 unfold wa
 rw [List.filterMap_append]
 congr 1
 by_cases h:xZ t v m i=true
 ·simp [h]
 ·simp [h]
theorem rowL_take {t:Ty} {v:Pl} {i j:Nat} {ms:List Bs} {m:Bs} (h:ms[j]? = some m):wa t v i (ms.take (j+1))=wa t v i (ms.take j)++(if xZ t v m i then [v++[(m,(i:Int))]] else []):=by
 rw [List.take_add_one,h,Option.toList_some,rowL_snoc]
theorem rowL_nil (t:Ty) (v:Pl) (i:Nat):wa t v i []=[]:=rfl
theorem pX (t:Ty) (v:Pl) (n:Nat):uz t v (n+1)=uz t v n++wa t v n (kE t []):=by
 unfold uz;rw [List.range_succ,List.flatMap_append];simp
theorem rowL_len (t:Ty) (v:Pl) (i:Nat) (ms:List Bs):(wa t v i ms).length<=ms.length:=List.length_filterMap_le ..
theorem pW {t:Ty} (gA:zY t<=15) (p:Bs):(kE t p).length<=24:=by have:=pG t p;omega
theorem xI {t:Ty} (gA:zY t<=15) (v:Pl):∀ n,(uz t v n).length<=24*n
 | 0=>by simp [uz]
 | n+1=>by
   have h1:=xI gA v n
   have h2:=rowL_len t v n (kE t [])
   have h3:=pW gA []
   rw [pX,List.length_append];omega
theorem nextL_len {t:Ty} (gA:zY t<=15) (v:Pl):(jL t v).length<=24*v.length+1:=by
 unfold jL
 split
 ·simp
 ·have:=xI gA v v.length;omega
def LegPl (t:Ty) (v:Pl):Prop:=zS t v=true/\qm v=true
theorem mem_next {t:Ty} {v u:Pl} (h0:v.length≠0) (h:u∈jL t v):∃ m i,i<v.length/\u=v++[(m,(i:Int))]/\LegPl t u:=by
 unfold jL uz at h
 rw [if_neg h0] at h
 simp only [List.mem_flatMap,List.mem_range,wa,List.mem_filterMap] at h
 obtain ⟨i,hi,m,_,hm⟩:=h
 split at hm
 ·rename_i hf
  obtain rfl:=Option.some.inj hm
  unfold xZ at hf
  rw [Bool.and_eq_true] at hf
  exact ⟨m,i,hi,rfl,hf⟩
 ·simp at hm
theorem leg_first (t:Ty):LegPl t [([113],-1)]:=by
 constructor
 ·unfold zS qX qX j2 vN
  simp only [List.length_singleton,List.getElem?_cons_zero,jR]
  rfl
 ·decide
theorem next_leg {t:Ty} {v u:Pl} (h:u∈jL t v):LegPl t u/\u.length=v.length+1:=by
 by_cases h0:v.length=0
 ·unfold jL at h
  rw [if_pos h0,List.mem_singleton] at h
  subst h
  exact ⟨leg_first t,by rw [h0];rfl⟩
 ·obtain ⟨m,i,hi,rfl,hl⟩:=mem_next h0 h
  exact ⟨hl,by rw [List.length_append];rfl⟩
theorem next_in {t:Ty} {b:Bd} {v u:Pl} (hv:InPl t b v) (he:v.length % 2=0) (h:u∈jL t v):InPl t b u/\u.length=v.length+1:=by
 obtain ⟨h1,h2⟩:=next_leg h
 refine ⟨⟨h1.1,h1.2,fun j hj hjo=>?_⟩,h2⟩
 by_cases h0:v.length=0
 ·omega
 ·obtain ⟨m,i,hi,rfl,hl⟩:=mem_next h0 h
  exact y_ hl.1 v.length (gQ _) hv.fo j (by omega) hjo
def stepL (t:Ty) (b:Bd) (v:Pl):List Pl:=match jY t b v with
 | none=>[]
 | some u=>jL t u
def v7 (t:Ty) (b:Bd):Nat->List Pl
 | 0=>jL t []
 | r+1=>(v7 t b r).flatMap (stepL t b)
def jZ (t:Ty) (b:Bd):Nat->List Pl
 | 0=>[[]]
 | r+1=>jZ t b r++v7 t b r
theorem in_nil (t:Ty) (b:Bd):InPl t b []:=⟨rfl,rfl,fun i hi=>absurd hi (by simp)⟩
theorem last_in {t:Ty} {b:Bd} (gA:zY t<=15) (hf:zm t.args b) (hw:wfB b):∀ r,r<=20->∀ u∈v7 t b r,InPl t b u/\u.length=2*r+1
 | 0,_,u,hu=>by
   obtain ⟨h1,h2⟩:=next_in (in_nil t b) rfl hu
   exact ⟨h1,h2⟩
 | r+1,hr,u,hu=>by
   rw [v7,List.mem_flatMap] at hu
   obtain ⟨v,hv,hu⟩:=hu
   obtain ⟨h1,h2⟩:=last_in gA hf hw r (by omega) v hv
   unfold stepL jY at hu
   rw [if_neg (by omega)] at hu
   cases hx:kt t b v v.length with
   | none=>rw [hx] at hu;simp at hu
   | some x =>
     rw [hx] at hu
     simp only [Option.map_some] at hu
     have h3:=xi gA hf hw h1 (by omega) (by omega) hx
     have hl:(v++[x]).length=v.length+1:=by rw [List.length_append];rfl
     obtain ⟨h4,h5⟩:=next_in h3 (by omega) hu
     exact ⟨h4,by omega⟩
theorem pY {t:Ty} {b:Bd} (gA:zY t<=15) (hf:zm t.args b) (hw:wfB b):∀ r,r<=20->∀ u∈jZ t b r,InPl t b u/\u.length<=2*r/\(u.length=0\/u.length % 2=1)
 | 0,_,u,hu=>by
   rw [jZ,List.mem_singleton] at hu
   subst hu
   exact ⟨in_nil t b,gQ _,.inl rfl⟩
 | r+1,hr,u,hu=>by
   rw [jZ,List.mem_append] at hu
   rcases hu with hu | hu
   ·obtain ⟨h1,h2,h3⟩:=pY gA hf hw r (by omega) u hu
    exact ⟨h1,by omega,h3⟩
   ·obtain ⟨h1,h2⟩:=last_in gA hf hw r (by omega) u hu
    exact ⟨h1,by omega,.inr (by omega)⟩
theorem outAt_mono (t:Ty) (b:Bd) {r q:Nat} (h:r<=q):(jZ t b r).length<=(jZ t b q).length:=by
 induction q with
 | zero=>obtain rfl:r=0:=by omega
         exact gQ _
 | succ q ih =>
   rcases Nat.lt_or_ge r (q+1) with h' | h'
   ·have:=ih (by omega)
    rw [jZ,List.length_append];omega
   ·obtain rfl:r=q+1:=by omega
    exact gQ _
def kL (s text:Bs) (n:Int):Option (List Pl):=match zX s text with
 | none=>none
 | some b=>if n<0\/8<n then none else if 300<(jZ (zQ s).1 b ((n.toNat+1) / 2)).length then none else some (jZ (zQ s).1 b ((n.toNat+1) / 2))
theorem flat_take {α β:Type} {l:List α} {i:Nat} {x:α} (h:l[i]? = some x) (f:α->List β):(l.take (i+1)).flatMap f=(l.take i).flatMap f++f x:=by
 rw [List.take_add_one,h,Option.toList_some,List.flatMap_append];simp
theorem flat_take_le {α β:Type} (l:List α) (f:α->List β) (i:Nat):((l.take i).flatMap f).length<=(l.flatMap f).length:=by
 have:(l.take i).flatMap f++(l.drop i).flatMap f=l.flatMap f:=by rw [<- List.flatMap_append,List.take_append_drop]
 rw [<- this,List.length_append];omega


end Go.Proofs.YtfedjhgaeikjmaaGreatDoor

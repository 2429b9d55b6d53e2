/- Walks of functions that the statement reaches, and plain words. No conditions. -/
import Derived.Maps.Own
import Derived.Maps.Views
import Derived.Laws.DeepNot64
import Derived.Test.YtdhaafoiokkbnaaGreatDoorQ8
set_option linter.unusedVariables false
set_option linter.unusedSimpArgs false
set_option maxHeartbeats 8000000
namespace Go.Proofs.YtdhaafoiokkbnaaGreatDoor
open Go.RowKit
def qN (v:Pl):Nat->List Int->Int
 | 0,_=>-1
 | k+1,ans=>match v[k]? with
   | none=>-1
   | some x=>if isQ x.1 then (if ans.contains (k:Int) then qN v k ans else (k:Int)) else qN v k (ans++[x.2])
theorem wF {v:Pl} {k:Nat} {m:Bs} {z:Int} (h:v[k]? = some (m,z)) (ans:List Int):qN v (k+1) ans=if isQ m then (if ans.contains (k:Int) then qN v k ans else (k:Int)) else qN v k (ans++[z]):=by
 rw [qN,h]
def setD (ans:List Int):DataW Unit:=ans.foldl (fun D z=>D.put (.int .i64 z) (.lit (.bool true))) (.map [])
theorem setD_snoc (ans:List Int) (z:Int):setD (ans++[z])=(setD ans).put (.int .i64 z) (.lit (.bool true)):=by
 unfold setD;rw [List.foldl_append];rfl
theorem bp (z:Int):∀ (ans:List Int) (D:DataW Unit) (b:Bool),Maps.IsMap D->D.atKey (.int .i64 z) (.lit (.bool false))=.lit (.bool b)->(ans.foldl (fun D z=>D.put (.int .i64 z) (.lit (.bool true))) D).atKey (.int .i64 z) (.lit (.bool false))=.lit (.bool (b || ans.contains z))
 | [],D,b,_,h=>by simpa using h
 | x::r,D,b,hm,h=>by
   rw [List.foldl_cons]
   by_cases hx:z=x
   ·subst hx
    rw [bp z r _ true (hm.put _ _) (Maps.atKey_put_same hm (show WideAt.IsKeyLit (.int .i64 z) from trivial) _ _)]
    simp
   ·rw [bp z r _ b (hm.put _ _) (by rw [Maps.atKey_put_other (by simpa using hx)];exact h)]
    simp [hx]
theorem setD_at (ans:List Int) (z:Int):(setD ans).atKey (.int .i64 z) (.lit (.bool false))=.lit (.bool (ans.contains z)):=by
 unfold setD
 rw [bp z ans _ false Maps.isMap_empty rfl,Bool.false_or]
theorem ownsMap_bool {P:Program} {k:TypeId} {w:World} {b n:Nat} {D:DataW Unit} {t e:TypeId} (h:w.ownsMap P k (plainElem P e) b n D) (K:Maps.Keyed P k) (ht:P.underlying t=some (.map k e)) (he:P.underlying e=some .bool) (hz:(zeroValue e).run P w=.ok (.bool false) w)
 {key:Value} {kl:Lit} (hkey:keyOf P k key=some kl):∃ c,(Instr.lookup t (.map (some b)) key false).run P w=.ok (.bool c) w/\D.atKey kl (.lit (.bool false))=.lit (.bool c):=by
 obtain ⟨v,ps,iK,hv⟩:=h.lookup K ht hz (plainElem_bool he false) hkey
 unfold plainElem at hv
 rw [he] at hv
 cases v <;> simp at hv
 exact ⟨_,iK,hv.1.symm⟩
theorem Tryz.lawI:Maps.Keyed Tryz.prog 3:=Maps.int_keyed Tryz.underlying3
theorem Tryz.zeroB (w:World):(zeroValue 4).run Tryz.prog w=.ok (.bool false) w:=by kernel_rfl
theorem keyI {z:Int} (h1 : -2000<=z) (h2:z<=1000000):keyOf Tryz.prog 3 (.int .i64 z)=some (.int .i64 z):=Maps.keyOf_int_mk Tryz.underlying3 (WalkArith.wf_i64 ⟨by omega,by omega⟩)
set_option maxRecDepth 100000 in
theorem pending_any (F:Nat->Prop) (t:Ty) (v:Pl) (n:Nat) (mv pt:Value) (w:World) (hm:vR F w v mv) (hp:vM F w v pt) (hv:zL t v=true) (hn:n<=v.length) :
 Calls Tryz.prog 81 #[.agg #[mv,pt],.int .i64 (n:Nat)] w fun en w'=>en=.returned (.int .i64 (qN v n []))/\Below w.heap.size w w':=by
 have mT:=jV hv
 obtain ⟨ma,mc,rfl,mW⟩:=hm.cells
 obtain ⟨pa,pc,rfl,mB⟩:=hp.cells
 obtain ⟨W,hW,cO,hz,b0⟩:=q_ w (.cells #[.slice ma v.length mc,.slice pa v.length pc] 28)
 obtain ⟨c0,c1,_,_⟩:=kp b0
 have hwn:IntKind.i64.wrap ((n:Int)-1)=(n:Int)-1:=yk _ (by omega) (by omega)
 have HH:=cH (cB mW (cB mB (cB cO hv)))
 have HW:=cH hW
 have iG:=@run_makeMap Tryz.prog
 clear hm hp mW mB hz b0 cO hW hv
 go_enter Tryz.func81,Tryz.ntmps81
 go_upto_region 1 with (fail)
 rw [HW.out]
 go_wp2_with fail
 go_loopw [6] (fun i wr=>∃ (r:Nat) (ans:List Int),i=.int .i64 ((r:Int)-1)/\r+ans.length<=n/\qN v r ans=qN v n []/\wr.ownsMap Tryz.prog 3 (plainElem (H:=Unit) Tryz.prog 4) W.heap.size ans.length (setD ans)/\Below W.heap.size W wr) (fun i _=>(intOf i+1).toNat)
 case atStart=>exact ⟨n,[],rfl,by simp,rfl,World.ownsMap_made _ _ _ _,(cE _ _).alloc (cC _) _⟩
 case round =>
  obtain ⟨r,ans,rfl,m9,lQ,ho,hB⟩:=hrel
  have HB:=cH hB;have HP:=cH lQ;have HO:=cH ho
  clear hB lQ ho
  cases r with
  | zero =>
    have e0:(((0:Nat):Int)-1) = -1:=rfl
    have E:=cH (show qN v n [] = -1 by rw [<- HP.out];rfl)
    rw [e0]
    go_wp2_with fail
    go_ret
    exact ⟨by rw [E.out];rfl,zzT HH.out.2.2.1 HB.out⟩
  | succ k =>
    have ek:(((k+1:Nat):Int)-1)=(k:Int):=by omega
    rw [ek]
    have iB:k<v.length:=by omega
    have hkvI:(k:Int)<(v.length:Int):=by omega
    obtain ⟨x,p,z,dw,co⟩:=kg HH.out.2.2.2 iB
    obtain ⟨mb,mo,rfl,_,mu,fj⟩:=HH.out.1 k _ dw
    obtain ⟨pb,po,rfl,_,m_,mH⟩:=HH.out.2.1 k _ dw
    have hz:=good_pos co
    have hwk:IntKind.i64.wrap ((k:Int)-1)=(k:Int)-1:=yk _ (by omega) (by omega)
    obtain ⟨d0,d1,m0,p0⟩:wr.cell? ⟨w.heap.size,0,none⟩=some (.slice (some ⟨mb,mo,none⟩) v.length mc)/\wr.cell? ⟨w.heap.size,1,none⟩=some (.slice (some ⟨pb,po,none⟩) v.length pc)/\wr.cell? ⟨mb,mo+k,none⟩=some (str (x::p))/\wr.cell? ⟨pb,po+k,none⟩=some (.int .i64 z):=by
     have hy:=HB.out
     have fC:=zzT HH.out.2.2.1 hy
     exact ⟨(hy.cell (cD _ _ c0)).trans c0,(hy.cell (cD _ _ c1)).trans c1,(fC.cell (p:=⟨mb,mo+k,none⟩) mu).trans fj,(fC.cell (p:=⟨pb,po+k,none⟩) m_).trans mH⟩
    have CB:=jm x p wr
    have HQ:=wF dw ans
    cases hq:isQ (x::p) with
    | false =>
      rw [hq] at CB HQ
      have E:=cH (HP.out.symm.trans HQ)
      have CB:=cH CB
      have kz:=cH (keyI (z:=z) (by omega) (by omega))
      clear c0 c1 dw co mu fj m_ mH hq HQ
      go_wp2_with fail
      (with_reducible refine CB.out.mono ?_)
      rintro en w9 ⟨rfl,e⟩
      subst w9
      go_wp2_with (at_mapUpdate;refine wpList_mapUpdate_own (H:=Unit) _ rfl _ _ _ 169 rfl 3 4 Tryz.lawI Tryz.underlying169 (plainElem Tryz.prog 4) W.heap.size ans.length _ rfl HO.out (by unfold maxLen;omega) _ _ _ rfl rfl kz.out _ [] (plainElem_bool Tryz.underlying4 true) ?_)
      intro w1 AJ AQ
      have af:Below W.heap.size W w1:=HB.out.trans ((But.ofGrown AQ).toBelow HB.out.size fun i hi e=>by simp at e;omega)
      rw [<- setD_snoc] at AJ
      have H1:=cH (cB AJ af)
      clear AJ AQ af d0 d1 m0 p0
      go_wp2_with fail
      go_roundw
      case rel=>exact ⟨k,ans++[z],rfl,by rw [List.length_append];simp;omega,E.out.symm,by rw [List.length_append];exact H1.out.1,H1.out.2⟩
      case measure=>simp [intOf]
    | true =>
      rw [hq] at CB HQ
      obtain ⟨c,iK,hat⟩:=ownsMap_bool HO.out Tryz.lawI Tryz.underlying169 Tryz.underlying4 (Tryz.zeroB _) (keyI (z:=(k:Int)) (by omega) (by omega))
      rw [setD_at] at hat
      obtain rfl:ans.contains (k:Int)=c:=by simpa using hat
      have E:=cH (HP.out.symm.trans HQ)
      have CB:=cH CB
      clear c0 c1 dw co mu fj m_ mH hq HQ hat
      cases hc:ans.contains (k:Int) with
      | true =>
        rw [hc] at iK E
        clear hc
        go_wp2_with fail
        (with_reducible refine CB.out.mono ?_)
        rintro en w9 ⟨rfl,e⟩
        subst w9
        go_wp2_with fail
        go_roundw
        case rel=>exact ⟨k,ans,rfl,by omega,E.out.symm,HO.out,HB.out⟩
        case measure=>simp [intOf]
      | false =>
        rw [hc] at iK E
        clear hc
        go_wp2_with fail
        (with_reducible refine CB.out.mono ?_)
        rintro en w9 ⟨rfl,e⟩
        subst w9
        go_wp2_with fail
        go_ret
        exact ⟨by rw [E.out];rfl,zzT HH.out.2.2.1 HB.out⟩

def uV (p:Nat->Bool):Nat->Bool
 | 0=>true
 | n+1=>uV p n && p n
theorem xM {p:Nat->Bool}:∀ {n i:Nat},uV p n=true->i<n->p i=true
 | 0,i,_,hi=>absurd hi (by omega)
 | n+1,i,h,hi=>by
   rw [uV,Bool.and_eq_true] at h
   rcases Nat.lt_or_ge i n with h' | h'
   ·exact xM h.1 h'
   ·obtain rfl:i=n:=by omega
    exact h.2
theorem allP_no {p:Nat->Bool} {n i:Nat} (h:p i=false) (hi:i<n):uV p n=false:=by
 cases hh:uV p n with
 | false=>rfl
 | true=>rw [xM hh hi] at h;simp at h
theorem gq {p:Nat->Bool}:∀ {n:Nat},(∀ i,i<n->p i=true)->uV p n=true
 | 0,_=>rfl
 | n+1,h=>by rw [uV,gq (fun i hi=>h i (by omega)),h n (by omega)];rfl
theorem allP_le {p:Nat->Bool} {n m:Nat} (h:uV p n=true) (hm:m<=n):uV p m=true:=gq fun i hi=>xM h (by omega)
def yq (v:Pl) (i:Nat):Bool:=if i=0 then true else match v[i]? with
 | none=>true
 | some x=>((kB v (qZ x.1) i).map fun n=>((n:Nat):Int)).contains x.2
def gF (v:Pl) (i:Nat):Bool:=match v[i]? with
 | none=>true
 | some x=>isQ x.1 || x.2 == qN v i []
def visP (v:Pl):Bool:=uV (yq v) v.length
def brP (v:Pl):Bool:=uV (gF v) v.length
def v_ (v:Pl):Bool:=visP v && brP v
theorem visAt_at {v:Pl} {i:Nat} {m:Bs} {z:Int} (h:v[i]? = some (m,z)) (hi:0<i):yq v i=((kB v (qZ m) i).map fun n=>((n:Nat):Int)).contains z:=by
 unfold yq;rw [if_neg (by omega),h]
theorem brAt_at {v:Pl} {i:Nat} {m:Bs} {z:Int} (h:v[i]? = some (m,z)):gF v i=(isQ m || z == qN v i []):=by
 unfold gF;rw [h]
theorem viewD_len (v:Pl) (opp:Bool):∀ f n,(jR v opp f n).length<=f
 | 0,_=>by simp [jR]
 | f+1,0=>by rw [jo];simp
 | f+1,n+1=>by rw [kk,List.length_cons];have:=viewD_len v opp f (qh v opp n);omega
theorem viewP_len (v:Pl) (opp:Bool) (n:Nat):(kB v opp n).length<=n:=by
 unfold kB;rw [List.length_reverse];exact viewD_len v opp n n
theorem contains_view {w:World} {ns:List Nat} {x:Value} (h:NatAt w ns x) (hl:ns.length<=1000000) (z:Int) :
 Calls Tryz.prog 79 #[x,.int .i64 z] w fun en w'=>en=.returned (.bool ((ns.map fun n=>((n:Nat):Int)).contains z))/\w'=w:=by
 obtain ⟨b,o,c,rfl,hb,hc⟩:=h
 refine (Tryz.slices_Contains_int b o ns.length c (ns.map fun n=>((n:Nat):Int)) z w (by simp) (by omega) (fun j hj=>?_)).mono ?_
 ·rw [List.length_map] at hj
  rw [hc j ns[j] (List.getElem?_eq_getElem hj),List.getD_eq_getElem?_getD,List.getElem?_map,List.getElem?_eq_getElem hj];rfl
 ·rintro en w' ⟨rfl,e⟩
  exact ⟨by rw [List.take_of_length_le (by simp)],e⟩
structure gN (F:Nat->Prop) (t:Ty) (v:Pl) (mv pt:Value) (w:World):Prop where
 m:vR F w v mv
 p:vM F w v pt
 ok:zL t v=true
 l:∀ x∈v,x.1.length<=16777216
theorem gN.below {F:Nat->Prop} {t:Ty} {v:Pl} {mv pt:Value} {w w':World} (h:gN F t v mv pt w) (hb:Below w.heap.size w w'):gN F t v mv pt w':=⟨Rep.below hb (fun _ h=>h) h.m,Rep.below hb (fun _ h=>h) h.p,h.ok,h.l⟩
set_option maxRecDepth 100000 in
theorem visible_any (F:Nat->Prop) (t:Ty) (v:Pl) (mv pt:Value) (w:World) (h:gN F t v mv pt w) :
 Calls Tryz.prog 60 #[.agg #[mv,pt]] w fun en w'=>en=.returned (.bool (visP v))/\Below w.heap.size w w':=by
 have mT:=jV h.ok
 obtain ⟨ma,mc,rfl,mW⟩:=h.m.cells
 obtain ⟨pa,pc,rfl,mB⟩:=h.p.cells
 obtain ⟨W,hW,cO,hz,b0⟩:=q_ w (.cells #[.slice ma v.length mc,.slice pa v.length pc] 28)
 obtain ⟨c0,c1,_,_⟩:=kp b0
 have HH:=cH (cB mW (cB mB (cB cO (h.below cO))))
 have HW:=cH hW
 clear h mW mB hz b0 cO hW
 go_enter Tryz.func60,Tryz.ntmps60
 go_upto_region 1 with (fail)
 rw [HW.out]
 go_wp2_with fail
 go_loopw [3] (fun i wr=>∃ (wz:World) (k:Nat),wz=wr/\1<=k/\k<=v.length+1/\i=.int .i64 k/\uV (yq v) k=true/\Below W.heap.size W wz) (fun i _=>v.length+1-(intOf i).toNat)
 case atStart=>exact ⟨_,1,rfl,cC _,by omega,rfl,rfl,cE _ _⟩
 case round =>
  obtain ⟨wr,k,rfl,hk1,hk,rfl,dC,hB⟩:=hrel
  have d0:=(hB.cell (cD _ _ c0)).trans c0
  have d1:=(hB.cell (cD _ _ c1)).trans c1
  clear c0 c1
  have HB:=cH (cB hB (zzT HH.out.2.2.1 hB))
  clear hB
  by_cases cL:k<v.length
  ·have nS:(k:Int)<(v.length:Int):=by omega
   obtain ⟨x,p,z,dw,co⟩:=kg HH.out.2.2.2.ok cL
   have dU:=HH.out.2.2.2.l _ (List.mem_of_getElem? dw)
   rw [List.length_cons] at dU
   obtain ⟨mb,mo,rfl,_,mu,fj⟩:=HH.out.1 k _ dw
   obtain ⟨pb,po,rfl,_,m_,mH⟩:=HH.out.2.1 k _ dw
   have m0:=(HB.out.2.cell (p:=⟨mb,mo+k,none⟩) mu).trans fj
   have p0:=(HB.out.2.cell (p:=⟨pb,po+k,none⟩) m_).trans mH
   have PLR:=cH (fun (y:World) (hy:Below wr.heap.size wr y)=>(HH.out.2.2.2.below HB.out.1).below hy)
   have VK:=visAt_at dw (by omega)
   have CB:=cH (uQ x p (show p.length<=16777216 by omega))
   obtain ⟨bo,n8⟩:=zzN (qZ (x::p))
   rw [n8] at VK CB
   obtain ⟨cn,aq⟩:=zzN (yq v k)
   rw [aq] at VK
   have CV:=cH (fun (y:World) (hy:Below wr.heap.size wr y)=>view_any F t v bo k _ _ y (PLR.out y hy).m (PLR.out y hy).p HH.out.2.2.2.ok (by omega) (by omega) HH.out.2.2.2.l)
   have HV:=cH (cB VK (cB aq (cB dC cL)))
   have KEY:=cH (fun (y:World) (hy:Below wr.heap.size wr y)=>(show y.cell? ⟨w.heap.size,0,none⟩=some (.slice (some ⟨mb,mo,none⟩) v.length mc)/\y.cell? ⟨w.heap.size,1,none⟩=some (.slice (some ⟨pb,po,none⟩) v.length pc)/\y.cell? ⟨mb,mo+k,none⟩=some (str (x::p))/\y.cell? ⟨pb,po+k,none⟩=some (.int .i64 z) from
    ⟨(hy.cell (cD _ _ d0)).trans d0,(hy.cell (cD _ _ d1)).trans d1,(hy.cell (cD _ _ m0)).trans m0,(hy.cell (cD _ _ p0)).trans p0⟩))
   clear dw co dU mu fj m_ mH n8 aq VK dC
   go_upto_region 4 with (fail)
   clear d0 d1 m0 p0
   refine wp_region_noPanic ?_
   refine zm (fun w'=>Below wr.heap.size wr w') (fun _=>false) (by kernel_rfl) ?_
   have cI:(fun w'=>Below wr.heap.size wr w') wr.drew:=Below.drew (cE _ _)
   refine tk [0,1,2] cI ?_
   (intro d hd;simp [tkD] at hd;subst hd;simp only [tks,pQ,pZ,pS])
   iterate 3 (refine ⟨?_,?_,?_⟩;rotate_left;· (intro oi ho;simp at ho;subst ho;refine Or.inl ⟨by rfl,fun w' cv=>?_⟩;have e0:=(KEY.out w' cv).1;have e1:=(KEY.out w' cv).2.1;go_simp;try with_reducible rfl))
   refine tk [3,4,5] cI ?_
   (intro d hd;simp [tkD] at hd;subst hd;simp only [tks,pQ,pZ,pS])
   iterate 3 (refine ⟨?_,?_,?_⟩;rotate_left;· (intro oi ho;simp at ho;subst ho;refine Or.inl ⟨by rfl,fun w' cv=>?_⟩;have e0:=(KEY.out w' cv).1;go_simp;try with_reducible rfl))
   refine tk [6,9] cI ?_
   (intro d hd;simp [tkD] at hd;subst hd;simp only [tks,pQ,pZ,pS])
   iterate 2 (refine ⟨?_,?_,?_⟩;rotate_left;· (intro oi ho;simp at ho;subst ho;refine Or.inl ⟨by rfl,fun w' cv=>?_⟩;have e0:=(KEY.out w' cv).2.2.1;go_simp;try with_reducible rfl))
   refine tk [10,11,12] cI ?_
   (intro d hd;simp [tkD] at hd;subst hd;simp only [tks,pQ,pZ,pS])
   iterate 3 (refine ⟨?_,?_,?_⟩;rotate_left;· (intro oi ho;simp at ho;subst ho;refine Or.inl ⟨by rfl,fun w' cv=>?_⟩;have e0:=(KEY.out w' cv).2.1;go_simp;try with_reducible rfl))
   refine tk [13] cI ?_
   (intro d hd;simp [tkD] at hd;subst hd;simp only [tks,pQ,pZ,pS])
   (refine ⟨?_,?_,?_⟩;rotate_left;· (intro oi ho;simp at ho;subst ho;refine Or.inl ⟨by rfl,fun w' cv=>?_⟩;have e0:=(KEY.out w' cv).2.2.2;go_simp;try with_reducible rfl))
   (refine on 7 ?_;intro o ho K' hK;simp at ho;subst ho;go_simp)
   go_at_call 77
   (with_reducible refine (CB.out _).mono ?_)
   rintro en x7 ⟨rfl,e⟩
   subst x7
   (refine hK.out _ _ (fun _=>cI) ?_;clear hK K';try simp only [pQ,pN,pZ,pS])
   (refine on 8 ?_;intro o ho K' hK;simp at ho;subst ho;go_simp)
   go_at_call 62
   (with_reducible refine (CV.out _ cI).mono ?_)
   rintro en x8 ⟨xv,rfl,Dr,hn8⟩
   have rc:Below wr.heap.size wr x8:=zzT cI Dr
   have CC:=contains_view hn8 (by have:=viewP_len v bo k;omega) z
   rw [<- HV.out.1] at CC
   (refine hK.out _ _ (fun _=>rc) ?_;clear hK K';try simp only [pQ,pN,pZ,pS])
   (refine on 14 ?_;intro o ho K' hK;simp at ho;subst ho;go_simp)
   go_at_call 79
   (with_reducible refine CC.mono ?_)
   rintro en A7 ⟨rfl,e⟩
   subst A7
   clear CC
   (refine hK.out _ _ (fun _=>rc) ?_;clear hK K';try simp only [pQ,pN,pZ,pS])
   have ik:=rc
   refine tk [15] ik ?_
   (intro d hd;simp [tkD] at hd;subst hd;simp only [tks,pQ,pZ,pS])
   (refine ⟨?_,?_,?_⟩;rotate_left;· (intro oi ho;simp at ho;subst ho;refine Or.inl ⟨by rfl,fun w' cv=>?_⟩;go_simp;try with_reducible rfl))
   refine zt (by kernel_rfl) (NoPanic.normal ?_) _
   have Ef:=cH rc
   clear rc Dr hn8 cI ik KEY CV CB PLR
   cases cn with
   | true =>
     have E:=cH (show uV (yq v) (k+1)=true by rw [uV,HV.out.2.2.1,HV.out.2.1];rfl)
     go_wp2_with fail
     go_roundw
     case rel=>exact ⟨_,k+1,rfl,by omega,by omega,by go_num,E.out,zzT HB.out.1 Ef.out⟩
     case measure=>simp [intOf];omega
   | false =>
     have E:=cH (show visP v=false from allP_no HV.out.2.1 HV.out.2.2.2)
     go_wp2_with fail
     go_ret
     exact ⟨by rw [E.out];rfl,zzT HB.out.2 Ef.out⟩
  ·have E:=cH (show visP v=true from allP_le dC (by omega))
   have nS:¬ (k:Int)<(v.length:Int):=by omega
   clear dC
   go_wp2_with fail
   go_ret
   exact ⟨by rw [E.out];rfl,HB.out.2⟩
set_option maxRecDepth 100000 in
theorem bracketed_any (F:Nat->Prop) (t:Ty) (v:Pl) (mv pt:Value) (w:World) (h:gN F t v mv pt w) :
 Calls Tryz.prog 61 #[.agg #[mv,pt]] w fun en w'=>en=.returned (.bool (brP v))/\Below w.heap.size w w':=by
 have mT:=jV h.ok
 obtain ⟨ma,mc,rfl,mW⟩:=h.m.cells
 obtain ⟨pa,pc,rfl,mB⟩:=h.p.cells
 obtain ⟨W,hW,cO,hz,b0⟩:=q_ w (.cells #[.slice ma v.length mc,.slice pa v.length pc] 28)
 obtain ⟨c0,c1,_,_⟩:=kp b0
 have HH:=cH (cB mW (cB mB (cB cO (h.below cO))))
 have HW:=cH hW
 clear h mW mB hz b0 cO hW
 go_enter Tryz.func61,Tryz.ntmps61
 go_upto_region 1 with (fail)
 rw [HW.out]
 go_wp2_with fail
 go_loopw [8] (fun i wr=>∃ (wz:World) (k:Nat),wz=wr/\k<=v.length/\i=.int .i64 k/\uV (gF v) k=true/\Below W.heap.size W wz) (fun i _=>v.length-(intOf i).toNat)
 case atStart=>exact ⟨_,0,rfl,Nat.zero_le _,rfl,rfl,cE _ _⟩
 case round =>
  obtain ⟨wr,k,rfl,hk,rfl,dC,hB⟩:=hrel
  have d0:=(hB.cell (cD _ _ c0)).trans c0
  have d1:=(hB.cell (cD _ _ c1)).trans c1
  clear c0 c1
  have HB:=cH (cB hB (zzT HH.out.2.2.1 hB))
  clear hB
  by_cases cL:k<v.length
  ·have nS:(k:Int)<(v.length:Int):=by omega
   obtain ⟨x,p,z,dw,co⟩:=kg HH.out.2.2.2.ok cL
   obtain ⟨mb,mo,rfl,_,mu,fj⟩:=HH.out.1 k _ dw
   obtain ⟨pb,po,rfl,_,m_,mH⟩:=HH.out.2.1 k _ dw
   have m0:=(HB.out.2.cell (p:=⟨mb,mo+k,none⟩) mu).trans fj
   have p0:=(HB.out.2.cell (p:=⟨pb,po+k,none⟩) m_).trans mH
   have PLR:=cH (fun (y:World) (hy:Below wr.heap.size wr y)=>(HH.out.2.2.2.below HB.out.1).below hy)
   have VK:=brAt_at dw
   have CB:=cH (jm x p)
   obtain ⟨q,hq⟩:=zzN (isQ (x::p))
   obtain ⟨M,hM⟩:=zzM (x::p)
   obtain ⟨cn,aq⟩:=zzN (gF v k)
   rw [hq] at VK CB
   rw [aq] at VK
   rw [<- hM] at m0 CB
   have CV:=cH (fun (y:World) (hy:Below wr.heap.size wr y)=>pending_any F t v k _ _ y (PLR.out y hy).m (PLR.out y hy).p HH.out.2.2.2.ok (by omega))
   have KEY:=cH (fun (y:World) (hy:Below wr.heap.size wr y)=>(show y.cell? ⟨w.heap.size,0,none⟩=some (.slice (some ⟨mb,mo,none⟩) v.length mc)/\y.cell? ⟨w.heap.size,1,none⟩=some (.slice (some ⟨pb,po,none⟩) v.length pc)/\y.cell? ⟨pb,po+k,none⟩=some (.int .i64 z) from
    ⟨(hy.cell (cD _ _ d0)).trans d0,(hy.cell (cD _ _ d1)).trans d1,(hy.cell (cD _ _ p0)).trans p0⟩))
   have HV:=cH (cB aq (cB dC cL))
   generalize lQ:qN v k []=pe at *
   clear dw co mu fj m_ mH hq aq dC lQ hM
   cases q with
   | true =>
     obtain rfl:cn=true:=by rw [VK];rfl
     clear VK
     go_upto_region 4 with (fail)
     clear d0 d1 m0 p0
     refine wp_region_noPanic ?_
     refine zm (fun w'=>Below wr.heap.size wr w') (fun _=>false) (by kernel_rfl) ?_
     have cI:(fun w'=>Below wr.heap.size wr w') wr.drew:=Below.drew (cE _ _)
     refine tk [0] cI ?_
     (intro d hd;simp [tkD] at hd;subst hd;simp only [tks,pQ,pZ,pS])
     (refine ⟨?_,?_,?_⟩;rotate_left;· (intro oi ho;simp at ho;subst ho;refine Or.inl ⟨by rfl,fun w' cv=>?_⟩;go_simp;try with_reducible rfl))
     (refine on 1 ?_;intro o ho K' hK;simp at ho;subst ho;go_simp)
     go_at_call 80
     (with_reducible refine (CB.out _).mono ?_)
     rintro en x1 ⟨rfl,e⟩
     subst x1
     (refine hK.out _ _ (fun _=>cI) ?_;clear hK K';try simp only [pQ,pN,pZ,pS])
     refine tk [2,3,4,5,6,7,8,9,10,11,12,13] cI ?_
     (intro d hd;simp [tkD] at hd;subst hd;simp only [tks,pQ,pZ,pS])
     iterate 12 (refine ⟨?_,?_,?_⟩;rotate_left;· (intro oi ho;simp at ho;subst ho;first | (refine Or.inr ⟨by rfl,?_⟩;with_reducible rfl) | (refine Or.inl ⟨by rfl,fun w' cv=>?_⟩;go_simp;try with_reducible rfl)))
     refine zt (by kernel_rfl) (NoPanic.normal ?_) _
     have E:=cH (show uV (gF v) (k+1)=true by rw [uV,HV.out.2.1,HV.out.1];rfl)
     clear KEY CV CB PLR cI
     go_wp2_with fail
     go_roundw
     case rel=>exact ⟨_,k+1,rfl,by omega,by go_num,E.out,HB.out.1.drew⟩
     case measure=>simp [intOf];omega
   | false =>
     rw [Bool.false_or] at VK
     go_upto_region 4 with (fail)
     clear d0 d1 m0 p0
     refine wp_region_noPanic ?_
     refine zm (fun w'=>Below wr.heap.size wr w') (fun _=>false) (by kernel_rfl) ?_
     have cI:(fun w'=>Below wr.heap.size wr w') wr.drew:=Below.drew (cE _ _)
     refine tk [0] cI ?_
     (intro d hd;simp [tkD] at hd;subst hd;simp only [tks,pQ,pZ,pS])
     (refine ⟨?_,?_,?_⟩;rotate_left;· (intro oi ho;simp at ho;subst ho;refine Or.inl ⟨by rfl,fun w' cv=>?_⟩;go_simp;try with_reducible rfl))
     (refine on 1 ?_;intro o ho K' hK;simp at ho;subst ho;go_simp)
     go_at_call 80
     (with_reducible refine (CB.out _).mono ?_)
     rintro en x1 ⟨rfl,e⟩
     subst x1
     (refine hK.out _ _ (fun _=>cI) ?_;clear hK K';try simp only [pQ,pN,pZ,pS])
     refine tk [2,3,4,5,6,7] cI ?_
     (intro d hd;simp [tkD] at hd;subst hd;simp only [tks,pQ,pZ,pS])
     iterate 6 (refine ⟨?_,?_,?_⟩;rotate_left;· (intro oi ho;simp at ho;subst ho;refine Or.inl ⟨by rfl,fun w' cv=>?_⟩;have e0:=(KEY.out w' cv).2.1;go_simp;try with_reducible rfl))
     refine tk [8] cI ?_
     (intro d hd;simp [tkD] at hd;subst hd;simp only [tks,pQ,pZ,pS])
     (refine ⟨?_,?_,?_⟩;rotate_left;· (intro oi ho;simp at ho;subst ho;refine Or.inl ⟨by rfl,fun w' cv=>?_⟩;have e0:=(KEY.out w' cv).2.2;go_simp;try with_reducible rfl))
     refine tk [9,10] cI ?_
     (intro d hd;simp [tkD] at hd;subst hd;simp only [tks,pQ,pZ,pS])
     iterate 2 (refine ⟨?_,?_,?_⟩;rotate_left;· (intro oi ho;simp at ho;subst ho;refine Or.inl ⟨by rfl,fun w' cv=>?_⟩;have e0:=(KEY.out w' cv).1;have e1:=(KEY.out w' cv).2.1;go_simp;try with_reducible rfl))
     (refine on 11 ?_;intro o ho K' hK;simp at ho;subst ho;go_simp)
     go_at_call 81
     (with_reducible refine (CV.out _ cI).mono ?_)
     rintro en A8 ⟨rfl,aV⟩
     have rc:Below wr.heap.size wr A8:=zzT cI aV
     (refine hK.out _ _ (fun _=>rc) ?_;clear hK K';try simp only [pQ,pN,pZ,pS])
     have DG:=rc
     refine tk [12,13] DG ?_
     (intro d hd;simp [tkD] at hd;subst hd;simp only [tks,pQ,pZ,pS])
     iterate 2 (refine ⟨?_,?_,?_⟩;rotate_left;· (intro oi ho;simp at ho;subst ho;refine Or.inl ⟨by rfl,fun w' cv=>?_⟩;go_simp;try with_reducible rfl))
     refine zt (by kernel_rfl) (NoPanic.normal ?_) _
     have Ef:=cH rc
     clear KEY CV CB PLR cI rc DG aV
     cases cn with
     | true =>
       have hne:(z != pe)=false:=by rw [bne,<- VK];rfl
       clear VK
       have E:=cH (show uV (gF v) (k+1)=true by rw [uV,HV.out.2.1,HV.out.1];rfl)
       go_wp2_with fail
       go_roundw
       case rel=>exact ⟨_,k+1,rfl,by omega,by go_num,E.out,zzT HB.out.1 Ef.out⟩
       case measure=>simp [intOf];omega
     | false =>
       have hne:(z != pe)=true:=by rw [bne,<- VK];rfl
       clear VK
       have E:=cH (show brP v=false from allP_no HV.out.1 HV.out.2.2)
       go_wp2_with fail
       go_ret
       exact ⟨by rw [E.out];rfl,zzT HB.out.2 Ef.out⟩
  ·obtain rfl:k=v.length:=by omega
   have E:=cH (show brP v=true from dC)
   clear dC
   go_wp2_with fail
   go_ret
   exact ⟨by rw [E.out];rfl,HB.out.2⟩
set_option maxRecDepth 100000 in
theorem legal_any (F:Nat->Prop) (t:Ty) (v:Pl) (mv pt:Value) (w:World) (h:gN F t v mv pt w) :
 Calls Tryz.prog 39 #[.agg #[mv,pt]] w fun en w'=>en=.returned (.bool (v_ v))/\Below w.heap.size w w':=by
 obtain ⟨ma,mc,rfl,mW⟩:=h.m.cells
 obtain ⟨pa,pc,rfl,mB⟩:=h.p.cells
 obtain ⟨W,hW,cO,hz,b0⟩:=q_ w (.cells #[.slice ma v.length mc,.slice pa v.length pc] 28)
 have C1:=cH (visible_any F t v _ _ W (h.below cO))
 have C2:=cH (fun (y:World) (hy:Below W.heap.size W y)=>bracketed_any F t v _ _ y ((h.below cO).below hy))
 have HL:Hid (v_ v=(visP v && brP v)):=cH rfl
 have HW:=cH (cB hW (cB cO b0))
 generalize visP v=b1 at *
 generalize brP v=b2 at *
 obtain ⟨c0,c1,_,_⟩:=kp b0
 clear h mW mB hz b0 cO hW
 go_enter Tryz.func39,Tryz.ntmps39
 go_upto_region 1 with (fail)
 rw [HW.out.1]
 go_wp2_with fail
 (with_reducible refine C1.out.mono ?_)
 rintro en w1 ⟨rfl,cT⟩
 cases b1 with
 | false =>
   have HB:=cH (zzT HW.out.2.1 cT)
   clear cT c0 c1
   go_wp2_with fail
   go_ret
   exact ⟨by rw [HL.out];rfl,HB.out⟩
 | true =>
   have d0:=(cT.cell (cD _ _ c0)).trans c0
   have d1:=(cT.cell (cD _ _ c1)).trans c1
   have C2':=cH (C2.out w1 cT)
   have HB:=cH (zzT HW.out.2.1 cT)
   clear cT c0 c1 C2
   go_wp2_with fail
   (with_reducible refine C2'.out.mono ?_)
   rintro en w2 ⟨rfl,cS⟩
   have dS:=cH (zzT HB.out cS)
   clear cS
   go_wp2_with fail
   go_ret
   exact ⟨by rw [HL.out,Bool.true_and];rfl,dS.out⟩
def jf (s:Bs) (ms:List Bs) (ps:List Int):Bool:=jF s ms ps && v_ (ms.zip ps)
theorem bU {s:Bs} {ms:List Bs} {ps:List Int} (h:jF s ms ps=true):ps.length=ms.length/\zL (zQ s).1 (ms.zip ps)=true/\zU (zQ s).1<=15:=by
 unfold jF jh at h
 simp only [Bool.and_eq_true,decide_eq_true_eq] at h
 obtain ⟨h1,h2,h3,h4⟩:=h
 refine ⟨h3,?_,(vt h1).2⟩
 unfold zL
 rw [h4,Bool.and_true]
 simp only [decide_eq_true_eq]
 rw [List.length_zip];omega
theorem plIn_zip {F:Nat->Prop} {s:Bs} {ms:List Bs} {ps:List Int} {mv pt:Value} {w:World} (hm:uD F w ms mv) (hp:uC F w ps pt) (hl:∀ x∈ms,Lim x.length) (h:jF s ms ps=true):gN F (zQ s).1 (ms.zip ps) mv pt w:=by
 obtain ⟨h1,h2,_⟩:=bU h
 exact ⟨hm.zip h1,hp.zip h1,h2,fun x hx=>(hl _ (List.of_mem_zip hx).1).le⟩
set_option maxRecDepth 100000 in
theorem wI (F:Nat->Prop) (s:Bs) (mv pt:Value) (ms:List Bs) (ps:List Int) (w:World) (hs:Lim s.length) (hm:uD F w ms mv) (hp:uC F w ps pt) (hl:∀ x∈ms,Lim x.length) :
 Calls Tryz.prog 20 #[str s,.agg #[mv,pt]] w fun en w'=>en=.returned (.bool (jf s ms ps))/\Below w.heap.size w w':=by
 obtain ⟨ma,mc,rfl⟩:=hm.slice
 obtain ⟨pa,pc,rfl⟩:=hp.slice
 obtain ⟨W,hW,cO,hz,b0⟩:=q_ w (.cells #[.slice ma ms.length mc,.slice pa ps.length pc] 28)
 obtain ⟨c0,c1,_,_⟩:=kp b0
 have AK:=hm.below cO (fun _ h=>h)
 have hpW:=hp.below cO (fun _ h=>h)
 have C1:=cH (wL F s _ _ ms ps W hs AK hpW hl)
 have C2:=cH (fun (y:World) (hy:Below W.heap.size W y) (h:jF s ms ps=true)=>legal_any F _ _ _ _ y ((plIn_zip AK hpW hl h).below hy))
 have HL:Hid (jf s ms ps=(jF s ms ps && v_ (ms.zip ps))):=cH rfl
 have HW:=cH (cB hW (cB cO b0))
 generalize jF s ms ps=b1 at *
 generalize v_ (ms.zip ps)=b2 at *
 clear hm hp hz b0 cO hW AK hpW hl hs
 go_enter Tryz.func20,Tryz.ntmps20
 go_upto_region 1 with (fail)
 rw [HW.out.1]
 go_wp2_with fail
 (with_reducible refine C1.out.mono ?_)
 rintro en w1 ⟨rfl,cT⟩
 cases b1 with
 | false =>
   have HB:=cH (zzT HW.out.2.1 cT)
   clear cT c0 c1
   go_wp2_with fail
   go_ret
   exact ⟨by rw [HL.out];rfl,HB.out⟩
 | true =>
   have d0:=(cT.cell (cD _ _ c0)).trans c0
   have d1:=(cT.cell (cD _ _ c1)).trans c1
   have C2':=cH (C2.out w1 cT rfl)
   have HB:=cH (zzT HW.out.2.1 cT)
   clear cT c0 c1 C2
   go_wp2_with fail
   (with_reducible refine C2'.out.mono ?_)
   rintro en w2 ⟨rfl,cS⟩
   have dS:=cH (zzT HB.out cS)
   clear cS
   go_wp2_with fail
   go_ret
   exact ⟨by rw [HL.out,Bool.true_and];rfl,dS.out⟩

def xU (F:Nat->Prop) (w:World) (s:St) (bv lsl:Value):Prop:=Rep F w (kr s.1) bv/\jI F w s.2.1 lsl
theorem xU.keep {F F':Nat->Prop} {w w':World} {s:St} {bv lsl:Value} (h:xU F w s bv lsl) (hk:∀ b o,F b->w.heap[b]? = some o->F' b/\w'.heap[b]? = some o):xU F' w' s bv lsl:=⟨(Rep.keep hk).1 _ _ h.1,(Rep.keep hk).1 _ _ h.2⟩
def BehS (s':St) (F:Nat->Prop) (w:World) (en:Ending) (w':World):Prop :=
 ∃ ba la lc,en=.returned (.agg #[.pointer (some ⟨ba,0,none⟩),.slice la s'.2.1.length lc,.int .i64 (s'.2.2.1:Nat),str s'.2.2.2])/\Below w.heap.size w w'/\xU F w' s' (.pointer (some ⟨ba,0,none⟩)) (.slice la s'.2.1.length lc)
theorem behind_step {t:Ty} {hand:List Ty} {s:St} {l:Nat} {ss:List Bd} {y n:Bd} {a:Ty} {pl:zx} {c:UInt8} {p:Bs} {z:Nat} (k:Nat) (F:Nat->Prop) (bv kv lsl:Value) (w:World)
 (hd:StepD t hand s l ss y n a pl c p) (hs:we t hand s z) (cj:zU t<=15) (hz:z<=100) (hg:qL w) (hk:Rep F w (qe t) kv) (hr:xU F w s bv lsl) (hF:∀ b,w.heap.size<=b->F b) :
 ∃ s',wX t s (c::p) k=some s'/\Calls Tryz.prog 64 #[.agg #[bv,lsl,.int .i64 (s.2.2.1:Nat),str s.2.2.2],kv,str (c::p),.int .i64 (k:Nat)] w (BehS s' F w):=by
 have sN:=jk _ _ _ hd.hat
 have mp:=jZ a
 have nT:=hs.ll
 have cA:=hd.len
 obtain ⟨b,lv,bg⟩:=s
 have mM:b=.ask l ss y n:=hd.body
 subst mM
 obtain ⟨hb,eJ⟩:=hr
 have fF:jI F w lv lsl:=eJ
 have dW:Rep F w (kr (.ask l ss y n)) bv:=hb
 have hll':lv.length<=8*z:=nT
 unfold wX
 simp only
 rcases hd.mv with ⟨rfl,j,aj,sb,hp,hj,Dz,sq,hat,hld⟩ | ⟨hc,hp⟩
 ·rw [if_pos rfl,hld,sq]
  have e0:ja t p=aj.args.length:=by unfold ja;rw [hat]
  have e1:=jk _ _ _ hat
  have nC:0<p.length:=by rw [hp,List.length_append];simp
  refine ⟨_,rfl,(behind_q F t aj l j ss sb y n bv kv lsl lv bg p k w hg dW hk fF cj sq hj nC (by omega) ?_ hat (by omega) (by omega)).mono ?_⟩
  ·subst hp;simp
  ·rintro en w' ⟨ba,la,lc,rfl,dr,rb,rl⟩
   refine ⟨ba,la,lc,?_,dr,Rep.below dr (fun _ h=>h) rb,?_⟩
   ·show _=Ending.returned (.agg #[_,.slice la (lv++zh (ja t p) k p).length lc,_,_])
    rw [e0]
   ·show jI F w' (lv++zh (ja t p) k p) (.slice la (lv++zh (ja t p) k p).length lc)
    rw [e0]
    exact (Rep.keep fun i o hi ho=>⟨hF i hi,ho⟩).1 _ _ rl
 ·have si:¬ c=113:=by rcases hc with h | h <;> rw [h] <;> decide
  rw [if_neg si]
  obtain ⟨la,lc,rfl,_⟩:=fF.open
  obtain ⟨kb,ks,rfl,_⟩:=zO hk
  refine ⟨_,rfl,(behind_ans c hc F l ss y n bv (.pointer (some ⟨kb,0,none⟩)) la lv.length lc bg (c::p) k w dW (by simp) rfl ⟨_,rfl⟩).mono ?_⟩
  rintro en w' ⟨ba,rfl,dr,rb⟩
  refine ⟨ba,la,lc,rfl,dr,?_,Rep.below dr (fun _ h=>h) fF⟩
  show Rep F w' (kr (if c=102 then n else y)) _
  have:(if c=102 then n else y)=(if c=116 then y else n):=by rcases hc with h | h <;> rw [h] <;> rfl
  rw [this]
  exact Rep.below dr (fun _ h=>h) rb
theorem behind_step2 {t:Ty} {hand:List Ty} {s s':St} {l:Nat} {ss:List Bd} {y n:Bd} {a:Ty} {pl:zx} {c:UInt8} {p:Bs} {z k:Nat} (dI:wX t s (c::p) k=some s') (F:Nat->Prop) (bv kv lsl:Value) (w:World)
 (hd:StepD t hand s l ss y n a pl c p) (hs:we t hand s z) (cj:zU t<=15) (hz:z<=100) (hg:qL w) (hk:Rep F w (qe t) kv) (hr:xU F w s bv lsl) (hF:∀ b,w.heap.size<=b->F b) :
 Calls Tryz.prog 64 #[.agg #[bv,lsl,.int .i64 (s.2.2.1:Nat),str s.2.2.2],kv,str (c::p),.int .i64 (k:Nat)] w (BehS s' F w):=by
 obtain ⟨s2,h2,h3⟩:=behind_step k F bv kv lsl w hd hs cj hz hg hk hr hF
 rw [dI] at h2
 obtain rfl:=Option.some.inj h2
 exact h3
def StandQ (s:St) (w:World) (en:Ending) (w':World):Prop :=
 ∃ bv lsl,en=.returned (.agg #[bv,lsl,.int .i64 (s.2.2.1:Nat),str s.2.2.2])/\Below w.heap.size w w'/\xU (fun _=>True) w' s bv lsl
set_option maxRecDepth 100000 in
theorem standIn_any (F:Nat->Prop) (t:Ty) (b:Bd) (v:Pl) (k n:Nat) (hnk:n=k+1) (s0:St) (kv bv mv pt:Value) (w:World) (hg:qL w) (hk:Rep F w (qe t) kv) (hb:Rep F w (kr b) bv) (hm:gN F t v mv pt w)
 (cj:zU t<=15) (hf:kX t.args b) (hw:wfB b) (iB:k<v.length) (fN:k % 2=0) (f7:kS t b v k) (eC:kw t b v (k+1)=some s0) :
 Calls Tryz.prog 40 #[kv,bv,.agg #[mv,pt],.int .i64 (n:Nat)] w (StandQ s0 w):=by
 have mT:=jV hm.ok
 have VC:=cH (view_chain hm.ok k iB fN)
 have PF:=cH (fun e (he:e<=k) (tg:e % 2=0)=>bY cj hf hw hm.ok e (by omega) tg (fun i hi h=>f7 i (by omega) h))
 have FO:=cH (cB f7 eC)
 have FIT:=cH (gl (b:=b) cj hf hw)
 have dY:0<n:=by omega
 have fQ:n<=v.length:=by omega
 have HK:=cH hnk;clear hnk
 obtain ⟨ba,rfl⟩:=kC hb
 obtain ⟨kb,ks,rfl,_⟩:=zO hk
 obtain ⟨ma,mc,rfl,mW⟩:=hm.m.cells
 obtain ⟨pa,pc,rfl,mB⟩:=hm.p.cells
 obtain ⟨W,hW,cO,hz,b0,b1⟩:=gI w (.cells #[.slice ma v.length mc,.slice pa v.length pc] 28) (.cells #[.pointer none,.slice none 0 0,.int .i64 0,str []] 101)
 obtain ⟨c0,c1,_,_⟩:=kp b0
 have CV:=cH (view_any F t v false n _ _ W (hm.below cO).m (hm.below cO).p hm.ok dY fQ hm.l)
 have HI:=cH (cB hg (cB hk (cB hb (cB mW (cB cj (cB hm.ok hm))))))
 have HW:=cH (cB hW (cB cO (cB hz (cB b0 b1))))
 clear hW cO hz b0 b1 hg hk hb hm cj mW mB hf hw f7 eC
 go_enter Tryz.func40,Tryz.ntmps40
 go_upto_region 1 with (fail)
 rw [HW.out.1]
 go_wp2_with fail
 (with_reducible refine CV.out.mono ?_)
 rintro en w2 ⟨vv,rfl,cS,DK⟩
 rw [HK.out] at DK
 generalize m7:kB v false (k+1)=vw at *
 obtain ⟨vb,vo,vc,rfl,mY,hvc⟩:=DK
 obtain ⟨z0,ie⟩:∃ z0:Nat,z0=0:=⟨_,rfl⟩
 have h0:w2.cell? ⟨vb,vo,none⟩=some (.int .i64 (z0:Nat)):=by rw [ie];exact hvc 0 0 VC.out.zero
 have HZ:=cH ie
 have hvp:0<vw.length:=(List.getElem?_eq_some_iff.1 VC.out.zero).1
 have hvpI:(0:Int)<(vw.length:Int):=by omega
 have mr:=(HI.out.1.below HW.out.2.1).below cS
 have sh:=(HI.out.2.1.below HW.out.2.1 (fun _ h=>h)).below cS (fun _ h=>h)
 have CS:=cH (standOf_any F t (.pointer (some ⟨kb,0,none⟩)) (.pointer (some ⟨ba,0,none⟩)) z0 w2 mr sh HI.out.2.2.2.2.1 ⟨_,rfl⟩)
 have H2:=cH (cB cS (cB mY hvc))
 clear ie mr sh cS mY hvc c0 c1 CV m7
 go_wp2_with fail
 (with_reducible refine CS.out.mono ?_)
 rintro en w3 ⟨la,lc,rfl,cr,eJ⟩
 clear h0 CS
 obtain ⟨Y,hY,AW,hzY,y0⟩:=q_ w3 (.cells #[.pointer (some ⟨ba,0,none⟩),.slice la (zh t.args.length z0 []).length lc,.int .i64 (z0:Nat),str []] 101)
 have eK:=HW.out.2.2.1
 have eA:=H2.out.1.size
 have mG:=cr.size
 have Af:Below w2.heap.size w2 Y:=zzT cr AW
 have Ae:Below W.heap.size W Y:=zzT H2.out.1 Af
 have o_:Below w.heap.size w Y:=zzT HW.out.2.1 Ae
 have aD:=cH (show xU (fun g=>g≠w3.heap.size/\g≠w.heap.size+1) Y (g6 t b) (.pointer (some ⟨ba,0,none⟩)) (.slice la (zh t.args.length z0 []).length lc) by
  constructor
  ·refine (Rep.keep fun i o _ ho=>⟨?_,?_⟩).1 _ _ HI.out.2.2.1
   ·have:=zZ ho;omega
   ·rw [o_.block _ (zZ ho)];exact ho
  ·rw [HZ.out] at eJ ⊢
   refine (Rep.keep fun i o hi ho=>⟨?_,?_⟩).1 _ _ eJ
   ·have:=zZ ho
    have h9:w2.heap.size<=i:=hi
    omega
   ·rw [AW.block _ (zZ ho)];exact ho)
 have HY:=cH (cB hY (cB o_ (cB Ae (cB Af (cB y0 hzY)))))
 have iy:=cH (cB eK (cB eA mG))
 clear hY AW hzY y0 eK eA mG Af Ae o_ eJ cr
 go_wp2_with fail
 rw [HY.out.1]
 generalize sq:w3.heap.size=sb at *
 go_loopw [11] (fun i wr=>∃ (wz:World) (j e:Nat) (s:St) (hand:List Ty) (xv lsl:Value),wz=wr/\i=.int .i64 ((2*j+2:Nat):Int)/\vw[2*j]? = some e/\kw t b v (e+1)=some s/\we t hand s (e+1)/\wz.heap[sb]? = some (.cells #[xv,lsl,.int .i64 (s.2.2.1:Nat),str s.2.2.2] 101 (0,0))/\xU (fun g=>g≠sb/\g≠w.heap.size+1) wz s xv lsl/\But (fun g=>g=sb) Y wz) (fun i _=>vw.length+2-(intOf i).toNat)
 case atStart =>
  refine ⟨_,0,0,g6 t b,t.args,_,_,rfl,rfl,VC.out.zero,vQ t b v,?_,?_,aD.out,But.refl _ _⟩
  ·exact FIT.out
  ·have ie:=HZ.out
   subst ie
   exact HY.out.2.2.2.2.1
 case round =>
  obtain ⟨wr,j,e,s,hand,xv,lsl,rfl,rfl,AC,dU,dP,mi,dI,hB⟩:=hrel
  obtain ⟨xa,rfl⟩:=kC dI.1
  obtain ⟨lsa,lsc,rfl,_⟩:=jI.open dI.2
  obtain ⟨q0,q1,q2,q3⟩:=kN mi
  have hsbY:sb<Y.heap.size:=zZ HY.out.2.2.2.2.1
  have hek:=VC.out.all _ _ AC
  have hjv:=(List.getElem?_eq_some_iff.1 AC).1
  have dw:=VC.out.len
  obtain ⟨i2,tj⟩:=zzM (2*j+2)
  rw [<- tj]
  have AA:Below w.heap.size w wr:=HY.out.2.1.trans (hB.toBelow (by have:=HY.out.2.1.size;omega) fun i hi e1=>by have h1:=iy.out;omega)
  have HB:=cH (cB hB AA)
  have iw:=cH (cB dI (cB mi (cB dP dU)))
  clear hB AA dI mi
  by_cases cL:i2<vw.length
  ·have nS:(i2:Int)<(vw.length:Int):=by omega
   obtain ⟨e1,e',c,p,h1,h2,h3,h4,h5,h6,h7⟩:=VC.out.step j (by omega)
   obtain rfl:e1=e:=Option.some.inj (h1.symm.trans AC)
   have hr:=FO.out.1 (e1+1) (by have:=h6.lt;omega) h6.odd
   obtain ⟨x,hx,oQ⟩:=h6.en
   unfold jz at hr
   rw [dU,Option.bind_some,hx] at hr
   obtain ⟨l,ss,y,nn,a,pl,hd⟩:=step_data HI.out.2.2.2.2.1 dP h7 h4 oQ hr
   obtain ⟨s',eU,d7,eA⟩:=hd.next (k:=e') dP (by have:=h6.lt;omega) (by omega) HI.out.2.2.2.2.1
   have BR:kw t b v (e'+1)=some s':=by rw [vy HI.out.2.2.2.2.2.1 b (by omega) h4 h6,dU,Option.bind_some,d7]
   have he'v:(e':Int)<(v.length:Int):=by omega
   obtain ⟨mb,mo,rfl,_,mu,fj⟩:=HI.out.2.2.2.1 e' _ h6.at'
   have CB:=cH (fun (y:World) (hy:Below wr.heap.size wr y)=>behind_step2 d7 (fun g=>g≠sb/\g≠w.heap.size+1) (.pointer (some ⟨xa,0,none⟩)) (.pointer (some ⟨kb,0,none⟩)) (.slice lsa s.2.1.length lsc) y hd dP HI.out.2.2.2.2.1 (by omega) ((HI.out.1.below HB.out.2).below hy)
    ((Rep.keep fun i o _ ho=>⟨by have:=zZ ho;have h1:=iy.out;omega,by rw [hy.block i (by have:=zZ ho;have:=HB.out.2.size;omega),HB.out.2.block i (zZ ho)];exact ho⟩).1 _ _ HI.out.2.1)
    (iw.out.1.keep fun i o hi ho=>⟨hi,by rw [hy.block i (zZ ho)];exact ho⟩) (fun i hi=>by have h9:wr.heap.size<=i:=cR hy.size hi;have h1:=iy.out;have h2:=HB.out.1.size;omega))
   have HN:=cH (cB BR (cB eA (cB (show vw[2*(j+1)]? = some e' from h2) (show i2+2=2*(j+1)+2 by omega))))
   obtain ⟨M,hM⟩:=zzM (c::p)
   rw [<- hM] at CB fj
   have KEY:=cH (fun (y:World) (hy:Below wr.heap.size wr y)=>(show (y.cell? ⟨sb,0,none⟩=some (.pointer (some ⟨xa,0,none⟩))/\y.cell? ⟨sb,1,none⟩=some (.slice lsa s.2.1.length lsc)/\y.cell? ⟨sb,2,none⟩=some (.int .i64 (s.2.2.1:Nat))/\y.cell? ⟨sb,3,none⟩=some (str s.2.2.2))/\y.cell? ⟨w.heap.size,0,none⟩=some (.slice (some ⟨mb,mo,none⟩) v.length mc)/\y.cell? ⟨vb,vo+i2,none⟩=some (.int .i64 (e':Nat))/\y.cell? ⟨mb,mo+e',none⟩=some (str M) from by
    have hk:∀ (a:Addr) (u:Value),wr.cell? a=some u->y.cell? a=some u:=fun a u h=>(hy.cell (cD _ _ h)).trans h
    have hwk:∀ (a:Addr) (u:Value),w.cell? a=some u->y.cell? a=some u:=fun a u h=>hk a u ((HB.out.2.cell (cD _ _ h)).trans h)
    obtain ⟨k0,_⟩:=kp HW.out.2.2.2.1
    have hY0:∀ (a:Addr) (u:Value),a.block≠sb->a.block<Y.heap.size->Y.cell? a=some u->y.cell? a=some u:=fun a u hne hl h=>hk a u ((HB.out.1.cell hl hne).trans h)
    have h1:=iy.out
    refine ⟨⟨hk _ _ q0,hk _ _ q1,hk _ _ q2,hk _ _ q3⟩,hY0 _ _ (by show w.heap.size≠sb;omega) (by show w.heap.size<_;omega) ((HY.out.2.2.1.cell (cD _ _ k0)).trans k0),?_,hwk _ _ fj⟩
    have hvi:vw[i2]? = some e':=by rw [tj];exact h2
    exact hY0 _ _ (by show vb≠sb;have:=H2.out.2.1;omega) (by show vb<_;have:=H2.out.2.1;omega) ((HY.out.2.2.2.1.cell (p:=⟨vb,vo+i2,none⟩) H2.out.2.1).trans (H2.out.2.2 i2 e' hvi))))
   have oU:IntKind.i64.wrap ((i2:Int)+2)=((i2+2:Nat):Int):=by rw [yk _ (by omega) (by omega)];omega
   clear q0 q1 q2 q3 hr hx oQ hd d7 eA BR h1 h2 h3 h4 h5 h6 h7 mu fj AC dU dP tj hM hek hjv dw
   go_upto_region 6 with (fail)
   refine wp_region_noPanic ?_
   refine zm (fun w'=>Below wr.heap.size wr w') (fun i=>i=15) (by kernel_rfl) ?_
   have cI:(fun w'=>Below wr.heap.size wr w') wr.drew:=Below.drew (cE _ _)
   refine tk [0,1,2] cI ?_
   (intro d hd;simp [tkD] at hd;subst hd;simp only [tks,pQ,pZ,pS])
   iterate 3 (refine ⟨?_,?_,?_⟩;rotate_left;· (intro oi ho;simp at ho;subst ho;refine Or.inl ⟨by rfl,fun w' cv=>?_⟩;obtain ⟨e0,e1,e2,e3⟩:=(KEY.out w' cv).1;go_simp;try with_reducible rfl))
   refine tk [3,4,5,6] cI ?_
   (intro d hd;simp [tkD] at hd;subst hd;simp only [tks,pQ,pZ,pS])
   iterate 4 (refine ⟨?_,?_,?_⟩;rotate_left;· (intro oi ho;simp at ho;subst ho;refine Or.inl ⟨by rfl,fun w' cv=>?_⟩;have e0:=(KEY.out w' cv).2.1;go_simp;try with_reducible rfl))
   refine tk [7,8] cI ?_
   (intro d hd;simp [tkD] at hd;subst hd;simp only [tks,pQ,pZ,pS])
   iterate 2 (refine ⟨?_,?_,?_⟩;rotate_left;· (intro oi ho;simp at ho;subst ho;refine Or.inl ⟨by rfl,fun w' cv=>?_⟩;have e0:=(KEY.out w' cv).2.2.1;go_simp;try with_reducible rfl))
   refine tk [9,10,11,12] cI ?_
   (intro d hd;simp [tkD] at hd;subst hd;simp only [tks,pQ,pZ,pS])
   iterate 4 (refine ⟨?_,?_,?_⟩;rotate_left;· (intro oi ho;simp at ho;subst ho;refine Or.inl ⟨by rfl,fun w' cv=>?_⟩;have e0:=(KEY.out w' cv).2.2.2;go_simp;try with_reducible rfl))
   refine tk [13] cI ?_
   (intro d hd;simp [tkD] at hd;subst hd;simp only [tks,pQ,pZ,pS])
   (refine ⟨?_,?_,?_⟩;rotate_left;· (intro oi ho;simp at ho;subst ho;refine Or.inl ⟨by rfl,fun w' cv=>?_⟩;have e0:=(KEY.out w' cv).2.2.1;go_simp;try with_reducible rfl))
   (refine on 14 ?_;intro o ho K' hK;simp at ho;subst ho;go_simp)
   go_at_call 64
   (with_reducible refine (CB.out _ cI).mono ?_)
   rintro en A7 ⟨b2,l2,c2,rfl,iI,BM⟩
   have aH:Below wr.heap.size wr A7:=zzT cI iI
   have xx:=(aH.block _ (zZ iw.out.2.1)).trans iw.out.2.1
   (refine hK.out _ _ (fun _=>aH) ?_;clear hK K';try simp only [pQ,pN,pZ,pS])
   have ik:=aH
   (refine on 15 ?_;intro o ho K' hK;simp at ho;subst ho)
   have f0:=zi xx 0;have f1:=zi xx 1;have f2:=zi xx 2;have f3:=zi xx 3
   obtain ⟨e0,e1,e2,e3⟩:=kN xx
   go_simp
   (refine hK.out _ _ (fun h=>by simp at h) ?_;clear hK K';try simp only [pQ,pN,pZ,pS])
   refine zt (by kernel_rfl) (NoPanic.normal ?_) _
   obtain ⟨W10,aY⟩:=zzN (((((A7.setCell ⟨sb,0,none⟩ (.pointer (some ⟨b2,0,none⟩))).setCell ⟨sb,1,none⟩ (.slice l2 s'.2.1.length c2)).setCell ⟨sb,2,none⟩ (.int .i64 (s'.2.2.1:Nat))).setCell ⟨sb,3,none⟩ (str s'.2.2.2)))
   rw [aY]
   have lT:W10.heap[sb]? = some (.cells #[.pointer (some ⟨b2,0,none⟩),.slice l2 s'.2.1.length c2,.int .i64 (s'.2.2.1:Nat),str s'.2.2.2] 101 (0,0)):=by rw [<- aY];exact uu xx _ _ _ _
   have iV:∀ g,g≠sb->W10.heap[g]? = A7.heap[g]?:=fun g hg=>by
    rw [<- aY,cF _ _ _ _ (by show g≠sb;exact hg),cF _ _ _ _ (by show g≠sb;exact hg),cF _ _ _ _ (by show g≠sb;exact hg),cF _ _ _ _ (by show g≠sb;exact hg)]
   have mS:But (fun g=>g=sb) Y W10:=by
    rw [<- aY]
    exact ((((HB.out.1.trans (But.ofBelow aH)).setCell (p:=⟨sb,0,none⟩) (.inl rfl) _).setCell (p:=⟨sb,1,none⟩) (.inl rfl) _).setCell (p:=⟨sb,2,none⟩) (.inl rfl) _).setCell (p:=⟨sb,3,none⟩) (.inl rfl) _
   have sI:=cH (cB lT (cB mS (BM.keep (F':=fun g=>g≠sb/\g≠w.heap.size+1) (w':=W10) fun i o hi ho=>⟨hi,by rw [iV i hi.1];exact ho⟩)))
   clear lT iV mS BM aY xx aH iI ik cI KEY CB
   go_wp2_with fail
   go_roundw
   case rel=>exact ⟨_,j+1,e',s',eU,_,_,rfl,by rw [<- HN.out.2.2.2];rfl,HN.out.2.2.1,HN.out.1,HN.out.2.1,sI.out.1,sI.out.2.2,sI.out.2.1⟩
   case measure=>simp [intOf];omega
  ·have nS:¬ (i2:Int)<(vw.length:Int):=by omega
   have nD:=VC.out.odd
   have mx:=VC.out.last
   have h1:=iy.out
   rw [show vw.length-1=2*j from by omega,AC] at mx
   obtain rfl:=Option.some.inj mx
   obtain rfl:s=s0:=Option.some.inj (dU.symm.trans FO.out.2)
   have b1:wr.heap[w.heap.size+1]? = some (.cells #[.pointer none,.slice none 0 0,.int .i64 0,str []] 101 (0,0)):=by
    rw [HB.out.1.block _ (by omega) (by omega),HY.out.2.2.1.block _ (by omega)];exact HW.out.2.2.2.2
   have f0:=zi b1 0;have f1:=zi b1 1;have f2:=zi b1 2;have f3:=zi b1 3
   obtain ⟨z0',z1',z2',z3'⟩:=kN b1
   have HS:=cH (cB b1 h1)
   clear AC dU dP hek dw mx nD b1 h1 hjv
   go_wp2_with fail
   have hV:=uu HS.out.1 (.pointer (some ⟨xa,0,none⟩)) (.slice lsa s.2.1.length lsc) (.int .i64 (s.2.2.1:Nat)) (str s.2.2.2)
   obtain ⟨s0',s1',s2',s3'⟩:=kN hV
   have iV:∀ g,g≠w.heap.size+1->((((wr.setCell ⟨w.heap.size+1,0,none⟩ (.pointer (some ⟨xa,0,none⟩))).setCell ⟨w.heap.size+1,1,none⟩ (.slice lsa s.2.1.length lsc)).setCell ⟨w.heap.size+1,2,none⟩ (.int .i64 (s.2.2.1:Nat))).setCell ⟨w.heap.size+1,3,none⟩ (str s.2.2.2)).heap[g]? = wr.heap[g]?:=fun g hg=>by
    rw [cF _ _ _ _ (by show g≠w.heap.size+1;exact hg),cF _ _ _ _ (by show g≠w.heap.size+1;exact hg),cF _ _ _ _ (by show g≠w.heap.size+1;exact hg),cF _ _ _ _ (by show g≠w.heap.size+1;exact hg)]
   have fY:=(((HB.out.2.setCell (p:=⟨w.heap.size+1,0,none⟩) (Nat.le_succ _) (.pointer (some ⟨xa,0,none⟩))).setCell (p:=⟨w.heap.size+1,1,none⟩) (Nat.le_succ _) (.slice lsa s.2.1.length lsc)).setCell (p:=⟨w.heap.size+1,2,none⟩) (Nat.le_succ _) (.int .i64 (s.2.2.1:Nat))).setCell (p:=⟨w.heap.size+1,3,none⟩) (Nat.le_succ _) (str s.2.2.2)
   refine bodyPost_ret (v:=.agg #[(.pointer (some ⟨xa,0,none⟩)),(.slice lsa s.2.1.length lsc),.int .i64 (s.2.2.1:Nat),str s.2.2.2]) (by simp [results,Tryz.results40,go_sem,s0',s1',s2',s3']) rfl ?_
   exact ⟨_,_,rfl,fY,iw.out.1.keep fun i o hi ho=>⟨trivial,by rw [iV i hi.2];exact ho⟩⟩
set_option maxRecDepth 100000 in
theorem tells_u (F:Nat->Prop) (bv lsl:Value) (bg:zx) (w:World) (hb:Rep F w (kr (.leaf 117)) bv) :
 Calls Tryz.prog 41 #[.agg #[bv,lsl,.int .i64 (bg.1:Nat),str bg.2]] w fun en w'=>en=.returned (.tuple #[str [],.int .i64 (-1)])/\Below w.heap.size w w':=by
 have C:=cH (fun wz (h:Below w.heap.size w wz)=>y8 F wz 117 bv (hb.below h (fun _ h=>h)))
 obtain ⟨b,sl,rfl,_,hc,_⟩:=xH hb
 obtain ⟨W,hW,cO,hz,bx⟩:=q_ w (.cells #[.pointer (some ⟨b,0,none⟩),lsl,.int .i64 (bg.1:Nat),str bg.2] 101)
 have CW:=cH (C.out W cO)
 obtain ⟨e0,e1,e2,e3⟩:=kN bx
 have c1:W.cell? ⟨b,0,none⟩=some (.string ⟨#[117]⟩):=(cO.cell (by exact zZ hc)).trans (by simp [World.cell?,hc])
 have HW:=cH (cB hW cO)
 clear hW cO hz bx hc hb C e1
 go_enter Tryz.func41,Tryz.ntmps41
 go_upto_region 1 with (fail)
 rw [HW.out.1]
 go_wp2_with fail
 (with_reducible refine CW.out.mono ?_)
 rintro en w1 ⟨rfl,ew⟩
 subst ew
 go_wp2_with fail
 go_ret2
 exact ⟨rfl,HW.out.2⟩
def yy (s:St):Bs×Int:=(wV s).getD ([],-1)
theorem tells_any {t:Ty} {hand:List Ty} {s:St} {n:Nat} (F:Nat->Prop) (bv lsl:Value) (w:World) (hs:we t hand s n) (cj:zU t<=15) (hn:n<=100) (hr:xU F w s bv lsl) :
 Calls Tryz.prog 41 #[.agg #[bv,lsl,.int .i64 (s.2.2.1:Nat),str s.2.2.2]] w fun en w'=>en=.returned (.tuple #[str (yy s).1,.int .i64 (yy s).2])/\Below w.heap.size w w':=by
 obtain ⟨ta,mX⟩:=hs.bgt
 have dr:=jk _ _ _ mX
 have nT:=hs.ll
 obtain ⟨b,lv,bg⟩:=s
 cases b with
 | leaf c =>
   by_cases hc:c=117
   ·subst hc;exact tells_u F bv lsl bg w hr.1
   ·refine (tells_leaf F c bv lsl bg w hr.1 hc (by have:bg.2.length<=100:=by { show ((Bd.leaf c,lv,bg):St).2.2.2.length<=100;omega };omega)).mono ?_
    rintro en w' ⟨rfl,hb⟩
    refine ⟨?_,hb⟩
    unfold yy wV
    simp only [if_neg hc,Option.getD_some]
 | ask l ss y nn =>
   have hf:=hs.fit
   rw [show ((Bd.ask l ss y nn,lv,bg):St).1=.ask l ss y nn from rfl,kX] at hf
   obtain ⟨a,h1,_⟩:=hf
   obtain ⟨pl,hl,hat,_⟩:=hs.pf.each l a h1
   have fM:lv[l]? = some pl:=hl
   have dU:=jk _ _ _ hat
   have hll':lv.length<=8*n:=nT
   refine (tells_ask F l ss y nn bv lsl lv bg pl w hr.1 hr.2 fM (by omega) (by omega)).mono ?_
   rintro en w' ⟨rfl,hb⟩
   refine ⟨?_,hb⟩
   unfold yy wV
   simp only [fM,Option.map_some,Option.getD_some]
theorem tellV_eq {s:St} {c:UInt8} {p:Bs} {z:Int}:wV s=some (c::p,z)↔((yy s).1=c::p/\(yy s).2=z):=by
 unfold yy
 cases h:wV s with
 | none=>simp
 | some x=>obtain ⟨m,y⟩:=x;simp
set_option maxRecDepth 100000 in
theorem follows_any (F:Nat->Prop) (t:Ty) (b:Bd) (v:Pl) (kv bv mv pt:Value) (w:World) (hg:qL w) (hk:Rep F w (qe t) kv) (hb:Rep F w (kr b) bv) (hm:gN F t v mv pt w)
 (cj:zU t<=15) (hf:kX t.args b) (hw:wfB b) :
 Calls Tryz.prog 21 #[kv,bv,.agg #[mv,pt]] w fun en w'=>en=.returned (.bool (decide (kS t b v v.length)))/\Below w.heap.size w w':=by
 have mT:=jV hm.ok
 obtain ⟨ba,rfl⟩:=kC hb
 obtain ⟨kb,ks,rfl,_⟩:=zO hk
 obtain ⟨ma,mc,rfl,mW⟩:=hm.m.cells
 obtain ⟨pa,pc,rfl,mB⟩:=hm.p.cells
 obtain ⟨W,hW,cO,hz,b0⟩:=q_ w (.cells #[.slice ma v.length mc,.slice pa v.length pc] 28)
 obtain ⟨c0,c1,_,_⟩:=kp b0
 have PF:=cH (fun e (he:e<v.length) (tg:e % 2=0)=>bY cj hf hw hm.ok e he tg)
 have SIN:=cH (fun (y:World) (hy:Below W.heap.size W y) (k n:Nat) (hnk:n=k+1) (s0:St) (iB:k<v.length) (fN:k % 2=0) (f7:kS t b v k) (eC:kw t b v (k+1)=some s0) =>
  standIn_any F t b v k n hnk s0 _ _ _ _ y ((hg.below cO).below hy) ((hk.below cO fun _ h=>h).below hy fun _ h=>h) ((hb.below cO fun _ h=>h).below hy fun _ h=>h) ((hm.below cO).below hy) cj hf hw iB fN f7 eC)
 have HH:=cH (cB mW (cB mB (cB cO (cB hm.ok cj))))
 have HW:=cH hW
 clear hm mW mB hz b0 cO hW hg hk hb cj hf hw
 go_enter Tryz.func21,Tryz.ntmps21
 go_upto_region 1 with (fail)
 rw [HW.out]
 go_wp2_with fail
 go_loopw [7] (fun i wr=>∃ (wz:World) (k n:Nat),wz=wr/\n=k+1/\k % 2=0/\k<=v.length+1/\i=.int .i64 (n:Nat)/\kS t b v n/\Below W.heap.size W wz) (fun i _=>v.length+5-(intOf i).toNat)
 case atStart=>exact ⟨_,0,1,rfl,rfl,rfl,by omega,rfl,fun i hi h=>by omega,cE _ _⟩
 case round =>
  obtain ⟨wr,k,n,rfl,hnk,fN,aI,rfl,f7,hB⟩:=hrel
  have d0:=(hB.cell (cD _ _ c0)).trans c0
  have d1:=(hB.cell (cD _ _ c1)).trans c1
  clear c0 c1
  have HB:=cH (cB hB (zzT HH.out.2.2.1 hB))
  clear hB
  by_cases cL:n<v.length
  ·have nS:(n:Int)<(v.length:Int):=by omega
   obtain ⟨x,p,z,dw,co⟩:=kg HH.out.2.2.2.1 cL
   obtain ⟨mb,mo,rfl,_,mu,fj⟩:=HH.out.1 n _ dw
   obtain ⟨pb,po,rfl,_,m_,mH⟩:=HH.out.2.1 n _ dw
   obtain ⟨s,hand,eC,dP⟩:=PF.out k (by omega) fN (fun i hi h=>f7 i (by omega) h)
   have CS:=cH (SIN.out wr HB.out.1 k n hnk s (by omega) fN (fun i hi h=>f7 i (by omega) h) eC)
   have nW:jz t b v n=wV s:=by unfold jz;rw [hnk,eC];rfl
   have HQ:Hid ((yy s).1=x::p/\(yy s).2=z↔jz t b v n=v[n]?):=cH (by rw [nW,dw];exact tellV_eq.symm)
   have CT:=cH (fun (y:World) (xv lv:Value) (hr:xU (fun _=>True) y s xv lv)=>tells_any (fun _=>True) xv lv y dP HH.out.2.2.2.2 (by omega) hr)
   have KEY:=cH (fun (y:World) (hy:Below wr.heap.size wr y)=>(show y.cell? ⟨w.heap.size,0,none⟩=some (.slice (some ⟨mb,mo,none⟩) v.length mc)/\y.cell? ⟨w.heap.size,1,none⟩=some (.slice (some ⟨pb,po,none⟩) v.length pc)/\y.cell? ⟨mb,mo+n,none⟩=some (str (x::p))/\y.cell? ⟨pb,po+n,none⟩=some (.int .i64 z) from by
    have hk:∀ (a:Addr) (u:Value),wr.cell? a=some u->y.cell? a=some u:=fun a u h=>(hy.cell (cD _ _ h)).trans h
    exact ⟨hk _ _ d0,hk _ _ d1,hk _ _ ((HB.out.2.cell (p:=⟨mb,mo+n,none⟩) mu).trans fj),hk _ _ ((HB.out.2.cell (p:=⟨pb,po+n,none⟩) m_).trans mH)⟩))
   have HF:=cH (cB f7 (cB hnk (cB fN (cB aI cL))))
   obtain ⟨M,hM⟩:=zzM (x::p)
   obtain ⟨tm,htm⟩:=zzN ((yy s).1)
   obtain ⟨tz,htz⟩:=zzN ((yy s).2)
   rw [<- hM] at KEY HQ
   rw [htm,htz] at HQ CT
   clear dw co mu fj m_ mH eC dP nW f7 hnk fN aI hM htm htz SIN PF
   go_wp2_with fail
   (with_reducible refine CS.out.mono ?_)
   rintro en w1 ⟨xv,lv,rfl,cT,dH⟩
   have CT1:=cH (CT.out w1 xv lv dH)
   clear CS CT dH
   go_wp2_with fail
   (with_reducible refine CT1.out.mono ?_)
   rintro en w2 ⟨rfl,cS⟩
   have mK:=zzT cT cS
   obtain ⟨e0,e1,m0,p0⟩:=KEY.out w2 mK
   have dS:=cH (cB (zzT HB.out.1 mK) (zzT HB.out.2 mK))
   have oU:IntKind.i64.wrap ((n:Int)+2)=((n+2:Nat):Int):=by rw [yk _ (by omega) (by omega)];omega
   clear cT cS mK d0 d1 KEY CT1
   by_cases hm:tm=M
   ·have iG:(tm == M)=true:=by simp [hm]
    have hmm2:(tm != M)=false:=by simp [hm]
    by_cases hz:tz=z
    ·have s7:(tz != z)=false:=by simp [hz]
     have E:=cH (show kS t b v (n+2) from fun i hi h=>by
      have h1:=HF.out.2.1;have h2:=HF.out.2.2.1
      rcases Nat.lt_or_ge i n with h3 | h3
      ·exact HF.out.1 i h3 h
      ·obtain rfl:i=n:=by omega
       exact HQ.out.1 ⟨hm,hz⟩)
     have HE:=cH (show n+2=(n+1)+1/\(n+1) % 2=0/\n+1<=v.length+1 by
      have h1:=HF.out.2.1;have h2:=HF.out.2.2.1;have h3:=HF.out.2.2.2.2;omega)
     clear hm hz
     go_wp2_with fail
     go_roundw
     case rel=>exact ⟨_,n+1,n+2,rfl,rfl,HE.out.2.1,HE.out.2.2,rfl,E.out,dS.out.1⟩
     case measure=>simp [intOf];omega
    ·have s7:(tz != z)=true:=by simp [hz]
     have E:=cH (show decide (kS t b v v.length)=false by
      rw [decide_eq_false_iff_not]
      intro h
      have h1:=HF.out.2.1;have h2:=HF.out.2.2.1
      exact hz (HQ.out.2 (h n HF.out.2.2.2.2 (by omega))).2)
     clear hm hz
     go_wp2_with fail
     go_ret
     exact ⟨by rw [E.out];rfl,dS.out.2⟩
   ·have iG:(tm == M)=false:=by simp [hm]
    have hmm2:(tm != M)=true:=by simp [hm]
    have E:=cH (show decide (kS t b v v.length)=false by
     rw [decide_eq_false_iff_not]
     intro h
     have h1:=HF.out.2.1;have h2:=HF.out.2.2.1
     exact hm (HQ.out.2 (h n HF.out.2.2.2.2 (by omega))).1)
    clear hm
    go_wp2_with fail
    go_ret
    exact ⟨by rw [E.out];rfl,dS.out.2⟩
  ·have nS:¬ (n:Int)<(v.length:Int):=by omega
   have E:=cH (show decide (kS t b v v.length)=true from decide_eq_true fun i hi h=>f7 i (by omega) h)
   clear f7 hnk
   go_wp2_with fail
   go_ret
   exact ⟨by rw [E.out];rfl,HB.out.2⟩
def qa (s text:Bs) (ms:List Bs) (ps:List Int):Bool:=match zI s text with
 | none=>false
 | some b=>jf s ms ps && decide (kS (zQ s).1 b (ms.zip ps) (ms.zip ps).length)
theorem followOk_none {s text:Bs} (h:xf s text=none) (ms:List Bs) (ps:List Int):qa s text ms ps=false:=by
 rw [vj,Option.map_eq_none_iff] at h
 unfold qa;rw [h]
theorem followOk_some {s text:Bs} {t:Ty} {b:Bd} (h:xf s text=some (t,b)) (ms:List Bs) (ps:List Int):qa s text ms ps=(jf s ms ps && decide (kS t b (ms.zip ps) (ms.zip ps).length))/\t=(zQ s).1/\Good t b:=by
 rw [vj,Option.map_eq_some_iff] at h
 obtain ⟨b',h,e⟩:=h
 simp at e;obtain ⟨rfl,rfl⟩:=e
 refine ⟨?_,rfl,(kd h).1⟩
 unfold qa;rw [h]
theorem xi {s:Bs} {ms:List Bs} {ps:List Int} (h:jf s ms ps=true):jF s ms ps=true:=by
 unfold jf at h;rw [Bool.and_eq_true] at h;exact h.1
set_option maxRecDepth 100000 in
theorem uh (F:Nat->Prop) (s text:Bs) (mv pt:Value) (ms:List Bs) (ps:List Int) (w:World) (hg:qL w) (hs:Lim s.length) (ht:Lim text.length) (hm:uD F w ms mv) (hp:uC F w ps pt) (hl:∀ x∈ms,Lim x.length) :
 Calls Tryz.prog 9 #[str s,str text,.agg #[mv,pt]] w fun en w'=>en=.returned (.bool (qa s text ms ps))/\Below w.heap.size w w':=by
 obtain ⟨ma,mc,rfl⟩:=hm.slice
 obtain ⟨pa,pc,rfl⟩:=hp.slice
 obtain ⟨W,hW,cO,hz,b0⟩:=q_ w (.cells #[.slice ma ms.length mc,.slice pa ps.length pc] 28)
 have C:=cH (wY s text W (hg.below cO) hs ht)
 have CL:=cH (fun (y:World) (hy:Below W.heap.size W y)=>wI F s _ _ ms ps y hs ((hm.below cO fun _ h=>h).below hy fun _ h=>h) ((hp.below cO fun _ h=>h).below hy fun _ h=>h) hl)
 have HP:=cH (fun (y:World) (hy:Below W.heap.size W y) (h:jF s ms ps=true)=>(plIn_zip (hm.below cO fun _ h=>h) (hp.below cO fun _ h=>h) hl h).below hy)
 have HG:=cH (fun (y:World) (hy:Below W.heap.size W y)=>(hg.below cO).below hy)
 have HW:=cH (cB hW (cB cO b0))
 clear hW cO hz b0 hg hs ht hm hp hl
 go_enter Tryz.func9,Tryz.ntmps9
 go_upto_region 1 with (fail)
 rw [HW.out.1]
 go_wp2_with fail
 (with_reducible refine C.out.mono ?_)
 rintro en w1 ⟨kv,bv,rfl,cT,dY,dp⟩
 clear C
 obtain ⟨c0,c1,_,_⟩:=kp HW.out.2.2
 have d0:=(cT.cell (cD _ _ c0)).trans c0
 have d1:=(cT.cell (cD _ _ c1)).trans c1
 clear c0 c1
 have HB:=cH (cB cT (zzT HW.out.2.1 cT))
 cases hq:xf s text with
 | none =>
   obtain rfl:=dY hq
   have E:=cH (followOk_none hq ms ps)
   clear dY dp hq cT
   go_wp2_with fail
   go_ret
   exact ⟨by rw [E.out];rfl,HB.out.2⟩
 | some tb =>
   obtain ⟨t,b⟩:=tb
   obtain ⟨rk,rb⟩:=dp t b hq
   obtain ⟨E,et,lE⟩:=followOk_some hq ms ps
   obtain ⟨ka,ks,rfl,_⟩:=zO rk
   obtain ⟨ba,rfl⟩:=kC rb
   have E:=cH E
   have HR:=cH (cB rk (cB rb (cB et lE)))
   have C1:=cH (CL.out w1 cT)
   clear dY dp hq cT rk rb et lE CL
   cases AM:jf s ms ps with
   | false =>
     rw [AM] at E C1
     clear AM
     go_wp2_with fail
     (with_reducible refine C1.out.mono ?_)
     rintro en w2 ⟨rfl,cS⟩
     have dS:=cH (zzT HB.out.2 cS)
     clear cS d0 d1
     go_wp2_with fail
     go_ret
     exact ⟨by rw [E.out];rfl,dS.out⟩
   | true =>
     rw [AM,Bool.true_and] at E
     rw [AM] at C1
     have ip:=cH (xi AM)
     clear AM
     go_wp2_with fail
     (with_reducible refine C1.out.mono ?_)
     rintro en w2 ⟨rfl,cS⟩
     have mK:=zzT HB.out.1 cS
     have e0:=(cS.cell (cD _ _ d0)).trans d0
     have e1:=(cS.cell (cD _ _ d1)).trans d1
     have dU:=HP.out w2 mK ip.out
     rw [<- HR.out.2.2.1] at dU
     have C2:=cH (follows_any (fun _=>True) t b (ms.zip ps) (.pointer (some ⟨ka,0,none⟩)) (.pointer (some ⟨ba,0,none⟩)) _ _ w2 (HG.out w2 mK)
      ((Rep.below cS fun _ _=>trivial) HR.out.1) ((Rep.below cS fun _ _=>trivial) HR.out.2.1) ⟨(Rep.keep fun b o _ ho=>⟨trivial,ho⟩).1 _ _ dU.m,(Rep.keep fun b o _ ho=>⟨trivial,ho⟩).1 _ _ dU.p,dU.ok,dU.l⟩ HR.out.2.2.2.atoms HR.out.2.2.2.fit HR.out.2.2.2.wf)
     have dS:=cH (zzT HB.out.2 cS)
     obtain ⟨r,hr⟩:=zzN (decide (kS t b (ms.zip ps) (ms.zip ps).length))
     rw [hr] at C2 E
     clear cS d0 d1 mK dU C1 HP HG hr
     go_wp2_with fail
     (with_reducible refine C2.out.mono ?_)
     rintro en w3 ⟨rfl,cr⟩
     have n_:=cH (zzT dS.out cr)
     clear cr
     go_wp2_with fail
     go_ret
     exact ⟨by rw [E.out];rfl,n_.out⟩
structure NumQ (B:Nat) (xs ys:List Nat) (u v:Value) (w:World):Prop where
 l:Rep (B<=·) w (numD xs) u
 r:Rep (B<=·) w (numD ys) v
theorem NumQ.below {B:Nat} {xs ys:List Nat} {u v:Value} {w w':World} (h:NumQ B xs ys u v w) (hb:Below w.heap.size w w'):NumQ B xs ys u v w':=⟨h.l.below hb (fun _ h=>h),h.r.below hb (fun _ h=>h)⟩
theorem NumQ.but {B:Nat} {xs ys:List Nat} {u v:Value} {w w':World} {g:Nat} (_:NumQ B xs ys u v w) (hb:But (fun i=>i=g) w w') (hn:Rep (fun i=>B<=i/\i≠g) w (numD xs) u/\Rep (fun i=>B<=i/\i≠g) w (numD ys) v):NumQ B xs ys u v w' :=
 ⟨(Rep.keep fun i o hi ho=>⟨hi.1,by rw [hb.block i (zZ ho) hi.2];exact ho⟩).1 _ _ hn.1,(Rep.keep fun i o hi ho=>⟨hi.1,by rw [hb.block i (zZ ho) hi.2];exact ho⟩).1 _ _ hn.2⟩

section
variable {P:Program} {ops:Array Oper} {Q:Exit->Act->World->Prop} {md:Region.Mode} {S:World->Prop} {T:Nat->Bool}
end
structure Kv (va:Nat) (vw:Value) (w:World) (vw':Value) (w':World):Prop where
 but:But (Mv va vw) w w'
 row:∀ g,vw'.ownBlock=some g->vw.ownBlock=some g\/w.heap.size<=g
theorem Kv.obj {va:Nat} {vw vw':Value} {w w':World} (h:Kv va vw w vw' w') {b:Nat} {o:Obj} (hF:Fv va vw b) (ho:w.heap[b]? = some o):Fv va vw' b/\w'.heap[b]? = some o :=
 ⟨⟨hF.1,fun e=>by
   rcases h.row b e with h1 | h1
   ·exact hF.2 h1
   ·have:=zZ ho;omega⟩,by rw [h.but.block b (zZ ho) (fun e=>e.elim hF.1 hF.2)];exact ho⟩
theorem Kv.rep {va:Nat} {vw vw':Value} {w w':World} (h:Kv va vw w vw' w') {d:DV} {x:Value} (hr:Rep (Fv va vw) w d x):Rep (Fv va vw') w' d x:=Fv.keep h.but h.row hr
theorem Kv.trans {va:Nat} {vw vw' vw'':Value} {w w' w'':World} (h:Kv va vw w vw' w') (k:Kv va vw' w' vw'' w''):Kv va vw w vw'' w'' :=
 ⟨h.but.trans' k.but (fun i hi hm=>hm.imp id (fun e=>(h.row i e).resolve_right (by omega))),fun g hg=>(k.row g hg).elim (fun e=>h.row g e) (fun e=>.inr (cR h.but.size e))⟩
theorem Kv.below {va:Nat} {vw:Value} {w w':World} (hb:Below w.heap.size w w'):Kv va vw w vw w':=⟨But.ofBelow hb,fun _ hg=>.inl hg⟩
structure AskV (t:Ty) (l:Nat) (ss:List Bd) (y n:Bd) (lv:List zx) (bg:zx) (asked:Pl) (kv bv lsl mv pt:Value) (B0 B1:Nat) (va:Nat) (vw:Value) (w:World):Prop where
 g:qL w
 ng:∀ g,Mv va vw g->gR g
 rk:Rep (Fv va vw) w (qe t) kv
 rb:Rep (Fv va vw) w (kr (.ask l ss y n)) bv
 rl:jI (Fv va vw) w lv lsl
 rm:vR (Fv va vw) w asked mv
 rp:vM (Fv va vw) w asked pt
 f0:Fv va vw B0
 b0:w.heap[B0]? = some (.cells #[bv,lsl,.int .i64 (bg.1:Nat),str bg.2] 101 (0,0))
 f1:Fv va vw B1
 b1:w.heap[B1]? = some (.cells #[mv,pt] 28 (0,0))
theorem AskV.keep {t:Ty} {l:Nat} {ss:List Bd} {y n:Bd} {lv:List zx} {bg:zx} {asked:Pl} {kv bv lsl mv pt:Value} {B0 B1:Nat} {va:Nat} {vw vw':Value} {w w':World}
 (h:AskV t l ss y n lv bg asked kv bv lsl mv pt B0 B1 va vw w) (k:Kv va vw w vw' w'):AskV t l ss y n lv bg asked kv bv lsl mv pt B0 B1 va vw' w' :=
 ⟨h.g.but k.but h.ng,fun g hg=>hg.elim (fun e=>h.ng g (.inl e)) (fun e=>(k.row g e).elim (fun e=>h.ng g (.inr e)) (fun e=>h.g.new e)),k.rep h.rk,k.rep h.rb,k.rep h.rl,k.rep h.rm,k.rep h.rp,
  (k.obj h.f0 h.b0).1,(k.obj h.f0 h.b0).2,(k.obj h.f1 h.b1).1,(k.obj h.f1 h.b1).2⟩
structure Ko (vw:Value) (w:World) (vw':Value) (w':World):Prop where
 but:But (fun i=>vw.ownBlock=some i) w w'
 row:∀ g,vw'.ownBlock=some g->vw.ownBlock=some g\/w.heap.size<=g
abbrev Fo (vw:Value) (i:Nat):Prop:=¬ vw.ownBlock=some i
theorem Ko.obj {vw vw':Value} {w w':World} (h:Ko vw w vw' w') {b:Nat} {o:Obj} (hF:Fo vw b) (ho:w.heap[b]? = some o):Fo vw' b/\w'.heap[b]? = some o :=
 ⟨fun e=>by
  rcases h.row b e with h1 | h1
  ·exact hF h1
  ·have:=zZ ho;omega,by rw [h.but.block b (zZ ho) hF];exact ho⟩
theorem Ko.rep {vw vw':Value} {w w':World} (h:Ko vw w vw' w') {d:DV} {x:Value} (hr:Rep (Fo vw) w d x):Rep (Fo vw') w' d x:=(Rep.keep fun _ _ hF ho=>h.obj hF ho).1 _ _ hr
theorem Ko.reps {vw vw':Value} {w w':World} (h:Ko vw w vw' w') {d:List DV} {x:List Value} (hr:zH (Fo vw) w d x):zH (Fo vw') w' d x:=(Rep.keep fun _ _ hF ho=>h.obj hF ho).2 _ _ hr
theorem Ko.trans {vw vw' vw'':Value} {w w' w'':World} (h:Ko vw w vw' w') (k:Ko vw' w' vw'' w''):Ko vw w vw'' w'' :=
 ⟨h.but.trans' k.but (fun i hi hm=>(h.row i hm).resolve_right (by omega)),fun g hg=>(k.row g hg).elim (fun e=>h.row g e) (fun e=>.inr (cR h.but.size e))⟩
theorem Ko.below {vw:Value} {w w':World} (hb:Below w.heap.size w w'):Ko vw w vw w':=⟨But.ofBelow hb,fun _ hg=>.inl hg⟩
theorem SpAt.ko {vw vw':Value} {w w':World} (h:Ko vw w vw' w') {b:Bd} {lv:List zx} {bg:zx} {v:Pl} {vs:List Value} (hr:SpAt (Fo vw) w b lv bg v vs):SpAt (Fo vw') w' b lv bg v vs:=by
 obtain ⟨begun,args,opens,h1,h2⟩:=hr
 exact ⟨begun,args,opens,h1,h.reps h2⟩
theorem SpAt.below {F:Nat->Prop} {w w':World} (hb:Below w.heap.size w w') {b:Bd} {lv:List zx} {bg:zx} {v:Pl} {vs:List Value} (hr:SpAt F w b lv bg v vs):SpAt F w' b lv bg v vs:=by
 obtain ⟨begun,args,opens,h1,h2⟩:=hr
 exact ⟨begun,args,opens,h1,h2.below hb (fun _ h=>h)⟩
def TvOut (o:Option (List Pl)) (vw:Value) (us:List (Value×Value)) (L:List Pl) (w:World) (en:Ending) (w':World):Prop :=
 ∃ a n c,en=.returned (.tuple #[.slice a n c,.bool o.isSome])/\But (fun i=>vw.ownBlock=some i) w w'/\∀ out,o=some out->∃ us',xY w' (L++out) (.slice a n c) (us++us')/\(∀ g,(Value.slice a n c).ownBlock=some g->vw.ownBlock=some g\/w.heap.size<=g)/\∀ u∈us',∀ g,u.1.ownBlock=some g\/u.2.ownBlock=some g->w.heap.size<=g
theorem TvOut.no {t:Ty} {b:Bd} {lv:List zx} {bg:zx} {v:Pl} {vw:Value} {us:List (Value×Value)} {L:List Pl} {w w':World} {a:Option Addr} {n c:Nat} (hb:But (fun i=>vw.ownBlock=some i) w w') (e:vd t b lv bg v=none) :
 TvOut (vd t b lv bg v) vw us L w (.returned (.tuple #[.slice a n c,.bool false])) w':=by
 rw [e]
 exact ⟨a,n,c,rfl,hb,fun out h=>by simp at h⟩
theorem pls_add {w W:World} {vw:Value} {us:List (Value×Value)} {L:List Pl} {l:Pl} {mv pt:Value} (hp:xY w L vw us) (hB:Below w.heap.size w W) (hl:zo W l mv pt) (hn:∀ g,mv.ownBlock=some g\/pt.ownBlock=some g->w.heap.size<=g)
 {v':Value} {w5:World} (AI:Own w5 28 2 v' (us.length+1) (plC us++[mv,pt])) (dK:But (fun b=>vw.ownBlock=some b) W w5):xY w5 (L++[l]) v' (us++[(mv,pt)]):=by
 have AH:xY W L vw us:=jl.below hp hB
 have lM:(plX l).1.length=l.length:=by simp [plX,qg]
 have lP:(plX l).2.length=l.length:=by simp [plX,qD]
 unfold xY
 rw [List.map_append,List.map_singleton]
 exact jl.snoc (u:=(mv,pt)) (x:=plX l) AH AI dK (by rw [lM];exact hl.1) (by rw [lP];exact hl.2) (fun g hg hP=>by
  have h1:=hn g hg
  have h2:=hp.lt hP
  omega)

theorem take_at (v:Pl) {n i:Nat} (h:i<n):(v.take n)[i]? = v[i]?:=by rw [List.getElem?_take,if_pos h]
theorem okAt_take (t:Ty) (v:Pl) {n i:Nat} (h:i<n):ji t (v.take n) i=ji t v i:=by
 unfold ji
 rw [take_at v h]
 cases hv:v[i]? with
 | none=>rfl
 | some x =>
   simp only
   by_cases hi:i=0
   ·rw [if_pos hi,if_pos hi]
   ·rw [if_neg hi,if_neg hi]
    by_cases hz:0<=x.2/\x.2<(i:Int)
    ·rw [take_at v (show x.2.toNat<n by omega)]
    ·have:(decide (0<=x.2) && decide (x.2<(i:Int)))=false:=by
      rw [Bool.and_eq_false_iff,decide_eq_false_iff_not,decide_eq_false_iff_not]
      by_cases h0:0<=x.2
      ·exact .inr fun h1=>hz ⟨h0,h1⟩
      ·exact .inl h0
     rw [this,Bool.false_and,Bool.false_and,Bool.false_and]
theorem cQ (t:Ty) (v:Pl) {n:Nat}:∀ m,m<=n->qd t (v.take n) m=qd t v m
 | 0,_=>rfl
 | m+1,h=>by rw [qd,qd,cQ t v m (by omega),okAt_take t v (by omega)]
theorem cJ {t:Ty} {v:Pl}:∀ {m:Nat},(∀ i,i<m->ji t v i=true)->qd t v m=true
 | 0,_=>rfl
 | m+1,h=>by rw [qd,cJ (fun i hi=>h i (by omega)),h m (by omega)];rfl
theorem valid_take {t:Ty} {v:Pl} (h:zL t v=true) (n:Nat):zL t (v.take n)=true:=by
 have mT:=jV h
 unfold zL at h ⊢
 rw [Bool.and_eq_true] at h ⊢
 refine ⟨by rw [decide_eq_true_eq,List.length_take];omega,?_⟩
 rw [cQ t v _ (by rw [List.length_take];omega)]
 exact cJ fun i hi=>xV h.2 (by rw [List.length_take] at hi;omega)
theorem pd {t:Ty} {v:Pl} (h:zL t v=true) (b:Bd) {n:Nat}:∀ f m,m<=n->m<=v.length->vT t b (v.take n) f m=vT t b v f m
 | 0,_,_,_=>rfl
 | f+1,m,hm,hl=>by
   rw [vT,vT]
   by_cases h1:m<=1
   ·rw [if_pos h1,if_pos h1]
   ·rw [if_neg h1,if_neg h1,take_at v (show m-1<n by omega)]
    obtain ⟨c,p,z,hv,ho⟩:=kg h (show m-1<v.length by omega)
    rw [hv]
    have:=(ho.pos (by omega)).2.1
    simp only
    rw [pd h b f z.toNat (by omega) (by omega)]
theorem wD {t:Ty} {v:Pl} (h:zL t v=true) (b:Bd) {n m:Nat} (hm:m<=n) (hl:m<=v.length):kw t b (v.take n) m=kw t b v m:=pd h b _ m hm hl
theorem gN.take {F:Nat->Prop} {t:Ty} {v:Pl} {mv pt:Value} {w:World} (h:gN F t v mv pt w) {n:Nat} {mv' pt':Value} (hm:vR F w (v.take n) mv') (hp:vM F w (v.take n) pt'):gN F t (v.take n) mv' pt' w :=
 ⟨hm,hp,valid_take h.ok n,fun x hx=>h.l x (List.mem_of_mem_take hx)⟩
def qAt (v:Pl) (i:Nat):Prop:=∃ m z,v[i]? = some (m,z)/\isQ m=true
def gM (v:Pl) (k:Nat) (ans:List Int) (q:Nat):Prop:=(q:Int)∈ans\/∃ j m,q<j/\j<k/\v[j]? = some (m,(q:Int))/\isQ m=false
structure xX (v:Pl) (k:Nat) (ans:List Int) (z:Nat):Prop where
 lt:z<k
 q:qAt v z
 free:¬ gM v k ans z
 all:∀ i,z<i->i<k->qAt v i->gM v k ans i
theorem gS (v:Pl):∀ (k:Nat) (ans:List Int),k<=v.length->(∃ z:Nat,qN v k ans=(z:Int)/\xX v k ans z)\/(qN v k ans = -1/\∀ i,i<k->qAt v i->gM v k ans i)
 | 0,ans,_=>.inr ⟨rfl,fun i hi=>absurd hi (by omega)⟩
 | k+1,ans,hk=>by
   have hv:v[k]? = some v[k]:=List.getElem?_eq_getElem (by omega)
   obtain ⟨m,y⟩:Bs×Int:=v[k]
   obtain ⟨m,y,hv⟩:∃ m y,v[k]? = some (m,y):=⟨_,_,hv⟩
   cases hq:isQ m with
   | true =>
     have dn:∀ i,gM v k ans i->gM v (k+1) ans i:=fun i h=>h.imp id fun ⟨j,m',h1,h2,h3⟩=>⟨j,m',h1,by omega,h3⟩
     have rh:∀ i,gM v (k+1) ans i->gM v k ans i:=fun i h=>h.imp id fun ⟨j,m',h1,h2,h3,h4⟩=>⟨j,m',h1,by
      rcases Nat.lt_or_ge j k with h | h
      ·exact h
      ·obtain rfl:j=k:=by omega
       rw [hv] at h3
       simp only [Option.some.injEq,Prod.mk.injEq] at h3
       rw [<- h3.1,hq] at h4;simp at h4,h3,h4⟩
     rw [wF hv,hq,if_pos rfl]
     by_cases hc:ans.contains (k:Int)=true
     ·rw [if_pos hc]
      have sm:(k:Int)∈ans:=by simpa using hc
      rcases gS v k ans (by omega) with ⟨z,h1,h2⟩ | ⟨h1,h2⟩
      ·refine .inl ⟨z,h1,by have:=h2.lt;omega,h2.q,fun h=>h2.free (rh _ h),fun i hi tj sU=>?_⟩
       rcases Nat.lt_or_ge i k with h | h
       ·exact dn _ (h2.all i hi h sU)
       ·obtain rfl:i=k:=by omega
        exact .inl sm
      ·refine .inr ⟨h1,fun i hi sU=>?_⟩
       rcases Nat.lt_or_ge i k with h | h
       ·exact dn _ (h2 i h sU)
       ·obtain rfl:i=k:=by omega
        exact .inl sm
     ·rw [if_neg hc]
      refine .inl ⟨k,rfl,by omega,⟨m,y,hv,hq⟩,fun h=>?_,fun i hi tj=>absurd tj (by omega)⟩
      rcases h with h | ⟨j,_,h1,h2,_⟩
      ·exact hc (by simpa using h)
      ·omega
   | false =>
     rw [wF hv,hq,if_neg (by simp)]
     have hto:∀ i,i<k->(gM v k (ans++[y]) i↔gM v (k+1) ans i):=fun i hi=>by
      unfold gM
      constructor
      ·rintro (h | ⟨j,m',h1,h2,h3,h4⟩)
       ·rw [List.mem_append,List.mem_singleton] at h
        rcases h with h | h
        ·exact .inl h
        ·exact .inr ⟨k,m,hi,by omega,by rw [hv,h],hq⟩
       ·exact .inr ⟨j,m',h1,by omega,h3,h4⟩
      ·rintro (h | ⟨j,m',h1,h2,h3,h4⟩)
       ·exact .inl (List.mem_append_left _ h)
       ·rcases Nat.lt_or_ge j k with h | h
        ·exact .inr ⟨j,m',h1,h,h3,h4⟩
        ·obtain rfl:j=k:=by omega
         rw [hv] at h3
         simp only [Option.some.injEq,Prod.mk.injEq] at h3
         exact .inl (List.mem_append_right _ (by rw [List.mem_singleton];exact h3.2.symm))
     have lV:¬ qAt v k:=fun ⟨m',y',h1,h2⟩=>by
      rw [hv] at h1
      simp only [Option.some.injEq,Prod.mk.injEq] at h1
      rw [<- h1.1,hq] at h2;simp at h2
     rcases gS v k (ans++[y]) (by omega) with ⟨z,h1,h2⟩ | ⟨h1,h2⟩
     ·refine .inl ⟨z,h1,by have:=h2.lt;omega,h2.q,fun h=>h2.free ((hto z h2.lt).2 h),fun i hi tj sU=>?_⟩
      rcases Nat.lt_or_ge i k with h | h
      ·exact (hto i h).1 (h2.all i hi h sU)
      ·obtain rfl:i=k:=by omega
       exact absurd sU lV
     ·refine .inr ⟨h1,fun i hi sU=>?_⟩
      rcases Nat.lt_or_ge i k with h | h
      ·exact (hto i h).1 (h2 i h sU)
      ·obtain rfl:i=k:=by omega
       exact absurd sU lV
theorem xX.eq {v:Pl} {k z:Nat} {ans:List Int} (hk:k<=v.length) (h:xX v k ans z):qN v k ans=(z:Int):=by
 rcases gS v k ans hk with ⟨y,h1,h2⟩ | ⟨_,h2⟩
 ·rw [h1]
  rcases Nat.lt_trichotomy y z with h3 | h3 | h3
  ·exact absurd (h2.all z h3 h.lt h.q) h.free
  ·rw [h3]
  ·exact absurd (h.all y h3 h2.lt h2.q) h2.free
 ·exact absurd (h2 z h.lt h.q) h.free
theorem pend_of {v:Pl} {k z:Nat} {ans:List Int} (hk:k<=v.length) (h:qN v k ans=(z:Int)):xX v k ans z:=by
 rcases gS v k ans hk with ⟨y,h1,h2⟩ | ⟨h1,_⟩
 ·rw [h1] at h
  obtain rfl:y=z:=by omega
  exact h2
 ·rw [h1] at h;omega
def brTo (v:Pl) (n:Nat):Prop:=∀ i m z,i<n->v[i]? = some (m,z)->isQ m=false->z=qN v i []
theorem brP_to {v:Pl} (h:v_ v=true):brTo v v.length:=fun i m z hi hv hq=>by
 unfold v_ brP at h
 rw [Bool.and_eq_true] at h
 have h1:=xM h.2 hi
 rw [brAt_at hv,hq,Bool.false_or] at h1
 simpa using h1
theorem pend_back {v:Pl} {k z g:Nat} {m mq:Bs} {y:Int} (hk:k<v.length) (hb:brTo v v.length) (hv:v[k]? = some (m,(z:Int))) (hq:isQ m=false) (hz:v[z]? = some (mq,y)) (hzq:isQ mq=true) (cL:z<k) (hg:qN v z []=(g:Int)):qN v (k+1) []=(g:Int):=by
 have hP:xX v k [] z:=pend_of (by omega) (hb k m _ hk hv hq).symm
 have hG:xX v z [] g:=pend_of (by omega) hg
 have hgz:=hG.lt
 have dn:∀ a c i,a<=c->gM v a [] i->gM v c [] i:=fun a c i hac h=>h.imp id fun ⟨j,m',h1,h2,h3⟩=>⟨j,m',h1,by omega,h3⟩
 refine xX.eq (by omega) ⟨by omega,hG.q,fun h=>?_,fun i hi tj sU=>?_⟩
 ·rcases h with h | ⟨j,m',h1,h2,h3,h4⟩
  ·simp at h
  ·rcases Nat.lt_trichotomy j z with hj | hj | hj
   ·exact hG.free (.inr ⟨j,m',h1,hj,h3,h4⟩)
   ·subst hj
    rw [hz] at h3
    simp only [Option.some.injEq,Prod.mk.injEq] at h3
    rw [<- h3.1,hzq] at h4;simp at h4
   ·rcases Nat.lt_or_ge j k with hjk | hjk
    ·have h5:xX v j [] g:=pend_of (by omega) (hb j m' _ (by omega) h3 h4).symm
     have h6:=h5.all z hgz hj ⟨mq,y,hz,hzq⟩
     exact hP.free (dn j k z (by omega) h6)
    ·obtain rfl:j=k:=by omega
     rw [hv] at h3
     simp only [Option.some.injEq,Prod.mk.injEq] at h3
     have:=h3.2;omega
 ·rcases Nat.lt_trichotomy i z with h | h | h
  ·exact dn z (k+1) i (by omega) (hG.all i hi h sU)
  ·subst h
   exact .inr ⟨k,m,cL,by omega,hv,hq⟩
  ·rcases Nat.lt_or_ge i k with hik | hik
   ·exact dn k (k+1) i (by omega) (hP.all i h hik sU)
   ·obtain rfl:i=k:=by omega
    obtain ⟨m',y',h1,h2⟩:=sU
    rw [hv] at h1
    simp only [Option.some.injEq,Prod.mk.injEq] at h1
    rw [<- h1.1,hq] at h2;simp at h2
theorem jO {v:Pl} {x:Bs×Int} {i:Nat} (h:i<v.length):(v++[x])[i]? = v[i]?:=List.getElem?_append_left h
theorem g9 (v:Pl) (x:Bs×Int):(v++[x])[v.length]? = some x:=by rw [List.getElem?_append_right (cC _),Nat.sub_self];rfl
theorem gr {t:Ty} {v:Pl} (hv:zL t v=true) (x:Bs×Int) (o:Bool):∀ f n,n<=v.length->jR (v++[x]) o f n=jR v o f n
 | 0,_,_=>by rw [jR,jR]
 | f+1,0,_=>by rw [jo,jo]
 | f+1,n+1,hn=>by
   have e:qh (v++[x]) o n=qh v o n:=by unfold qh;rw [jO (by omega)]
   have h1:=backTo_le hv o (n:=n) (by omega)
   rw [kk,kk,e,gr hv x o f _ (by omega)]
theorem jn {t:Ty} {v:Pl} (hv:zL t v=true) (x:Bs×Int) (o:Bool) {n:Nat} (hn:n<=v.length):kB (v++[x]) o n=kB v o n:=by
 unfold kB;rw [gr hv x o n n hn]
theorem jv (v:Pl) (x:Bs×Int):∀ (n:Nat) (ans:List Int),n<=v.length->qN (v++[x]) n ans=qN v n ans
 | 0,_,_=>rfl
 | n+1,ans,h=>by
   rw [qN,qN,jO (show n<v.length by omega),jv v x n ans (by omega)]
   cases v[n]? with
   | none=>rfl
   | some y=>simp only [jv v x n _ (by omega)]
theorem okAt_snoc (t:Ty) (v:Pl) (x:Bs×Int) {i:Nat} (h:i<v.length):ji t (v++[x]) i=ji t v i:=by
 have:=okAt_take t (v++[x]) h
 rw [List.take_left' rfl] at this
 exact this.symm
theorem valid_snoc {t:Ty} {v:Pl} (hv:zL t v=true) (x:Bs×Int):zL t (v++[x])=(decide (v.length<60) && ji t (v++[x]) v.length):=by
 unfold zL at hv
 rw [Bool.and_eq_true] at hv
 have h1:qd t (v++[x]) v.length=true:=cJ fun i hi=>by rw [okAt_snoc t v x hi];exact xV hv.2 hi
 unfold zL
 rw [List.length_append,List.length_singleton,qd,h1,Bool.true_and]
 congr 1
theorem visAt_snoc {t:Ty} {v:Pl} (hv:zL t v=true) (x:Bs×Int) {i:Nat} (h:i<v.length):yq (v++[x]) i=yq v i:=by
 unfold yq
 rw [jO h]
 cases v[i]? with
 | none=>rfl
 | some y=>simp only [jn hv x _ (Nat.le_of_lt h)]
theorem brAt_snoc (v:Pl) (x:Bs×Int) {i:Nat} (h:i<v.length):gF (v++[x]) i=gF v i:=by
 unfold gF
 rw [jO h]
 cases v[i]? with
 | none=>rfl
 | some y=>simp only [jv v x i _ (Nat.le_of_lt h)]
theorem legal_snoc {t:Ty} {v:Pl} (hv:zL t v=true) (hl:v_ v=true) (x:Bs×Int):v_ (v++[x])=(yq (v++[x]) v.length && gF (v++[x]) v.length):=by
 unfold v_ visP brP at hl ⊢
 rw [Bool.and_eq_true] at hl
 have h1:uV (yq (v++[x])) v.length=true:=gq fun i hi=>by rw [visAt_snoc hv x hi];exact xM hl.1 hi
 have h2:uV (gF (v++[x])) v.length=true:=gq fun i hi=>by rw [brAt_snoc v x hi];exact xM hl.2 hi
 rw [List.length_append,List.length_singleton,uV,uV,h1,h2,Bool.true_and,Bool.true_and]
structure InPl (t:Ty) (b:Bd) (v:Pl):Prop where
 ok:zL t v=true
 lg:v_ v=true
 fo:kS t b v v.length
theorem follows_snoc {t:Ty} {b:Bd} {v:Pl} {x:Bs×Int} (hv:zL t (v++[x])=true) (n:Nat) (hn:n<=v.length) (hf:kS t b v n):kS t b (v++[x]) n:=fun i hi ho=>by
 have h1:=wD hv b (n:=v.length) (m:=i) (by omega) (by rw [List.length_append];omega)
 rw [List.take_left' rfl] at h1
 unfold jz
 rw [<- h1,jO (by omega)]
 exact hf i hi ho



def PlQ (o:Option Pl) (w:World) (en:Ending) (w':World):Prop :=
 ∃ a1 c1 a2 c2,en=.returned (.tuple #[.agg #[.slice a1 (o.getD []).length c1,.slice a2 (o.getD []).length c2],.bool o.isSome])/\Below w.heap.size w w'/\zo w' (o.getD []) (.slice a1 (o.getD []).length c1) (.slice a2 (o.getD []).length c2) /\
   ∀ g,(Value.slice a1 (o.getD []).length c1).ownBlock=some g\/(Value.slice a2 (o.getD []).length c2).ownBlock=some g->w.heap.size<=g
theorem PlQ.none {w w':World} (hb:Below w.heap.size w w'):PlQ none w (.returned (.tuple #[.agg #[.slice .none 0 0,.slice .none 0 0],.bool false])) w' :=
 ⟨_,_,_,_,rfl,hb,yY _,fun g h=>by simp [Value.ownBlock] at h⟩

structure NxR (B:Nat) (L:List Pl) (a:Option Addr) (n c:Nat) (us:List (Value×Value)) (wz:World):Prop where
 len:L.length=n
 pls:xY wz L (.slice a n c) us
 new:∀ g,PlB (.slice a n c) us g->B<=g
theorem NxR.below {B:Nat} {L:List Pl} {a:Option Addr} {n c:Nat} {us:List (Value×Value)} {w w':World} (h:NxR B L a n c us w) (hb:Below w.heap.size w w'):NxR B L a n c us w':=⟨h.len,jl.below h.pls hb,h.new⟩
theorem NxR.mono {B B':Nat} {L:List Pl} {a:Option Addr} {n c:Nat} {us:List (Value×Value)} {w:World} (h:NxR B L a n c us w) (hb:B'<=B):NxR B' L a n c us w:=⟨h.len,h.pls,fun g hg=>cR hb (h.new g hg)⟩
theorem NxR.nil (B:Nat) (w:World):NxR B [] none 0 0 [] w:=⟨rfl,jl.nil w,fun g h=>by
 rcases h with h | ⟨u,hu,_⟩
 ·simp [Value.ownBlock] at h
 ·simp at hu⟩
theorem NxR.add {B:Nat} {L:List Pl} {a:Option Addr} {n c:Nat} {us:List (Value×Value)} {w W:World} {l:Pl} {mv pt:Value} (h:NxR B L a n c us w) (hB:Below w.heap.size w W) (hBB:B<=w.heap.size) (hl:zo W l mv pt) (hn:∀ g,mv.ownBlock=some g\/pt.ownBlock=some g->w.heap.size<=g)
 {a':Option Addr} {c':Nat} {w5:World} (AI:Own w5 28 2 (.slice a' (n+1) c') (n+1) (plC us++[mv,pt])) (dK:But (fun b=>(Value.slice a n c).ownBlock=some b) W w5) (hg5:∀ g,(Value.slice a' (n+1) c').ownBlock=some g->(Value.slice a n c).ownBlock=some g\/g=W.heap.size) :
 NxR B (L++[l]) a' (n+1) c' (us++[(mv,pt)]) w5:=by
 have a_:us.length=n:=by rw [h.pls.length,h.len]
 have h1:=pls_add (v':=.slice a' (n+1) c') h.pls hB hl hn (by rw [a_];exact AI) dK
 refine ⟨by rw [List.length_append,h.len];rfl,h1,fun g hg=>?_⟩
 rcases hg with hg | ⟨u,hu,hg⟩
 ·rcases hg5 g hg with hg | hg
  ·exact h.new g (.inl hg)
  ·have:=hB.size;omega
 ·rcases List.mem_append.1 hu with hu | hu
  ·exact h.new g (.inr ⟨u,hu,hg⟩)
  ·rw [List.mem_singleton] at hu
   subst hu
   have:=hn g hg;omega
theorem NxR.own {B:Nat} {L:List Pl} {a:Option Addr} {n c:Nat} {us:List (Value×Value)} {w:World} (h:NxR B L a n c us w):Own w 28 2 (.slice a n c) n (plC us):=by
 have a_:us.length=n:=by rw [h.pls.length,h.len]
 have:=h.pls.own
 rwa [a_] at this
structure RdR (B:Nat) (L:List Pl) (a:Option Addr) (n c:Nat) (us:List (Value×Value)) (wz:World):Prop where
 len:L.length=n
 ul:us.length=n
 own:Own wz 28 2 (.slice a n c) n (plC us)
 each:∀ (i:Nat) (u:Value×Value) (l:Pl),us[i]? = some u->L[i]? = some l->zo wz l u.1 u.2
 new:∀ g,PlB (.slice a n c) us g->B<=g
theorem NxR.rd {B:Nat} {L:List Pl} {a:Option Addr} {n c:Nat} {us:List (Value×Value)} {w:World} (h:NxR B L a n c us w):RdR B L a n c us w :=
 ⟨h.len,by rw [h.pls.length,h.len],h.own,fun i u l hu hl=>h.pls.play hu hl,h.new⟩
theorem RdR.below {B:Nat} {L:List Pl} {a:Option Addr} {n c:Nat} {us:List (Value×Value)} {w w':World} (h:RdR B L a n c us w) (hb:Below w.heap.size w w'):RdR B L a n c us w' :=
 ⟨h.len,h.ul,h.own.keep fun g o _ ho=>by rw [hb.block g (zZ ho)];exact ho,fun i u l hu hl=>(h.each i u l hu hl).below hb,h.new⟩
theorem RdR.mono {B B':Nat} {L:List Pl} {a:Option Addr} {n c:Nat} {us:List (Value×Value)} {w:World} (h:RdR B L a n c us w) (hb:B'<=B):RdR B' L a n c us w:=⟨h.len,h.ul,h.own,h.each,fun g hg=>cR hb (h.new g hg)⟩
theorem zo.offRow {w w':World} {l:Pl} {mv pt v:Value} {n:Nat} {xs:List Value} (h:zo w l mv pt) (ho:Own w 28 2 v n xs) (hb:But (fun b=>v.ownBlock=some b) w w'):zo w' l mv pt :=
 h.but hb fun g hg e=>hg.elim (fun hg=>h.1.unlikeG ho yx hg e) fun hg=>h.2.unlikeG ho wA hg e
theorem RdR.off {B:Nat} {L:List Pl} {a:Option Addr} {n c:Nat} {us:List (Value×Value)} {w w':World} (h:RdR B L a n c us w) {v:Value} {m:Nat} {xs:List Value} (ho:Own w 28 2 v m xs) (hb:But (fun b=>v.ownBlock=some b) w w') (hn:∀ g,(Value.slice a n c).ownBlock=some g->v.ownBlock≠some g):RdR B L a n c us w' :=
 ⟨h.len,h.ul,h.own.keep fun g o hg hh=>by rw [hb.block g (zZ hh) (hn g hg)];exact hh,fun i u l hu hl=>(h.each i u l hu hl).offRow ho hb,h.new⟩
theorem RdR.cells {B:Nat} {L:List Pl} {a:Option Addr} {n c:Nat} {us:List (Value×Value)} {w:World} (h:RdR B L a n c us w) {i:Nat} {u:Value×Value} (hu:us[i]? = some u):∃ g,a=some ⟨g,0,none⟩/\w.cell? ⟨g,i*2,none⟩=some u.1/\w.cell? ⟨g,i*2+1,none⟩=some u.2:=by
 obtain ⟨h1,h2⟩:=plC_at us i u hu
 obtain ⟨g,c',e,k1⟩:=h.own.at h1
 obtain ⟨g',c'',e',k2⟩:=h.own.at h2
 simp only [Value.slice.injEq,true_and] at e e'
 obtain ⟨rfl,_⟩:=e
 obtain ⟨e',_⟩:=e'
 simp only [Option.some.injEq,Addr.mk.injEq,and_true] at e'
 obtain rfl:=e'
 exact ⟨g,rfl,k1,k2⟩
theorem RdR.at {B:Nat} {L:List Pl} {a:Option Addr} {n c:Nat} {us:List (Value×Value)} {w:World} (h:RdR B L a n c us w) {i:Nat} (hi:i<n):∃ u l,us[i]? = some u/\L[i]? = some l/\zo w l u.1 u.2:=by
 have h1:us[i]? = some (us[i]'(by rw [h.ul];exact hi)):=List.getElem?_eq_getElem _
 have h2:L[i]? = some (L[i]'(by rw [h.len];exact hi)):=List.getElem?_eq_getElem _
 exact ⟨_,_,h1,h2,h.each i _ _ h1 h2⟩
theorem RdR.one {B:Nat} {L:List Pl} {a:Option Addr} {n c:Nat} {us:List (Value×Value)} {w:World} (h:RdR B L a n c us w):∀ x∈plC us,x.oneCell'=true:=by
 intro x hx
 unfold plC at hx
 rw [List.mem_flatMap] at hx
 obtain ⟨u,hu,hx⟩:=hx
 obtain ⟨i,hi⟩:=List.mem_iff_getElem?.1 hu
 have hl:=(List.getElem?_eq_some_iff.1 hi).1
 have hL:L[i]? = some (L[i]'(by rw [h.len,<- h.ul];exact hl)):=List.getElem?_eq_getElem _
 have hp:=h.each i u _ hi hL
 obtain ⟨a1,c1,e1⟩:=hp.1.slice
 obtain ⟨a2,c2,e2⟩:=hp.2.slice
 simp only [List.mem_cons,List.not_mem_nil,or_false] at hx
 rcases hx with rfl | rfl
 ·rw [e1];rfl
 ·rw [e2];rfl
theorem RdR.first (B:Nat) (w:World) (hB:B<=w.heap.size):RdR B [[]] (some ⟨w.heap.size,0,none⟩) 1 1 [(.slice none 0 0,.slice none 0 0)] (w.alloc (.cells #[.slice none 0 0,.slice none 0 0] 28)):=by
 refine ⟨rfl,rfl,Own.lit #[.slice none 0 0,.slice none 0 0] 1 (by unfold maxLen;omega) rfl,fun i u l hu hl=>?_,fun g hg=>?_⟩
 ·cases i with
  | zero =>
    obtain rfl:=Option.some.inj hu
    obtain rfl:=Option.some.inj hl
    exact yY _
  | succ i=>simp at hu
 ·rcases hg with hg | ⟨u,hu,hg⟩
  ·simp [Value.ownBlock] at hg;omega
  ·rw [List.mem_singleton] at hu
   subst hu
   rcases hg with hg | hg <;> simp [Value.ownBlock] at hg
structure ClR (B:Nat) (L:List Pl) (a:Option Addr) (n c i:Nat) (us vs:List (Value×Value)) (wz:World):Prop where
 len:L.length=n
 ul:us.length=n
 vl:vs.length=i
 own:Own wz 28 2 (.slice a n c) n (plC (vs++us.drop i))
 each:∀ (k:Nat) (u:Value×Value) (l:Pl),us[k]? = some u->L[k]? = some l->zo wz l u.1 u.2
 done:∀ (k:Nat) (u:Value×Value) (l:Pl),vs[k]? = some u->L[k]? = some l->zo wz l u.1 u.2
 apart:∀ (i j:Nat) (u u':Value×Value),i≠j->vs[i]? = some u->vs[j]? = some u'->∀ g,(u.1.ownBlock=some g->u'.1.ownBlock≠some g)/\(u.2.ownBlock=some g->u'.2.ownBlock≠some g)
 row:∀ g,(Value.slice a n c).ownBlock=some g->B<=g
 new:∀ u∈vs,∀ g,u.1.ownBlock=some g\/u.2.ownBlock=some g->B<=g
theorem RdR.cl {B:Nat} {L:List Pl} {a:Option Addr} {n c:Nat} {us:List (Value×Value)} {w:World} (h:RdR B L a n c us w):ClR B L a n c 0 us [] w :=
 ⟨h.len,h.ul,rfl,h.own,h.each,fun k u l hu _=>by simp at hu,fun i j u u' _ hu=>by simp at hu,fun g hg=>h.new g (.inl hg),fun u hu=>by simp at hu⟩
theorem ClR.nx {B:Nat} {L:List Pl} {a:Option Addr} {n c:Nat} {us vs:List (Value×Value)} {w:World} (h:ClR B L a n c n us vs w):NxR B L a n c vs w:=by
 have ho:=h.own
 rw [List.drop_of_length_le (by rw [h.ul];exact cC _),List.append_nil] at ho
 refine ⟨h.len,⟨by rw [h.vl];exact ho,by rw [h.vl,List.length_map,h.len],fun i u x hu hx=>?_,h.apart⟩,fun g hg=>?_⟩
 ·rw [List.getElem?_map,Option.map_eq_some_iff] at hx
  obtain ⟨l,hl,rfl⟩:=hx
  have hp:=h.done i u l hu hl
  have lM:(plX l).1.length=l.length:=by simp [plX,qg]
  have lP:(plX l).2.length=l.length:=by simp [plX,qD]
  rw [lM,lP];exact hp
 ·rcases hg with hg | ⟨u,hu,hg⟩
  ·exact h.row g hg
  ·exact h.new u hu g hg
theorem ClR.at {B:Nat} {L:List Pl} {a:Option Addr} {n c i:Nat} {us vs:List (Value×Value)} {w:World} (h:ClR B L a n c i us vs w) (hi:i<n):∃ u l,us[i]? = some u/\L[i]? = some l/\zo w l u.1 u.2:=by
 have h1:us[i]? = some (us[i]'(by rw [h.ul];exact hi)):=List.getElem?_eq_getElem _
 have h2:L[i]? = some (L[i]'(by rw [h.len];exact hi)):=List.getElem?_eq_getElem _
 exact ⟨_,_,h1,h2,h.each i _ _ h1 h2⟩
theorem ClR.cells {B:Nat} {L:List Pl} {a:Option Addr} {n c i:Nat} {us vs:List (Value×Value)} {w:World} (h:ClR B L a n c i us vs w) {u:Value×Value} (hu:us[i]? = some u):∃ g,a=some ⟨g,0,none⟩/\w.cell? ⟨g,i*2,none⟩=some u.1/\w.cell? ⟨g,i*2+1,none⟩=some u.2:=by
 have mL:(vs++us.drop i)[i]? = some u:=by
  have hv:=h.vl
  rw [List.getElem?_append_right (by omega),List.getElem?_drop,hv,Nat.sub_self,Nat.add_zero];exact hu
 obtain ⟨h1,h2⟩:=plC_at _ i u mL
 obtain ⟨g,c',e,k1⟩:=h.own.at h1
 obtain ⟨g',c'',e',k2⟩:=h.own.at h2
 simp only [Value.slice.injEq,true_and] at e e'
 obtain ⟨rfl,_⟩:=e
 obtain ⟨e',_⟩:=e'
 simp only [Option.some.injEq,Addr.mk.injEq,and_true] at e'
 obtain rfl:=e'
 exact ⟨g,rfl,k1,k2⟩
theorem Own.put2 {w:World} {e:TypeId} {g n c:Nat} {xs:List Value} (h:Own w e 2 (.slice (some ⟨g,0,none⟩) n c) n xs) (j:Nat) (u:Value):Own (w.setCell ⟨g,j,none⟩ u) e 2 (.slice (some ⟨g,0,none⟩) n c) n (xs.set j u):=by
 obtain ⟨hl,⟨h0,_⟩ | ⟨g',cap,cur,hv,h0,hg,nZ,o0,hcs,d6⟩⟩:=h
 ·cases h0
 ·simp only [Value.slice.injEq,Option.some.injEq,Addr.mk.injEq] at hv
  obtain ⟨⟨rfl,_,_⟩,_,rfl⟩:=hv
  refine ⟨by simpa using hl,.inr ⟨g,c,cur.setIfInBounds j u,rfl,h0,zu hg,nZ,o0,by simpa using hcs,?_⟩⟩
  rw [Array.toList_setIfInBounds,<- d6,List.take_set]
theorem plC_put (vs us:List (Value×Value)) (u:Value×Value) (h:vs.length<us.length):((plC (vs++us.drop vs.length)).set (vs.length*2) u.1).set (vs.length*2+1) u.2=plC ((vs++[u])++us.drop (vs.length+1)):=by
 have hl:=bW vs
 have hd:us.drop vs.length=us[vs.length]::us.drop (vs.length+1):=(List.drop_eq_getElem_cons h)
 rw [hd,yW,wE,List.append_assoc,yW,yW,show plC [u]=[u.1,u.2] from rfl]
 rw [<- hl,List.set_append_right _ _ (cC _),Nat.sub_self,List.set_cons_zero,List.set_append_right _ _ (by omega),Nat.add_sub_cancel_left]
 rfl
theorem ClR.put {B:Nat} {L:List Pl} {g n c i:Nat} {us vs:List (Value×Value)} {w W:World} (h:ClR B L (some ⟨g,0,none⟩) n c i us vs w) (hi:i<n) (hB:Below w.heap.size w W) (hBB:B<=w.heap.size) {l:Pl} (hL:L[i]? = some l) {mv pt:Value} (hp:zo W l mv pt) (hn:∀ g,mv.ownBlock=some g\/pt.ownBlock=some g->w.heap.size<=g) :
 ClR B L (some ⟨g,0,none⟩) n c (i+1) us (vs++[(mv,pt)]) ((W.setCell ⟨g,i*2,none⟩ mv).setCell ⟨g,i*2+1,none⟩ pt):=by
 have hoW:Own W 28 2 (.slice (some ⟨g,0,none⟩) n c) n (plC (vs++us.drop i)):=h.own.keep fun g o _ ho=>by rw [hB.block g (zZ ho)];exact ho
 have dV:But (fun b=>(Value.slice (some ⟨g,0,none⟩) n c).ownBlock=some b) W ((W.setCell ⟨g,i*2,none⟩ mv).setCell ⟨g,i*2+1,none⟩ pt):=((But.refl (fun b=>(Value.slice (some ⟨g,0,none⟩) n c).ownBlock=some b) W).setCell (p:=⟨g,i*2,none⟩) (.inl rfl) _).setCell (p:=⟨g,i*2+1,none⟩) (.inl rfl) _
 have eY:=(hoW.put2 (i*2) mv).put2 (i*2+1) pt
 have mY:=h.vl
 refine ⟨h.len,h.ul,by rw [List.length_append,mY];rfl,?_,fun k u l hu hl=>?_,fun k u l' hu hl=>?_,fun k j u u' hkj hu mL g'=>?_,h.row,fun u hu g' hg=>?_⟩
 ·subst mY
  rw [plC_put vs us (mv,pt) (by rw [h.ul];exact hi)] at eY
  exact eY
 ·exact ((h.each k u l hu hl).below hB).offRow hoW dV
 ·rcases Nat.lt_or_ge k vs.length with hk | hk
  ·rw [List.getElem?_append_left hk] at hu
   exact ((h.done k u l' hu hl).below hB).offRow hoW dV
  ·rw [List.getElem?_append_right hk] at hu
   have rq:k-vs.length=0:=by have:=(List.getElem?_eq_some_iff.1 hu).1;simp at this;omega
   rw [rq] at hu
   obtain rfl:=Option.some.inj hu
   obtain rfl:k=i:=by omega
   rw [hL] at hl
   obtain rfl:=Option.some.inj hl
   exact hp.offRow hoW dV
 ·have old:∀ q x,q<vs.length->(vs++[(mv,pt)])[q]? = some x->∀ g',(x.1.ownBlock=some g'\/x.2.ownBlock=some g')->g'<w.heap.size:=fun q x hq hx g' dF=>by
   rw [List.getElem?_append_left hq] at hx
   have hqn:q<L.length:=by rw [h.len];omega
   have hp:=h.done q x _ hx (List.getElem?_eq_getElem hqn)
   exact dF.elim (fun e=>hp.1.lt e) fun e=>hp.2.lt e
  have new:∀ q x,vs.length<=q->(vs++[(mv,pt)])[q]? = some x->q=vs.length/\x=(mv,pt):=fun q x hq hx=>by
   have h2:=(List.getElem?_eq_some_iff.1 hx).1
   rw [List.length_append,List.length_singleton] at h2
   obtain rfl:q=vs.length:=by omega
   rw [List.getElem?_append_right (cC _),Nat.sub_self] at hx
   exact ⟨rfl,(Option.some.inj hx).symm⟩
  rcases Nat.lt_or_ge k vs.length with hk | hk <;> rcases Nat.lt_or_ge j vs.length with hj | hj
  ·rw [List.getElem?_append_left hk] at hu
   rw [List.getElem?_append_left hj] at mL
   exact h.apart k j u u' hkj hu mL g'
  ·obtain ⟨_,rfl⟩:=new j u' hj mL
   refine ⟨fun e e'=>?_,fun e e'=>?_⟩
   ·have h1:=old k u hk hu g' (.inl e);have h2:=hn g' (.inl e');omega
   ·have h1:=old k u hk hu g' (.inr e);have h2:=hn g' (.inr e');omega
  ·obtain ⟨_,rfl⟩:=new k u hk hu
   refine ⟨fun e e'=>?_,fun e e'=>?_⟩
   ·have h1:=old j u' hj mL g' (.inl e');have h2:=hn g' (.inl e);omega
   ·have h1:=old j u' hj mL g' (.inr e');have h2:=hn g' (.inr e);omega
  ·obtain ⟨rfl,_⟩:=new k u hk hu
   obtain ⟨rfl,_⟩:=new j u' hj mL
   exact absurd rfl hkj
 ·rcases List.mem_append.1 hu with hu | hu
  ·exact h.new u hu g' hg
  ·rw [List.mem_singleton] at hu
   subst hu
   have:=hn g' hg;omega
def PlaysQ (o:Option (List Pl)) (w:World) (en:Ending) (w':World):Prop :=
 ∃ a n c us,en=.returned (.tuple #[.slice a n c,.bool o.isSome])/\Below w.heap.size w w'/\NxR w.heap.size (o.getD []) a n c us w'
theorem PlaysQ.none {w w':World} (hb:Below w.heap.size w w'):PlaysQ none w (.returned (.tuple #[.slice .none 0 0,.bool false])) w':=⟨_,_,_,[],rfl,hb,NxR.nil _ _⟩
theorem legPl_lim {t:Ty} (cj:zU t<=15) {v:Pl} (h:zL t v=true):∀ x∈v,Lim x.1.length:=by
 intro x hx
 obtain ⟨i,hi⟩:=List.mem_iff_getElem?.1 hx
 have hl:=(List.getElem?_eq_some_iff.1 hi).1
 obtain ⟨c,p,z,hv,ho⟩:=kg h hl
 rw [hv] at hi
 obtain rfl:=Option.some.inj hi
 obtain ⟨a,ha⟩:=ho.hp
 have:=jk _ _ _ ha
 show (c::p).length<=_
 rw [List.length_cons];omega

theorem NxR.empty (B:Nat) (w:World) (hB:B<=w.heap.size):NxR B [] (some ⟨w.heap.size,0,none⟩) 0 0 [] (w.alloc (.cells #[] 28)):=by
 refine ⟨rfl,⟨Own.lit #[] 0 (by unfold maxLen;omega) rfl,rfl,fun i u x h=>by simp at h,fun i j u u' _ h=>by simp at h⟩,fun g hg=>?_⟩
 rcases hg with hg | ⟨u,hu,_⟩
 ·simp [Value.ownBlock] at hg;omega
 ·simp at hu
theorem NxR.lt {B:Nat} {L:List Pl} {a:Option Addr} {n c:Nat} {us:List (Value×Value)} {w:World} (h:NxR B L a n c us w):∀ g,PlB (.slice a n c) us g->g<w.heap.size:=fun g hg=>h.pls.lt hg
theorem NxR.off {B:Nat} {L:List Pl} {a:Option Addr} {n c:Nat} {us:List (Value×Value)} {w w':World} (h:NxR B L a n c us w) {v:Value} {m:Nat} {xs:List Value} (ho:Own w 28 2 v m xs) (hb:But (fun b=>v.ownBlock=some b) w w') (hn:∀ g,(Value.slice a n c).ownBlock=some g->v.ownBlock≠some g):NxR B L a n c us w' :=
 ⟨h.len,jl.but h.pls hb fun g hg e=>by
  rcases hg with hg | ⟨u,hu,hg⟩
  ·exact hn g hg e
  ·obtain ⟨i,x,h1,h2⟩:=h.pls.mem hu
   obtain ⟨k1,k2⟩:=h.pls.each i u x h1 h2
   rcases hg with hg | hg
   ·exact k1.unlikeG ho yx hg e
   ·exact k2.unlikeG ho wA hg e,h.new⟩
theorem i64_xor_nat (a b:Nat) (ha:a<9223372036854775808) (hb:b<9223372036854775808):bits .xor .i64 (a:Int) (b:Int)=((a ^^^ b:Nat):Int):=by
 have hx:a ^^^ b<2 ^ 63:=Nat.xor_lt_two_pow (by omega) (by omega)
 show IntKind.i64.wrap ((BitVec.ofInt 64 (a:Int) ^^^ BitVec.ofInt 64 (b:Int)).toNat:Int)=_
 rw [BitVec.toNat_xor,ofInt_u64 a (by omega),ofInt_u64 b (by omega)]
 generalize a ^^^ b=x at *
 simp [IntKind.wrap,IntKind.bits,IntKind.signed]
 omega
def kL (w:World) (rd P:Nat):Prop :=
 ∃ (a:Option Addr) (n c p:Nat),w.heap[rd]? = some (.cells #[.slice a n c,.int .i64 (p:Nat)] 61 (0,0))/\p<=P/\n<=2000 /\
   (n=0\/∃ b o,a=some ⟨b,o,none⟩/\b<rd/\∀ k,k<n->∃ x:Nat,x<256/\w.cell? ⟨b,o+k,none⟩=some (.int .u8 x))
theorem kL.lt {w:World} {rd P:Nat} (h:kL w rd P):rd<w.heap.size:=by
 obtain ⟨a,n,c,p,h1,_⟩:=h;exact zZ h1
theorem kL.mono {w:World} {rd P Q:Nat} (h:kL w rd P) (k:P<=Q):kL w rd Q:=by
 obtain ⟨a,n,c,p,h1,h2,h3⟩:=h;exact ⟨a,n,c,p,h1,cR h2 k,h3⟩
theorem kL.below {w w':World} {rd P:Nat} (h:kL w rd P) (hb:Below w.heap.size w w'):kL w' rd P:=by
 obtain ⟨a,n,c,p,h1,h2,h3,h4⟩:=h
 refine ⟨a,n,c,p,(hb.block _ (zZ h1)).trans h1,h2,h3,?_⟩
 rcases h4 with h4 | ⟨b,o,e,hne,hk⟩
 ·exact .inl h4
 ·refine .inr ⟨b,o,e,hne,fun k iD=>?_⟩
  obtain ⟨x,hx,hc⟩:=hk k iD
  exact ⟨x,hx,(hb.cell (cD w _ hc)).trans hc⟩
theorem kL.but {m:Nat->Prop} {w w':World} {rd P:Nat} (h:kL w rd P) (hb:But m w w') (hm:∀ i,i<=rd->¬ m i):kL w' rd P:=by
 obtain ⟨a,n,c,p,h1,h2,h3,h4⟩:=h
 refine ⟨a,n,c,p,(hb.block _ (zZ h1) (hm _ (cC _))).trans h1,h2,h3,?_⟩
 rcases h4 with h4 | ⟨b,o,e,hne,hk⟩
 ·exact .inl h4
 ·refine .inr ⟨b,o,e,hne,fun k iD=>?_⟩
  obtain ⟨x,hx,hc⟩:=hk k iD
  exact ⟨x,hx,(hb.cell (cD w _ hc) (hm _ (Nat.le_of_lt hne))).trans hc⟩
theorem kL.drew {w:World} {rd P:Nat} (h:kL w rd P):kL w.drew rd P:=h
theorem kL.drewN {w:World} {rd P:Nat} (h:kL w rd P) (n:Nat):kL (w.drewN n) rd P:=h
theorem kL.alloc {w:World} {rd P:Nat} (h:kL w rd P) (o:Obj):kL (w.alloc o) rd P:=h.below ((cE _ _).alloc (cC _) _)
theorem below_dN_but {m:Nat->Prop} {a w:World} (h:But m a w) (n:Nat):But m a (w.drewN n):=⟨h.os,h.tape,h.output,h.size,h.block⟩
def Picked (rd P n:Nat) (w:World) (en:Ending) (w':World):Prop :=
 ∃ v:Nat,en=.returned (.int .i64 (v:Nat))/\v<n/\But (· = rd) w w'/\kL w' rd (P+1)
theorem vk {z:Int} {n:Nat} (e:z=(n:Int)) (h:n<9223372036854775808):IntKind.i64.wrap z=(n:Int):=by rw [e];exact qt n h
structure Mix (p m x1 x2 n:Nat) (I A B C J D E G H Q R X Y Z V:Nat):Prop where
 i:(p:Int).tmod (m:Int)=(I:Int)
 a:IntKind.i64.wrap ((x1:Int)*131)=(A:Int)
 b:IntKind.i64.wrap ((p:Int)*7)=(B:Int)
 c:IntKind.i64.wrap ((B:Int)+3)=(C:Int)
 j:(C:Int).tmod (m:Int)=(J:Int)
 d:IntKind.i64.wrap ((x2:Int)*1117)=(D:Int)
 e:IntKind.i64.wrap ((A:Int)+(D:Int))=(E:Int)
 g:IntKind.i64.wrap ((p:Int)*29)=(G:Int)
 h:IntKind.i64.wrap ((E:Int)+(G:Int))=(H:Int)
 q:(p:Int).tdiv (m:Int)=(Q:Int)
 r:IntKind.i64.wrap ((Q:Int)*53)=(R:Int)
 x:IntKind.i64.wrap ((H:Int)+(R:Int))=(X:Int)
 y:(X:Int).tdiv 64=(Y:Int)
 z:bits .xor .i64 (X:Int) (Y:Int)=(Z:Int)
 v:(Z:Int).tmod (n:Int)=(V:Int)
 vn:V<n
 wq:IntKind.i64.wrap (Q:Int)=(Q:Int)
 wy:IntKind.i64.wrap (Y:Int)=(Y:Int)
theorem mix_any (p m x1 x2 n:Nat) (hp:p<=1099511627776) (mP:x1<256) (mV:x2<256) (hn:0<n) :
 ∃ A B D E G H Q R X Y Z V:Nat,Mix p m x1 x2 n (p % m) A B (p*7+3) ((p*7+3) % m) D E G H Q R X Y Z V:=by
 have hq:p / m<=p:=Nat.div_le_self _ _
 have hX:x1*131+x2*1117+p*29+p / m*53<9223372036854775808:=by omega
 have hY:(x1*131+x2*1117+p*29+p / m*53) / 64<9223372036854775808:=by omega
 refine ⟨x1*131,p*7,x2*1117,x1*131+x2*1117,p*29,x1*131+x2*1117+p*29,p / m,p / m*53,x1*131+x2*1117+p*29+p / m*53,(x1*131+x2*1117+p*29+p / m*53) / 64,(x1*131+x2*1117+p*29+p / m*53) ^^^ ((x1*131+x2*1117+p*29+p / m*53) / 64),((x1*131+x2*1117+p*29+p / m*53) ^^^ ((x1*131+x2*1117+p*29+p / m*53) / 64)) % n,?_⟩
 exact ⟨yu _ _,vk (by omega) (by omega),vk (by omega) (by omega),vk (by omega) (by omega),yu _ _,vk (by omega) (by omega),vk (by omega) (by omega),vk (by omega) (by omega),vk (by omega) (by omega),
  ge _ _,vk (by omega) (by omega),vk (by omega) hX,ge _ 64,i64_xor_nat _ _ hX hY,yu _ _,Nat.mod_lt _ hn,qt _ (by omega),qt _ hY⟩
set_option maxRecDepth 100000 in
theorem vW (rd P n:Nat) (w:World) (h:kL w rd P) (hn:0<n) (fQ:n<=16777216) (hP:P<=1099511627776) :
 Calls Tryz.prog 23 #[.pointer (some ⟨rd,0,none⟩),.int .i64 (n:Nat)] w (Picked rd P n w):=by
 obtain ⟨a,m,c,p,h1,hp,hm,hcs⟩:=h
 have hpP:p<=1099511627776:=by omega
 have c0:w.cell? ⟨rd,0,none⟩=some (.slice a m c):=by simp [World.cell?,h1]
 have c1:w.cell? ⟨rd,1,none⟩=some (.int .i64 (p:Nat)):=by simp [World.cell?,h1]
 have f1:w.frozen? ⟨rd,1,none⟩=false:=by simp [World.frozen?,h1]
 have cL:=zZ h1
 obtain ⟨W,hW⟩:=zzN (w.setCell ⟨rd,1,none⟩ (.int .i64 ((p:Int)+1)))
 have dd:W.heap[rd]? = some (.cells #[.slice a m c,.int .i64 ((p+1:Nat):Int)] 61 (0,0)):=by
  have h':w.heap[rd]=.cells #[.slice a m c,.int .i64 (p:Nat)] 61 (0,0):=by simpa [Array.getElem?_eq_getElem cL] using h1
  rw [<- hW]
  show (w.heap.modify rd _)[rd]? = _
  rw [Array.getElem?_eq_getElem (by simpa using cL),Array.getElem_modify_self,h']
  simp
 have dV:But (· = rd) w W:=by rw [<- hW];exact (But.refl (· = rd) _).setCell (p:=⟨rd,1,none⟩) (.inl rfl) _
 have d0:W.cell? ⟨rd,0,none⟩=some (.slice a m c):=by simp [World.cell?,dd]
 have d1:W.cell? ⟨rd,1,none⟩=some (.int .i64 ((p:Int)+1)):=by simp [World.cell?,dd]
 have dT:kL W rd (P+1):=by
  refine ⟨a,m,c,p+1,dd,by omega,hm,?_⟩
  rcases hcs with h4 | ⟨b,o,e,hne,hk⟩
  ·exact .inl h4
  ·refine .inr ⟨b,o,e,hne,fun k iD=>?_⟩
   obtain ⟨x,hx,hc⟩:=hk k iD
   exact ⟨x,hx,(dV.cell (cD w _ hc) (fun e=>Nat.ne_of_lt hne e)).trans hc⟩
 have RD:=cH dT;have BT:=cH dV
 have g0:¬ (n:Int)<1:=by omega
 have gn:((n:Int) == 0)=false:=by rw [beq_eq_false_iff_ne];omega
 have hWb:∀ (b o:Nat) (v:Value),b≠rd->w.cell? ⟨b,o,none⟩=some v->W.cell? ⟨b,o,none⟩=some v:=fun b o v hne hc =>
  (dV.cell (p:=⟨b,o,none⟩) (cD w ⟨b,o,none⟩ hc) (fun e=>hne e)).trans hc
 have WB:=cH hWb;have As:=cH hcs;have HW:=cH hW
 clear dT dV h1 dd hWb hcs hW
 go_enter Tryz.func23,Tryz.ntmps23
 go_upto_region 2 with (fail)
 rw [HW.out]
 clear c0 c1 f1
 rcases As.out with h0 | ⟨b,o,e,hne,hk⟩
 ·subst h0
  go_wp2_with fail
  go_ret
  exact ⟨0,rfl,hn,BT.out,RD.out⟩
 ·subst e
  have HK:=cH hk;clear hk
  by_cases hm0:m=0
  ·subst hm0
   go_wp2_with fail
   go_ret
   exact ⟨0,rfl,hn,BT.out,RD.out⟩
  have gm:((m:Int) == 0)=false:=by rw [beq_eq_false_iff_ne];omega
  by_cases hpm:p<m
  ·obtain ⟨x,hx,hc⟩:=HK.out p hpm
   have e1:=WB.out _ _ _ (Nat.ne_of_lt hne) hc
   have hpm':(p:Int)<(m:Int):=by omega
   have et:(x:Int).tmod (n:Int)=((x % n:Nat):Int):=yu _ _
   have hv:x % n<n:=Nat.mod_lt _ hn
   have HV:=cH hv;clear hv hc
   go_wp2_with fail
   go_ret
   exact ⟨x % n,rfl,HV.out,BT.out,RD.out⟩
  ·have hpm':¬ (p:Int)<(m:Int):=by omega
   obtain ⟨x1,mP,nO⟩:=HK.out (p % m) (Nat.mod_lt _ (by omega))
   obtain ⟨x2,mV,fV⟩:=HK.out ((p*7+3) % m) (Nat.mod_lt _ (by omega))
   have e1:=WB.out _ _ _ (Nat.ne_of_lt hne) nO
   have e2:=WB.out _ _ _ (Nat.ne_of_lt hne) fV
   obtain ⟨A,B,D,E,G,H,Q,R,X,Y,Z,V,M⟩:=mix_any p m x1 x2 n hpP mP mV hn
   have hI:p % m<m:=Nat.mod_lt _ (by omega)
   have hJ:(p*7+3) % m<m:=Nat.mod_lt _ (by omega)
   generalize p % m=I at *
   generalize (p*7+3) % m=J at *
   generalize p*7+3=C at *
   have hI':(I:Int)<(m:Int):=by omega
   have hJ':(J:Int)<(m:Int):=by omega
   have q1:=M.i;have q2:=M.a;have q3:=M.b;have q4:=M.c;have q5:=M.j;have q6:=M.d;have q7:=M.e;have q8:=M.g;have q9:=M.h
   have q10:=M.q;have q11:=M.r;have q12:=M.x;have q13:=M.y;have q14:=M.z;have q15:=M.v;have q16:=M.wq;have q17:=M.wy
   have MV:=cH M.vn
   clear nO fV M
   go_wp2_with fail
   go_quiet (fail)
   go_wp2_with fail
   go_ret
   exact ⟨V,rfl,MV.out,below_dN_but BT.out _,RD.out.drewN _⟩
def yI (w:World) (rd:Nat) (l:Value) (xs:List Bs):Prop :=
 ∃ b o c,l=.slice (some ⟨b,o,none⟩) xs.length c/\b≠rd/\∀ (k:Nat) (s:Bs),xs[k]? = some s->w.cell? ⟨b,o+k,none⟩=some (str s)
theorem yI.new {w:World} {rd:Nat} (dT:rd<w.heap.size) (xs:List Bs) (n:Nat) (hn:n=xs.length) (e:TypeId):yI (w.alloc (.cells (xs.map str).toArray e)) rd (.slice (some ⟨w.heap.size,0,none⟩) n n) xs:=by
 subst hn
 refine ⟨w.heap.size,0,_,rfl,by omega,fun k s hs=>?_⟩
 rw [Nat.zero_add]
 simp only [World.cell?,zT]
 simp [hs]
def Took (rd P:Nat) (xs:List Bs) (w:World) (en:Ending) (w':World):Prop :=
 ∃ s∈xs,en=.returned (str s)/\But (· = rd) w w'/\kL w' rd P
theorem pG (rd P:Nat) (l:Value) (xs:List Bs) (w:World) (h:kL w rd P) (hl:yI w rd l xs) (hx:0<xs.length) (mV:xs.length<=16777216) (hP:P<=1099511627776) :
 Calls Tryz.prog 25 #[.pointer (some ⟨rd,0,none⟩),l] w (Took rd (P+1) xs w):=by
 obtain ⟨b,o,c,rfl,hne,hk⟩:=hl
 have HK:=cH hk;clear hk
 go_enter Tryz.func25,Tryz.ntmps25
 go_wp2_with fail
 refine (vW rd P xs.length w h hx mV hP).mono ?_
 rintro en w1 ⟨v,rfl,hv,hb,hr⟩
 obtain ⟨s,hs⟩:∃ s,xs[v]? = some s:=⟨xs[v],by simp [hv]⟩
 have hc:=HK.out v s hs
 have nO:w1.cell? ⟨b,o+v,none⟩=some (str s):=(hb.cell (p:=⟨b,o+v,none⟩) (cD w ⟨b,o+v,none⟩ hc) (fun e=>hne e)).trans hc
 have dg:(v:Int)<(xs.length:Int):=by omega
 have HM:=cH (List.mem_of_getElem? hs)
 clear hs hc
 go_wp2_with fail
 go_ret
 exact ⟨s,HM.out,rfl,hb,hr⟩
def jU:List Bs:=[[98],[40,62,32,98,32,98,41],[40,62,32,98,32,40,62,32,98,32,98,41,41],[40,62,32,40,62,32,98,32,98,41,32,98,41],[40,62,32,40,62,32,98,32,98,41,32,40,62,32,98,32,98,41,41],[40,62,32,40,62,32,40,62,32,98,32,98,41,32,98,41,32,98,41],[40,62,32,40,62,32,98,32,40,62,32,98,32,98,41,41,32,98,41],[40,62,32,98,32,40,62,32,40,62,32,98,32,98,41,32,98,41,41]]
def yr:List Bs:=[[],[99],[40,62,32,98,41],[40,62,32,32,98,32,98,41],[40,62,32,98,32,98,32,98,41],[98,32],[40,62,32,40,62,32,40,62,32,40,62,32,98,32,98,41,32,40,62,32,98,32,98,41,41,32,40,62,32,98,32,98,41,41,32,40,62,32,98,32,40,62,32,98,32,98,41,41,41]]
def xK:List Bs:=[[],[120],[40,48,32,116,41],[40,57,32,116,32,102,41],[40,48,32,32,116,32,102,41],[40,48,48,32,116,32,102,41],[117,32],[40,48,32,116,32,102,32,116,32,102,41]]
def kt:List Bs:=[[116],[102],[116],[102],[117]]
set_option maxRecDepth 100000 in
theorem p9 (rd P:Nat) (w:World) (h:kL w rd P) (hP:P<=1099511627776) :
 Calls Tryz.prog 22 #[.pointer (some ⟨rd,0,none⟩)] w (Took rd (P+1) jU w):=by
 have cL:=h.lt
 go_enter Tryz.func22,Tryz.ntmps22
 go_wp2_with fail
 refine (pG rd P _ jU _ (h.alloc _) (yI.new cL jU 8 rfl _) (by decide) (by decide) hP).mono ?_
 rintro en w1 ⟨s,hs,rfl,hb,hr⟩
 have HM:=cH hs;clear hs
 go_wp2_with fail
 go_ret
 exact ⟨s,HM.out,rfl,((But.refl _ w).alloc _).trans hb,hr⟩
set_option maxRecDepth 100000 in
theorem l91Odd_any (rd P:Nat) (w:World) (h:kL w rd P) (hP:P+1<=1099511627776) :
 Calls Tryz.prog 24 #[.pointer (some ⟨rd,0,none⟩)] w (Took rd (P+2) (jU++yr) w):=by
 go_enter Tryz.func24,Tryz.ntmps24
 go_wp2_with fail
 refine (vW rd P 12 w h (by omega) (by omega) (by omega)).mono ?_
 rintro en w1 ⟨v,rfl,hv,cT,dH⟩
 have cL:=dH.lt
 by_cases io:v=0
 ·subst io
  go_wp2_with fail
  refine (pG rd (P+1) _ yr _ (dH.alloc _) (yI.new cL yr 7 rfl _) (by decide) (by decide) hP).mono ?_
  rintro en w2 ⟨s,hs,rfl,hb,hr⟩
  have HM:=cH hs;clear hs
  go_wp2_with fail
  go_ret
  exact ⟨s,List.mem_append_right _ HM.out,rfl,(cT.alloc _).trans hb,hr⟩
 ·have m8:((v:Int) == 0)=false:=by rw [beq_eq_false_iff_ne];omega
  go_wp2_with fail
  refine (p9 rd (P+1) w1 dH hP).mono ?_
  rintro en w2 ⟨s,hs,rfl,hb,hr⟩
  have HM:=cH hs;clear hs
  go_wp2_with fail
  go_ret
  exact ⟨s,List.mem_append_left _ HM.out,rfl,cT.trans hb,hr⟩
end Go.Proofs.YtdhaafoiokkbnaaGreatDoor

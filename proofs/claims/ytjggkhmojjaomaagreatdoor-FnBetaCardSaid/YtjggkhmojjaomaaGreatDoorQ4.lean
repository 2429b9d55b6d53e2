/- Walks of functions that the statement reaches, and plain words. No conditions. -/
import Derived.Test.YtjggkhmojjaomaaGreatDoorQ2
set_option linter.unusedVariables false
set_option linter.unusedSimpArgs false
set_option maxHeartbeats 2000000
namespace Go.Proofs.YtjggkhmojjaomaaGreatDoor
open Go.RowKit
mutual
def kg:Ty->DV
 | .mk ts=>.sl 43 1 ts.length (qH ts)
def qH:List Ty->List DV
 | []=>[]
 | t::ts=>kg t::qH ts
end
def vg (L:Nat) (w:World) (o:Option (Ty×Bs)) (en:Ending) (w':World):Prop :=
 ∃ (v:Value) (k:Int) (t:Ty),en=.returned (.tuple #[.agg #[v],.int .i64 k])/\Below w.heap.size w w'/\Rep (w.heap.size<=·) w' (kg t) v/\(o=none->k = -1/\t=.mk [])/\(∀ t' rest,o=some (t',rest)->k=(L:Int)-rest.length/\t=t')
theorem Tryz.infoS:(Tryz.prog.info? 43).map (fun i=>(i.zero,i.size,i.bytes))=some (some (.agg #[.slice none 0 0]),1,24):=by kernel_rfl
theorem vx (ts:List Ty):∀ k:Nat,(qH ts)[k]? = ts[k]?.map kg:=by
 induction ts with
 | nil=>intro k;simp [qH]
 | cons t ts ih=>intro k;cases k <;> simp [qH,ih]
theorem bi (a b:List Ty):qH (a++b)=qH a++qH b:=by
 induction a with
 | nil=>rfl
 | cons t ts ih=>simp [qH,ih]
theorem qy (t:Ty):kg t=.sl 43 1 t.args.length (qH t.args):=by cases t;rw [kg];rfl
theorem kJ {F:Nat->Prop} {w:World} {t:Ty} {v:Value} (h:Rep F w (kg t) v):∃ a c,v=.slice a t.args.length c:=by
 rw [qy] at h;obtain ⟨a,c,e,_⟩:=zP h;exact ⟨a,c,e⟩
theorem v_ {F:Nat->Prop} {w:World} (ts:List Ty):∀ us,zX F w (qH ts) us->∀ u∈us,u.oneCell'=true:=by
 induction ts with
 | nil=>intro us h;rw [qH,zC] at h;subst h;simp
 | cons t ts ih =>
   intro us h u hu
   rw [qH,zQ] at h
   obtain ⟨v,vs',rfl,h1,h2⟩:=h
   rcases List.mem_cons.1 hu with rfl | hu
   ·obtain ⟨a,c,rfl⟩:=kJ h1;rfl
   ·exact ih _ h2 u hu
theorem cj (F:Nat->Prop) (w:World):Rep F w (kg (.mk [])) (.slice none 0 0):=by
 rw [qy];exact zp.2 ⟨rfl,none,0,rfl,fP _,fun _=>rfl,.inl rfl⟩
theorem vg.no {L:Nat} {w w':World} {o:Option (Ty×Bs)} (ho:o=none) (hb:Below w.heap.size w w') :
 vg L w o (.returned (.tuple #[.agg #[.slice none 0 0],.int .i64 (-1)])) w' :=
 ⟨_,_,.mk [],rfl,hb,cj _ _,fun _=>⟨rfl,rfl⟩,fun _ _ h=>by rw [ho] at h;simp at h⟩
theorem vg.yes {L:Nat} {w w':World} {o:Option (Ty×Bs)} {t:Ty} {rest:Bs} {v:Value} {k:Int} (ho:o=some (t,rest)) (hk:k=(L:Int)-rest.length) (hb:Below w.heap.size w w') (hv:Rep (w.heap.size<=·) w' (kg t) v) :
 vg L w o (.returned (.tuple #[.agg #[v],.int .i64 k])) w' :=
 ⟨_,_,t,rfl,hb,hv,fun h=>by rw [ho] at h;simp at h,fun _ _ h=>by rw [ho] at h;simp at h;obtain ⟨rfl,rfl⟩:=h;exact ⟨hk,rfl⟩⟩
def fQ (l:Bs) (d:Nat):Prop:=∀ (i:Nat) (w:World),i<=l.length->d<=21 ->
    Calls Tryz.prog 65 #[str l,.int .i64 i,.int .i64 d] w (vg l.length w (rdS (21-d) (l.drop i)))
theorem dH (l:Bs) (hl:Lim l.length) (d:Nat) (ih:d<=20->fQ l (d+1)):fQ l d:=by
 intro i w hi hd
 have tR:=hl.le
 have IH:=fX ih;clear ih
 by_cases D5:d<=20
 rotate_left
 ·have h0:Hid (21-d=0):=by show 21-d=0;omega
  go_enter Tryz.func65,Tryz.ntmps65
  go_wp2_with fail
  refine bodyPost_ret (v:=.tuple #[.agg #[.slice none 0 0],.int .i64 (-1)]) (by simp [results,Tryz.results65,go_sem]) rfl ?_
  exact vg.no (by rw [h0.out];rfl) ((fH _ _).alloc (fP _) _)
 obtain ⟨n,hn⟩:∃ n,21-d=n+1:=⟨20-d,by omega⟩
 have IH':=fX (IH.out D5);clear IH
 have HN:=fX hn
 have HN':Hid (21-(d+1)=n):=by show 21-(d+1)=n;omega
 clear hn
 by_cases fT:i<l.length
 rotate_left
 ·go_enter Tryz.func65,Tryz.ntmps65
  go_wp2_with fail
  refine bodyPost_ret (v:=.tuple #[.agg #[.slice none 0 0],.int .i64 (-1)]) (by simp [results,Tryz.results65,go_sem]) rfl ?_
  exact vg.no (by rw [HN.out,rdS_no (p9 (by omega)),p9 (by omega)];rfl) ((fH _ _).alloc (fP _) _)
 by_cases hb:l[i]=98
 ·have f1:=xU fT (n:=98) (by decide) hb
  have hc:Cut [98] (l.drop i) (l.drop (i+1)):=by unfold Cut;rw [yK fT,if_pos hb]
  clear hb
  go_enter Tryz.func65,Tryz.ntmps65
  go_wp2_with fail
  refine bodyPost_ret (v:=.tuple #[.agg #[.slice none 0 0],.int .i64 ((i:Int)+1)]) (by simp [results,Tryz.results65,go_sem]) rfl ?_
  exact vg.yes (t:=.mk []) (by rw [HN.out,rdS_b hc]) (by simp;omega) ((fH _ _).alloc (fP _) _) (cj _ _)
 have f1:=vd fT (n:=98) (by decide) hb
 have hc:pA [98] (l.drop i):=by unfold pA;rw [yK fT,if_neg hb]
 have HM:=fX (rdS_no (n:=n) hc)
 clear hb hc
 by_cases h3:i+3<=l.length
 rotate_left
 ·have h3':(l.length:Int)<(i:Int)+3:=by omega
  have rx:Hid (cut [40,62,32] (l.drop i)=none):=by
   show cut [40,62,32] (l.drop i)=none
   cases hq:cut [40,62,32] (l.drop i) with
   | none=>rfl
   | some r=>have:=(cut_drop hq).2;simp at this;omega
  go_enter Tryz.func65,Tryz.ntmps65
  go_wp2_with fail
  refine bodyPost_ret (v:=.tuple #[.agg #[.slice none 0 0],.int .i64 (-1)]) (by simp [results,Tryz.results65,go_sem]) rfl ?_
  exact vg.no (by rw [HN.out,HM.out,rx.out];rfl) ((fH _ _).alloc (fP _) _)
 have h3':(i:Int)+3<=(l.length:Int):=by omega
 have hx:(l.take (i+3)).drop i=(l.drop i).take 3:=by rw [List.drop_take];congr 1;omega
 rcases qP [40,62,32] (l.drop i) with h4 | ⟨r1,h4⟩
 ·have f2:(((⟨l.toArray⟩:ByteArray).extract i (i+3)).toList == [40,62,32])=false:=by
   rw [ext_list,hx,beq_eq_false_iff_ne]
   intro e
   have h5:=h4.out
   have hp:[40,62,32].isPrefixOf (l.drop i)=true:=by rw [List.isPrefixOf_iff_prefix,<- e];exact List.take_prefix _ _
   unfold cut at h5;rw [if_pos hp] at h5;simp at h5
  clear hx
  go_enter Tryz.func65,Tryz.ntmps65
  go_wp2_with fail
  refine bodyPost_ret (v:=.tuple #[.agg #[.slice none 0 0],.int .i64 (-1)]) (by simp [results,Tryz.results65,go_sem]) rfl ?_
  exact vg.no (by rw [HN.out,HM.out,h4.out];rfl) ((fH _ _).alloc (fP _) _)
 have f2:(((⟨l.toArray⟩:ByteArray).extract i (i+3)).toList == [40,62,32])=true:=by
  rw [ext_list,hx,beq_iff_eq]
  have h5:=h4.out
  unfold cut at h5;split at h5
  ·rename_i hp
   exact (List.prefix_iff_eq_take.1 (List.isPrefixOf_iff_prefix.1 hp)).symm
  ·simp at h5
 have nZ:=(cut_drop h4.out).1
 have DT:r1=l.drop (i+3):=nZ
 subst DT
 clear hx nZ
 go_enter Tryz.func65,Tryz.ntmps65
 go_wp2_with fail
 rw [show (i:Int)+3=((i+3:Nat):Int) from by omega,show (d:Int)+1=((d+1:Nat):Int) from by omega]
 refine (IH'.out (i+3) _ h3 (by omega)).mono ?_
 rintro en w1 ⟨v1,k1,t1,rfl,fA,tM,mH,mX⟩
 rw [HN'.out] at mH mX
 have rU:Below w.heap.size w w1:=((fH w.heap.size w).alloc (fP _) _).trans (fA.mono (by simp))
 have z1:=fA.size
 have iZ:w.heap.size<w1.heap.size:=by simp at z1;omega
 have nT:w1.cell? ⟨w.heap.size,0,none⟩=some (.slice none 0 0):=by rw [fA.cell (by simp)];simp
 have aC:w1.frozen? ⟨w.heap.size,0,none⟩=false:=by rw [fA.frozen (by simp)];simp
 obtain ⟨a1,c1,e1⟩:=kJ tM
 subst e1
 cases hq:rdS n (l.drop (i+3)) with
 | none =>
   obtain ⟨rfl,rfl⟩:=mH hq
   have HQ:=fX hq;clear hq mH mX
   go_wp2_with fail
   refine bodyPost_ret (v:=.tuple #[.agg #[.slice none 0 0],.int .i64 (-1)]) (by simp [results,Tryz.results65,go_sem,iZ,jl nT]) rfl ?_
   exact vg.no (by rw [HN.out,HM.out,h4.out];simp [HQ.out]) (by repeat (first | exact rU | refine Below.alloc ?_ (by simp;omega) _ | refine Below.setCell ?_ (by simp) _ | refine Below.drew ?_))
 | some x =>
   obtain ⟨ta,r2⟩:=x
   obtain ⟨rfl,rfl⟩:=mX _ _ hq
   have i5:=yY (eJ hq)
   have nC:=(rdS_le hq).1
   have HQ:=fX hq;clear hq mH mX
   obtain ⟨e,he⟩:=zzM (l.length-r2.length)
   have iY:e<=l.length:=by omega
   have hr2l:r2.length<=l.length:=by simp at nC;omega
   have hk:(l.length:Int)-(r2.length:Int)=(e:Int):=by omega
   rw [<- he] at i5
   rw [hk]
   have HSF:=fX i5
   clear hk i5 nC
   by_cases JU:e<l.length
   rotate_left
   ·have Aq:Hid (cut [32] r2=none):=by show cut [32] r2=none;rw [HSF.out];exact p9 (by omega)
    have HE:=fX he;clear he
    go_wp2_with fail
    refine bodyPost_ret (v:=.tuple #[.agg #[.slice none 0 0],.int .i64 (-1)]) (by simp [results,Tryz.results65,go_sem,iZ,jl nT]) rfl ?_
    exact vg.no (by rw [HN.out,HM.out,h4.out];simp [HQ.out,Aq.out]) (by repeat (first | exact rU | refine Below.alloc ?_ (by simp;omega) _ | refine Below.setCell ?_ (by simp) _ | refine Below.drew ?_))
   have HE:=fX he;clear he
   by_cases fe:l[e]=32
   rotate_left
   ·have f5:=jo JU (n:=32) (by decide) fe
    have Aq:Hid (cut [32] r2=none):=by show cut [32] r2=none;rw [HSF.out,yK JU,if_neg fe]
    clear fe
    go_wp2_with fail
    refine bodyPost_ret (v:=.tuple #[.agg #[.slice none 0 0],.int .i64 (-1)]) (by simp [results,Tryz.results65,go_sem,iZ,jl nT]) rfl ?_
    exact vg.no (by rw [HN.out,HM.out,h4.out];simp [HQ.out,Aq.out]) (by repeat (first | exact rU | refine Below.alloc ?_ (by simp;omega) _ | refine Below.setCell ?_ (by simp) _ | refine Below.drew ?_))
   have f5:=vR JU (n:=32) (by decide) fe
   have g1:decide ((e:Int)<0)=false:=by rw [decide_eq_false_iff_not];omega
   have g2:decide (l.length<=e)=false:=by rw [decide_eq_false_iff_not];omega
   have Aq:Hid (cut [32] r2=some (l.drop (e+1))):=by show cut [32] r2=_;rw [HSF.out,yK JU,if_pos fe]
   clear fe
   go_wp2_with fail
   rw [show (e:Int)+1=((e+1:Nat):Int) from by omega,show (d:Int)+1=((d+1:Nat):Int) from by omega]
   refine (IH'.out (e+1) _ JU (by omega)).mono ?_
   rintro en w2 ⟨v2,k2,t2,rfl,fN,G4,sN,tp⟩
   rw [HN'.out] at sN tp
   obtain ⟨a2,c2,e2⟩:=kJ G4
   subst e2
   have z2:=fN.size
   rw [zK] at z2
   have DD:Below w.heap.size w w2:=(rU.alloc rU.size _).trans (fN.mono (by rw [zK];omega))
   have nF:w.heap.size<w2.heap.size:=by omega
   have tE:w1.heap.size<w2.heap.size:=by omega
   have sf:w2.cell? ⟨w.heap.size,0,none⟩=some (.slice none 0 0):=by rw [fN.cell (by simp;omega)];exact zJ nT
   have Ch:w2.frozen? ⟨w.heap.size,0,none⟩=false:=by rw [fN.frozen (by simp;omega)];rw [World.frozen?_of_block (w:=w1) (Below.heap_alloc _ _ _ iZ)];exact aC
   have hcellA:w2.cell? ⟨w1.heap.size,0,none⟩=some (.slice a1 t1.args.length c1):=by rw [fN.cell (by simp)];simp
   have AE:Rep (w1.heap.size<=·) w2 (kg t1) (.slice a1 t1.args.length c1)\/True:=.inr trivial
   clear AE nT aC
   cases hq:rdS n (l.drop (e+1)) with
   | none =>
     obtain ⟨rfl,rfl⟩:=sN hq
     have KZ:=fX hq;clear hq sN tp
     go_wp2_with fail
     refine bodyPost_ret (v:=.tuple #[.agg #[.slice none 0 0],.int .i64 (-1)]) (by simp [results,Tryz.results65,go_sem,nF,jl sf]) rfl ?_
     exact vg.no (by rw [HN.out,HM.out,h4.out];simp [HQ.out,Aq.out,KZ.out]) (by repeat (first | exact DD | refine Below.alloc ?_ (by simp;omega) _ | refine Below.setCell ?_ (by simp) _ | refine Below.drew ?_))
   | some x =>
     obtain ⟨tb,r4⟩:=x
     obtain ⟨rfl,rfl⟩:=tp _ _ hq
     have i5:=yY (eJ hq)
     have AJ:=rdS_le hq
     have KZ:=fX hq;clear hq sN tp
     obtain ⟨e2,he⟩:=zzM (l.length-r4.length)
     have iY:e2<=l.length:=by omega
     have hr2l:r4.length<=l.length:=by simp at AJ;omega
     have hk:(l.length:Int)-(r4.length:Int)=(e2:Int):=by omega
     have ED:t2.args.length<=16777216:=by simp at AJ;omega
     rw [<- he] at i5
     rw [hk]
     have GN:=fX i5
     clear hk i5 AJ
     have A_:=fX he;clear he
     by_cases D4:e2<l.length
     rotate_left
     ·have Ap:Hid (cut [41] r4=none):=by show cut [41] r4=none;rw [GN.out];exact p9 (by omega)
      go_wp2_with fail
      refine bodyPost_ret (v:=.tuple #[.agg #[.slice none 0 0],.int .i64 (-1)]) (by simp [results,Tryz.results65,go_sem,nF,jl sf]) rfl ?_
      exact vg.no (by rw [HN.out,HM.out,h4.out];simp [HQ.out,Aq.out,KZ.out,Ap.out]) (by repeat (first | exact DD | refine Below.alloc ?_ (by simp;omega) _ | refine Below.setCell ?_ (by simp) _ | refine Below.drew ?_))
     by_cases fO:l[e2]=41
     rotate_left
     ·have f6:=jo D4 (n:=41) (by decide) fO
      have Ap:Hid (cut [41] r4=none):=by show cut [41] r4=none;rw [GN.out,yK D4,if_neg fO]
      clear fO
      go_wp2_with fail
      refine bodyPost_ret (v:=.tuple #[.agg #[.slice none 0 0],.int .i64 (-1)]) (by simp [results,Tryz.results65,go_sem,nF,jl sf]) rfl ?_
      exact vg.no (by rw [HN.out,HM.out,h4.out];simp [HQ.out,Aq.out,KZ.out,Ap.out]) (by repeat (first | exact DD | refine Below.alloc ?_ (by simp;omega) _ | refine Below.setCell ?_ (by simp) _ | refine Below.drew ?_))
     have f6:=vR D4 (n:=41) (by decide) fO
     have g3:decide ((e2:Int)<0)=false:=by rw [decide_eq_false_iff_not];omega
     have g4:decide (l.length<=e2)=false:=by rw [decide_eq_false_iff_not];omega
     have Ap:Hid (cut [41] r4=some (l.drop (e2+1))):=by show cut [41] r4=_;rw [GN.out,yK D4,if_pos fO]
     clear fO
     rw [qy] at G4
     obtain ⟨xs,il,mu⟩:=zq.ofRep G4 (v_ _)
     go_wp2_with (at_builtin;refine zE rfl _ _ 41 rfl 43 (.agg #[.slice none 0 0]) 1 24 Tryz.underlying41 Tryz.infoS rfl (by decide) _ 1 [.slice a1 t1.args.length c1] rfl ?c1 _ t2.args.length xs rfl ?c2 ?c3 ?c4 ?_)
     case c1=>exact Own.litAt #[.slice a1 t1.args.length c1] 1 _ (by simp) (by decide) rfl
     case c2=>exact mu.keep fun _ _ h=>zJ (zJ h)
     case c3=>unfold maxLen;omega
     case c4=>omega
     intro a' c' w3 ho fv Hi
     have fq:Below w2.heap.size w2 ((w2.alloc (.cells #[.slice a2 t2.args.length c2] 43)).alloc (.cells #[.slice a1 t1.args.length c1] 43)):=((fH _ _).alloc (fP _) _).alloc (by simp) _
     have tL:Below w2.heap.size w2 w3:=fq.trans (fv.toBelow (by simp;omega) (fun i hi e=>by simp [Value.ownBlock] at e;omega))
     have hbC:Below w.heap.size w w3:=DD.trans (tL.mono (by omega))
     have Gj:w3.cell? ⟨w.heap.size,0,none⟩=some (.slice none 0 0):=by rw [tL.cell nF];exact sf
     have hfree3:w3.frozen? ⟨w.heap.size,0,none⟩=false:=by rw [tL.frozen nF];exact Ch
     have hv1W:Rep (w.heap.size<=·) w3 (kg t1) (.slice a1 t1.args.length c1):=by
      refine (Rep.keep fun b o h ho=>⟨by have:=ye h;omega,?_⟩).1 _ _ tM
      rw [tL.block b (by have:=zZ ho;omega),fN.block b (by have:=zZ ho;simp;omega)]
      exact zY ho
     have hxsW:zX (w.heap.size<=·) w3 (qH t2.args) xs :=
      (Rep.keep fun b o h ho=>⟨by have:=ye h;omega,by rw [tL.block b (zZ ho)];exact ho⟩).2 _ _ il
     have fi:∀ g,(Value.slice a' (1+t2.args.length) c').ownBlock=some g->w.heap.size<=g:=by
      intro g h
      rcases Hi g h with h | h
      ·simp [Value.ownBlock] at h;omega
      ·have:=tL.size;omega
     have HG:=fX fi;have HG3:=fX Hi;clear Hi fi
     go_wp2_with fail
     refine bodyPost_ret (v:=.tuple #[.agg #[.slice a' (1+t2.args.length) c'],.int .i64 ((e2:Int)+1)]) (by simp [results,Tryz.results65,go_sem,jl Gj]) rfl ?_
     refine vg.yes (t:=zd t1 t2) (rest:=l.drop (e2+1)) (by rw [HN.out,HM.out,h4.out];simp [HQ.out,Aq.out,KZ.out,Ap.out]) (by simp;omega) (hbC.setCell (fP _) _) ?_
     refine (Rep.keep (w:=w3) (F:=fun b=>w.heap.size<=b/\b≠w.heap.size) fun b o h ho=>⟨h.1,?_⟩).1 _ _ ?_
     ·rw [fB _ _ _ _ (by simpa using h.2)];exact ho
     rw [qy,show (zd t1 t2).args.length=1+t2.args.length from by simp [zd,Ty.args,Nat.add_comm]]
     refine ho.rep (fun g h=>⟨HG.out g h,?_⟩) ?_
     ·rcases HG3.out g h with h | h
      ·simp [Value.ownBlock] at h;omega
      ·have:=tL.size;omega
     ·show zX _ _ (kg t1::qH t2.args) _
      refine zQ.2 ⟨_,_,rfl,?_,?_⟩
      ·refine (Rep.keep fun b o h ho=>⟨⟨by have:=ye h;omega,by have:=ye h;omega⟩,?_⟩).1 _ _ tM
       rw [tL.block b (by have:=zZ ho;omega),fN.block b (by have:=zZ ho;simp;omega)]
       exact zY ho
      ·exact (Rep.keep fun b o h ho=>⟨⟨by have:=ye h;omega,by have:=ye h;omega⟩,by rw [tL.block b (zZ ho)];exact ho⟩).2 _ _ il
theorem l1Read_any (l:Bs) (hl:Lim l.length) (n:Nat):∀ d,21-d=n->fQ l d:=by
 induction n with
 | zero=>exact fun d h=>dH l hl d (fun h'=>by omega)
 | succ n ih=>exact fun d h=>dH l hl d (fun h'=>ih (d+1) (by omega))
def co (t:Ty):Prop:=∀ (F:Nat->Prop) (w:World) (v:Value),Rep F w (kg t) v ->
 Calls Tryz.prog 64 #[.agg #[v]] w fun en w'=>en=.returned (.int .i64 (zV t))/\Below w.heap.size w w'
theorem qV (ts:List Ty):ts.length<=za ts:=by
 induction ts with
 | nil=>simp
 | cons t ts ih=>simp [za];omega
theorem l1Size_step (t:Ty) (hl:Lim (zV t)) (ih:∀ t',zV t'<zV t->co t'):co t:=by
 intro F w v hv
 obtain ⟨a,cap,e⟩:=kJ hv
 subst e
 have hv':=hv
 rw [qy] at hv'
 obtain ⟨_,_,e,_,hlen,fM⟩:=zP hv'
 simp only [Value.slice.injEq] at e
 obtain ⟨rfl,_,rfl⟩:=e
 have IH:=fX ih;clear ih
 have tR:=hl.le
 have E1:=fX (qg t)
 have hlb:t.args.length<=16777216:=by have:=qV t.args;have:=E1.out;omega
 have AT:=fX fM;clear fM hlen hv'
 go_enter Tryz.func64,Tryz.ntmps64
 go_wp2_with fail
 go_loopw [3,4] (fun n i wr=>∃ k:Nat,k<=t.args.length/\i=.int .i64 k/\n=.int .i64 ((1+za (t.args.take k):Nat):Int)/\Below w.heap.size w wr/\wr.cell? ⟨w.heap.size,0,none⟩=some (.slice a t.args.length cap)) (fun _ i _=>t.args.length-(intOf i).toNat)
 case atStart=>exact ⟨0,Nat.zero_le _,rfl,by simp [za],(fH _ _).alloc (fP _) _,by simp⟩
 case round =>
  rename_i wr
  obtain ⟨k,hk,rfl,rfl,hb,hc⟩:=hrel
  by_cases fT:k<t.args.length
  ·obtain ⟨b',o,u,d,rfl,_,fx,hd,hu,hr⟩:=AT.out k fT
   rw [vx,Option.map_eq_some_iff] at hd
   obtain ⟨t',rV,rfl⟩:=hd
   obtain ⟨ua,uc,rfl⟩:=kJ hr
   have hu':wr.cell? ⟨b',o+k,none⟩=some (.slice ua t'.args.length uc):=by rw [hb.cell fx];exact hu
   have sZ:=Rep.below (F':=F) hb (fun _ h=>h) hr
   have hs:=yu rV
   have mO:=uU t.args (k+1)
   have sW:=E1.out
   have IH':=fX (IH.out t' (by omega))
   have HS:=fX hs
   have b1:1+za (t.args.take k)+(1+zV t')<=16777216:=by omega
   have hz:=fG wr _ hc
   clear hs rV sW hu hr
   go_wp2_with fail
   refine (IH'.out _ _ _ sZ).mono ?_
   rintro en w2 ⟨rfl,fN⟩
   have fv:=zzT hb fN
   have rx:w2.cell? ⟨w.heap.size,0,none⟩=some (.slice (some ⟨b',o,none⟩) t.args.length cap):=by rw [fN.cell hz];exact hc
   go_wp2_with fail
   go_roundw
   case rel=>exact ⟨k+1,by omega,by go_num,by rw [HS.out] <;> go_num,fv,rx⟩
   case measure=>simp [intOf];omega
  ·obtain rfl:k=t.args.length:=by omega
   go_wp2_with fail
   go_ret
   exact ⟨yz (by rw [E1.out,List.take_length]),hb⟩
theorem eC (n:Nat):∀ t,zV t<=n->Lim n->co t:=by
 induction n with
 | zero=>intro t h _;have:=kh t;omega
 | succ n ih=>exact fun t h hn=>l1Size_step t (hn.mono h) (fun t' h'=>ih t' (by omega) (hn.mono (by omega)))
def zI (l:Bs):Ty×Bool :=
 if 100<l.length then (.mk [],false) else
 match rdS 21 l with
 | none=>(.mk [],false)
 | some (t,rest)=>(t,rest.isEmpty && decide (zV t<=15))
def TypePost (l:Bs) (w:World) (en:Ending) (w':World):Prop :=
 ∃ v,en=.returned (.tuple #[.agg #[v],.bool (zI l).2])/\Below w.heap.size w w'/\Rep (w.heap.size<=·) w' (kg (zI l).1) v
set_option maxRecDepth 100000 in
theorem xK (l:Bs) (hl:Lim l.length) (w:World):Calls Tryz.prog 38 #[str l] w (TypePost l w):=by
 have tR:=hl.le
 by_cases ie:100<l.length
 ·have Ky:(100:Int)<(l.length:Int):=by omega
  have HM:zI l=(.mk [],false):=by unfold zI;rw [if_pos ie]
  have HM:=fX HM
  go_enter Tryz.func38,Tryz.ntmps38
  go_wp2_with fail
  refine bodyPost_ret (v:=.tuple #[.agg #[.slice none 0 0],.bool false]) (by simp [results,Tryz.results38,go_sem]) rfl ?_
  refine ⟨_,by rw [HM.out],(fH _ _).alloc (fP _) _,?_⟩
  rw [HM.out];exact cj _ _
 have Ky:¬ (100:Int)<(l.length:Int):=by omega
 have HM:zI l=(match rdS 21 l with
  | none=>(.mk [],false)
  | some (t,rest)=>(t,rest.isEmpty && decide (zV t<=15))):=by unfold zI;rw [if_neg ie]
 have HM:=fX HM
 go_enter Tryz.func38,Tryz.ntmps38
 go_wp2_with fail
 refine (l1Read_any l hl 21 0 rfl 0 _ (Nat.zero_le _) (by omega)).mono ?_
 rintro en w1 ⟨v1,k1,t1,rfl,fA,tM,mH,mX⟩
 rw [show (21-0:Nat)=21 from rfl,List.drop_zero] at mH mX
 obtain ⟨a1,c1,e1⟩:=kJ tM
 subst e1
 have z1:=fA.size
 rw [zK] at z1
 have iZ:w.heap.size<w1.heap.size:=by omega
 have rU:Below w.heap.size w w1:=((fH w.heap.size w).alloc (fP _) _).trans (fA.mono (by simp))
 have nT:w1.cell? ⟨w.heap.size,0,none⟩=some (.slice none 0 0):=by rw [fA.cell (by simp)];simp
 have aC:w1.frozen? ⟨w.heap.size,0,none⟩=false:=by rw [fA.frozen (by simp)];simp
 cases hq:rdS 21 l with
 | none =>
   obtain ⟨rfl,rfl⟩:=mH hq
   have HQ:=fX hq;clear hq mH mX
   have g1:((-1:Int) == (l.length:Int))=false:=by rw [beq_eq_false_iff_ne];omega
   go_wp2_with fail
   go_region
   go_wp2_with fail
   refine bodyPost_ret (v:=.tuple #[.agg #[.slice a1 0 c1],.bool false]) (by simp [results,Tryz.results38,go_sem,iZ,jl nT,Ty.args]) rfl ?_
   refine ⟨_,by rw [HM.out,HQ.out],(by repeat (first | exact rU | refine Below.alloc ?_ (by simp;omega) _ | refine Below.setCell ?_ (by simp) _ | refine Below.drew ?_)),?_⟩
   rw [HM.out,HQ.out]
   rw [qy]
   refine zp.2 ⟨rfl,a1,c1,rfl,Nat.zero_le _,?_,.inl rfl⟩
   obtain ⟨_,_,_,e,_,h0,_⟩:=zp.1 (by rw [qy] at tM;exact tM)
   simp only [Value.slice.injEq] at e
   obtain ⟨rfl,_,rfl⟩:=e;exact h0
 | some x =>
   obtain ⟨t,rest⟩:=x
   obtain ⟨rfl,rfl⟩:=mX _ _ hq
   have fM:=rdS_atoms hq
   have HQ:=fX hq;clear hq mH mX
   obtain ⟨e,he⟩:=zzM (l.length-rest.length)
   rw [show (l.length:Int)-(rest.length:Int)=(e:Int) from by omega]
   have HE:=fX he;clear he
   cases rest with
   | cons x xs =>
     have g1:((e:Int) == (l.length:Int))=false:=by rw [beq_eq_false_iff_ne];have:=HE.out;simp at this fM;omega
     go_wp2_with fail
     go_region
     go_wp2_with fail
     refine bodyPost_ret (v:=.tuple #[.agg #[.slice a1 t1.args.length c1],.bool false]) (by simp [results,Tryz.results38,go_sem,iZ,jl nT]) rfl ?_
     refine ⟨_,by rw [HM.out,HQ.out];rfl,(by repeat (first | exact rU | refine Below.alloc ?_ (by simp;omega) _ | refine Below.setCell ?_ (by simp) _ | refine Below.drew ?_)),?_⟩
     rw [HM.out,HQ.out]
     refine (Rep.keep fun b o h ho=>⟨by have:=ye h;omega,?_⟩).1 _ _ tM
     have hb:b≠w.heap.size:=by have:=ye h;omega
     exact zY (by rw [fB _ _ _ _ (by simpa using hb)];exact ho)
   | nil =>
     obtain rfl:e=l.length:=by have:=HE.out;simpa using this
     have g1:((l.length:Int) == (l.length:Int))=true:=by simp
     have hlA:Lim (zV t1):=hl.mono (by simp at fM;omega)
     have hrA:Rep (w.heap.size < ·) (w1.alloc (.cells #[.slice a1 t1.args.length c1] 43)) (kg t1) (.slice a1 t1.args.length c1):=(Rep.keep fun b o h ho=>⟨by have:=ye h;omega,zY ho⟩).1 _ _ tM
     have D7:(w1.alloc (.cells #[.slice a1 t1.args.length c1] 43)).cell? ⟨w1.heap.size,0,none⟩=some (.slice a1 t1.args.length c1):=by simp
     go_wp2_with fail
     go_region_held3 (fun w'=>w'.cell? ⟨w1.heap.size,0,none⟩=some (.slice a1 t1.args.length c1))
      (first
       | exact (fN.cell (by simp)).trans D7
       | (rw [World.cell?_of_block (w:=w2) (fB _ _ _ _ (by simp;omega))];exact (fN.cell (by simp)).trans D7)
       | go_keep)
      (first
       | (go_at_call 64;refine (eC (zV t1) t1 (fP _) hlA (w.heap.size < ·) _ _ (by exact hrA.drew)).mono ?_;rintro en w2 ⟨rfl,fN⟩;have z2:=fN.size;have nF:w.heap.size<w2.heap.size:=(by simp at z2;omega);have sf:w2.cell? ⟨w.heap.size,0,none⟩=some (.slice none 0 0):=(fN.cell (by simp;omega)).trans (zJ nT);have Ch:w2.frozen? ⟨w.heap.size,0,none⟩=false:=(fN.frozen (by simp;omega)).trans ((World.frozen?_of_block (w:=w1) (Below.heap_alloc _ _ _ iZ)).trans aC)))
     go_wp2_with fail
     refine bodyPost_ret (v:=.tuple #[.agg #[.slice a1 t1.args.length c1],.bool (decide ((zV t1:Int)<=15))]) (by simp [results,Tryz.results38,go_sem,jl sf]) rfl ?_
     have DD:Below w.heap.size w w2:=((rU.alloc rU.size _).drew).trans (fN.mono (by simp;omega))
     refine ⟨.slice a1 t1.args.length c1,?_,DD.setCell (fP _) _,?_⟩
     ·have e15:decide ((zV t1:Int)<=15)=decide (zV t1<=15):=by rw [decide_eq_decide];omega
      rw [HM.out,HQ.out,e15];rfl
     ·rw [HM.out,HQ.out]
      refine (Rep.keep fun b o h ho=>⟨by have:=ye h;omega,?_⟩).1 _ _ tM
      have hb:b≠w.heap.size:=by have:=ye h;omega
      rw [fB _ _ _ _ (by simpa using hb),fN.block b (by have:=zZ ho;simp;omega)]
      exact zY ho
theorem cZ (a b:Ty):zV (zd a b)=1+zV a+zV b:=by cases b;simp [zd,zV,za,Ty.args];omega
set_option maxRecDepth 100000 in
theorem l3Hand_any (F:Nat->Prop) (hand:List Ty) (t:Ty) (hv tv:Value) (w:World) (hh:Rep F w (.sl 43 1 hand.length (qH hand)) hv) (ht:Rep F w (kg t) tv) (hl:Lim (hand.length+t.args.length)) :
 Calls Tryz.prog 90 #[hv,.agg #[tv]] w fun en w' =>
  ∃ a c,en=.returned (.slice a (hand++t.args).length c)/\Below w.heap.size w w'/\Rep (fun k=>F k\/w.heap.size<=k) w' (.sl 43 1 (hand++t.args).length (qH (hand++t.args))) (.slice a (hand++t.args).length c):=by
 have tR:=hl.le
 obtain ⟨lK,Do,g1⟩:=zq.ofRep hh (v_ _)
 have rV:=ht
 rw [qy] at rV
 obtain ⟨GT,Bc,g2⟩:=zq.ofRep rV (v_ _)
 obtain ⟨a1,c1,e1⟩:=g1.slice
 obtain ⟨a2,c2,e2⟩:=g2.slice
 subst e1;subst e2
 have D7:(w.alloc (.cells #[.slice a2 t.args.length c2] 43)).cell? ⟨w.heap.size,0,none⟩=some (.slice a2 t.args.length c2):=by simp
 go_enter Tryz.func90,Tryz.ntmps90
 go_wp2_with fail
 go_region_held3 (fun w'=>w'.cell? ⟨w.heap.size,0,none⟩=some (.slice a2 t.args.length c2))
  (first
   | exact (A0.cell (by simp)).trans D7
   | exact (tm.cell (by simp)).trans D7
   | go_keep)
  (first
   | (refine zF (by rfl) (.tmp 7) (.tmp 9) _ (by rfl) 43 (.agg #[.slice none 0 0]) 1 24 Tryz.underlying41 Tryz.infoS rfl (by omega) (.slice ax hand.length cx) hand.length lK (by rfl) (by exact hox) (.slice a2 t.args.length c2) t.args.length GT (by rfl) (by exact (g2.alloc _).below tm) (by unfold maxLen;omega) (by omega) ?_;intro ay cy wy hoy nA hgy;obtain ⟨A0,hfy⟩:=vY tm hfx nA hgy)
   | (refine zF (by rfl) (.tmp 5) (.tmp 6) _ (by rfl) 43 (.agg #[.slice none 0 0]) 1 24 Tryz.underlying41 Tryz.infoS rfl (by omega) (.slice (some ⟨w.heap.size+1,0,none⟩) 0 0) 0 [] (by rfl) (by exact (Own.litAt #[] 0 _ (by simp) (by decide) rfl).drew) (.slice a1 hand.length c1) hand.length lK (by rfl) (by exact ((g1.alloc _).alloc _).drew) (by unfold maxLen;omega) (by omega) ?_;rw [Nat.zero_add,List.nil_append];intro ax cx wx hox tS hgx;obtain ⟨tm,hfx⟩:=vY (((fH _ _).alloc (fP _) _).drew) (w_ (by simp)) tS hgx))
 go_wp2_with fail
 go_ret
 have fA:Below w.heap.size w (w.alloc (.cells #[.slice a2 t.args.length c2] 43)):=(fH _ _).alloc (fP _) _
 have AZ:Below w.heap.size w wy:=fA.trans (A0.mono (by simp))
 rw [List.length_append]
 refine ⟨ay,cy,rfl,AZ,?_⟩
 rw [bi]
 exact hoy.rep (fun g h=>.inr (by have:=hfy g h;simp at this;omega)) (zX.append (Do.below AZ (fun _ h=>.inl h)) (Bc.below AZ (fun _ h=>.inl h)))
end Go.Proofs.YtjggkhmojjaomaaGreatDoor

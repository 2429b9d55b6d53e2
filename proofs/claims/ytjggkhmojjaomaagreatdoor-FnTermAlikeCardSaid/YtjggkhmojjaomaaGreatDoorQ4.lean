/- Walks of functions that the statement reaches, and plain words. No conditions. -/
import Derived.Test.YtjggkhmojjaomaaGreatDoorQ2
set_option linter.unusedVariables false
set_option linter.unusedSimpArgs false
set_option maxHeartbeats 2000000
namespace Go.Proofs.YtjggkhmojjaomaaGreatDoor
open Go.RowKit
mutual
def kz:Ty->DV
 | .mk ts=>.sl 43 1 ts.length (qH ts)
def qH:List Ty->List DV
 | []=>[]
 | t::ts=>kz t::qH ts
end
def vx (L:Nat) (w:World) (o:Option (Ty×Bs)) (en:Ending) (w':World):Prop :=
 ∃ (v:Value) (k:Int) (t:Ty),en=.returned (.tuple #[.agg #[v],.int .i64 k])/\Below w.heap.size w w'/\Rep (w.heap.size<=·) w' (kz t) v/\(o=none->k = -1/\t=.mk [])/\(∀ t' rest,o=some (t',rest)->k=(L:Int)-rest.length/\t=t')
theorem Tryz.infoS:(Tryz.prog.info? 43).map (fun i=>(i.zero,i.size,i.bytes))=some (some (.agg #[.slice none 0 0]),1,24):=by kernel_rfl
theorem vj (ts:List Ty):∀ k:Nat,(qH ts)[k]? = ts[k]?.map kz:=by
 induction ts with
 | nil=>intro k;simp [qH]
 | cons t ts ih=>intro k;cases k <;> simp [qH,ih]
theorem bL (a b:List Ty):qH (a++b)=qH a++qH b:=by
 induction a with
 | nil=>rfl
 | cons t ts ih=>simp [qH,ih]
theorem qv (t:Ty):kz t=.sl 43 1 t.args.length (qH t.args):=by cases t;rw [kz];rfl
theorem kK {F:Nat->Prop} {w:World} {t:Ty} {v:Value} (h:Rep F w (kz t) v):∃ a c,v=.slice a t.args.length c:=by
 rw [qv] at h;obtain ⟨a,c,e,_⟩:=zP h;exact ⟨a,c,e⟩
theorem uZ {F:Nat->Prop} {w:World} (ts:List Ty):∀ us,zX F w (qH ts) us->∀ u∈us,u.oneCell'=true:=by
 induction ts with
 | nil=>intro us h;rw [qH,zC] at h;subst h;simp
 | cons t ts ih =>
   intro us h u hu
   rw [qH,zQ] at h
   obtain ⟨v,vs',rfl,h1,h2⟩:=h
   rcases List.mem_cons.1 hu with rfl | hu
   ·obtain ⟨a,c,rfl⟩:=kK h1;rfl
   ·exact ih _ h2 u hu
theorem cC (F:Nat->Prop) (w:World):Rep F w (kz (.mk [])) (.slice none 0 0):=by
 rw [qv];exact zp.2 ⟨rfl,none,0,rfl,ei _,fun _=>rfl,.inl rfl⟩
theorem vx.no {L:Nat} {w w':World} {o:Option (Ty×Bs)} (ho:o=none) (hb:Below w.heap.size w w') :
 vx L w o (.returned (.tuple #[.agg #[.slice none 0 0],.int .i64 (-1)])) w' :=
 ⟨_,_,.mk [],rfl,hb,cC _ _,fun _=>⟨rfl,rfl⟩,fun _ _ h=>by rw [ho] at h;simp at h⟩
theorem vx.yes {L:Nat} {w w':World} {o:Option (Ty×Bs)} {t:Ty} {rest:Bs} {v:Value} {k:Int} (ho:o=some (t,rest)) (hk:k=(L:Int)-rest.length) (hb:Below w.heap.size w w') (hv:Rep (w.heap.size<=·) w' (kz t) v) :
 vx L w o (.returned (.tuple #[.agg #[v],.int .i64 k])) w' :=
 ⟨_,_,t,rfl,hb,hv,fun h=>by rw [ho] at h;simp at h,fun _ _ h=>by rw [ho] at h;simp at h;obtain ⟨rfl,rfl⟩:=h;exact ⟨hk,rfl⟩⟩
def eO (l:Bs) (d:Nat):Prop:=∀ (i:Nat) (w:World),i<=l.length->d<=21 ->
    Calls Tryz.prog 65 #[str l,.int .i64 i,.int .i64 d] w (vx l.length w (rdS (21-d) (l.drop i)))
theorem c_ (l:Bs) (hl:Lim l.length) (d:Nat) (ih:d<=20->eO l (d+1)):eO l d:=by
 intro i w hi hd
 have tH:=hl.le
 have IH:=ed ih;clear ih
 by_cases DS:d<=20
 rotate_left
 ·have h0:Hid (21-d=0):=by show 21-d=0;omega
  go_enter Tryz.func65,Tryz.ntmps65
  go_wp2_with fail
  refine bodyPost_ret (v:=.tuple #[.agg #[.slice none 0 0],.int .i64 (-1)]) (by simp [results,Tryz.results65,go_sem]) rfl ?_
  exact vx.no (by rw [h0.out];rfl) ((e_ _ _).alloc (ei _) _)
 obtain ⟨n,hn⟩:∃ n,21-d=n+1:=⟨20-d,by omega⟩
 have IH':=ed (IH.out DS);clear IH
 have HN:=ed hn
 have HN':Hid (21-(d+1)=n):=by show 21-(d+1)=n;omega
 clear hn
 by_cases fG:i<l.length
 rotate_left
 ·go_enter Tryz.func65,Tryz.ntmps65
  go_wp2_with fail
  refine bodyPost_ret (v:=.tuple #[.agg #[.slice none 0 0],.int .i64 (-1)]) (by simp [results,Tryz.results65,go_sem]) rfl ?_
  exact vx.no (by rw [HN.out,rdS_no (pw (by omega)),pw (by omega)];rfl) ((e_ _ _).alloc (ei _) _)
 by_cases hb:l[i]=98
 ·have f1:=xV fG (n:=98) (by decide) hb
  have hc:Cut [98] (l.drop i) (l.drop (i+1)):=by unfold Cut;rw [yK fG,if_pos hb]
  clear hb
  go_enter Tryz.func65,Tryz.ntmps65
  go_wp2_with fail
  refine bodyPost_ret (v:=.tuple #[.agg #[.slice none 0 0],.int .i64 ((i:Int)+1)]) (by simp [results,Tryz.results65,go_sem]) rfl ?_
  exact vx.yes (t:=.mk []) (by rw [HN.out,rdS_b hc]) (by simp;omega) ((e_ _ _).alloc (ei _) _) (cC _ _)
 have f1:=vh fG (n:=98) (by decide) hb
 have hc:pH [98] (l.drop i):=by unfold pH;rw [yK fG,if_neg hb]
 have HM:=ed (rdS_no (n:=n) hc)
 clear hb hc
 by_cases h3:i+3<=l.length
 rotate_left
 ·have h3':(l.length:Int)<(i:Int)+3:=by omega
  have rD:Hid (cut [40,62,32] (l.drop i)=none):=by
   show cut [40,62,32] (l.drop i)=none
   cases hq:cut [40,62,32] (l.drop i) with
   | none=>rfl
   | some r=>have:=(cut_drop hq).2;simp at this;omega
  go_enter Tryz.func65,Tryz.ntmps65
  go_wp2_with fail
  refine bodyPost_ret (v:=.tuple #[.agg #[.slice none 0 0],.int .i64 (-1)]) (by simp [results,Tryz.results65,go_sem]) rfl ?_
  exact vx.no (by rw [HN.out,HM.out,rD.out];rfl) ((e_ _ _).alloc (ei _) _)
 have h3':(i:Int)+3<=(l.length:Int):=by omega
 have hx:(l.take (i+3)).drop i=(l.drop i).take 3:=by rw [List.drop_take];congr 1;omega
 rcases qW [40,62,32] (l.drop i) with h4 | ⟨r1,h4⟩
 ·have f2:(((⟨l.toArray⟩:ByteArray).extract i (i+3)).toList == [40,62,32])=false:=by
   rw [ext_list,hx,beq_eq_false_iff_ne]
   intro e
   have h5:=h4.out
   have hp:[40,62,32].isPrefixOf (l.drop i)=true:=by rw [List.isPrefixOf_iff_prefix,<- e];exact List.take_prefix _ _
   unfold cut at h5;rw [if_pos hp] at h5;simp at h5
  clear hx
  go_enter Tryz.func65,Tryz.ntmps65
  go_wp2_with fail
  refine bodyPost_ret (v:=.tuple #[.agg #[.slice none 0 0],.int .i64 (-1)]) (by simp [results,Tryz.results65,go_sem]) rfl ?_
  exact vx.no (by rw [HN.out,HM.out,h4.out];rfl) ((e_ _ _).alloc (ei _) _)
 have f2:(((⟨l.toArray⟩:ByteArray).extract i (i+3)).toList == [40,62,32])=true:=by
  rw [ext_list,hx,beq_iff_eq]
  have h5:=h4.out
  unfold cut at h5;split at h5
  ·rename_i hp
   exact (List.prefix_iff_eq_take.1 (List.isPrefixOf_iff_prefix.1 hp)).symm
  ·simp at h5
 have mu:=(cut_drop h4.out).1
 have DH:r1=l.drop (i+3):=mu
 subst DH
 clear hx mu
 go_enter Tryz.func65,Tryz.ntmps65
 go_wp2_with fail
 rw [show (i:Int)+3=((i+3:Nat):Int) from by omega,show (d:Int)+1=((d+1:Nat):Int) from by omega]
 refine (IH'.out (i+3) _ h3 (by omega)).mono ?_
 rintro en w1 ⟨v1,k1,t1,rfl,fP,se,mZ,fo⟩
 rw [HN'.out] at mZ fo
 have nw:Below w.heap.size w w1:=((e_ w.heap.size w).alloc (ei _) _).trans (fP.mono (by simp))
 have z1:=fP.size
 have aO:w.heap.size<w1.heap.size:=by simp at z1;omega
 have nW:w1.cell? ⟨w.heap.size,0,none⟩=some (.slice none 0 0):=by rw [fP.cell (by simp)];simp
 have aV:w1.frozen? ⟨w.heap.size,0,none⟩=false:=by rw [fP.frozen (by simp)];simp
 obtain ⟨a1,c1,e1⟩:=kK se
 subst e1
 cases hq:rdS n (l.drop (i+3)) with
 | none =>
   obtain ⟨rfl,rfl⟩:=mZ hq
   have HQ:=ed hq;clear hq mZ fo
   go_wp2_with fail
   refine bodyPost_ret (v:=.tuple #[.agg #[.slice none 0 0],.int .i64 (-1)]) (by simp [results,Tryz.results65,go_sem,aO,jr nW]) rfl ?_
   exact vx.no (by rw [HN.out,HM.out,h4.out];simp [HQ.out]) (by repeat (first | exact nw | refine Below.alloc ?_ (by simp;omega) _ | refine Below.setCell ?_ (by simp) _ | refine Below.drew ?_))
 | some x =>
   obtain ⟨ta,r2⟩:=x
   obtain ⟨rfl,rfl⟩:=fo _ _ hq
   have ic:=yX (de hq)
   have mt:=(rdS_le hq).1
   have HQ:=ed hq;clear hq mZ fo
   obtain ⟨e,he⟩:=zzM (l.length-r2.length)
   have al:e<=l.length:=by omega
   have hr2l:r2.length<=l.length:=by simp at mt;omega
   have hk:(l.length:Int)-(r2.length:Int)=(e:Int):=by omega
   rw [<- he] at ic
   rw [hk]
   have HSF:=ed ic
   clear hk ic mt
   by_cases JI:e<l.length
   rotate_left
   ·have Aj:Hid (cut [32] r2=none):=by show cut [32] r2=none;rw [HSF.out];exact pw (by omega)
    have HE:=ed he;clear he
    go_wp2_with fail
    refine bodyPost_ret (v:=.tuple #[.agg #[.slice none 0 0],.int .i64 (-1)]) (by simp [results,Tryz.results65,go_sem,aO,jr nW]) rfl ?_
    exact vx.no (by rw [HN.out,HM.out,h4.out];simp [HQ.out,Aj.out]) (by repeat (first | exact nw | refine Below.alloc ?_ (by simp;omega) _ | refine Below.setCell ?_ (by simp) _ | refine Below.drew ?_))
   have HE:=ed he;clear he
   by_cases fv:l[e]=32
   rotate_left
   ·have f5:=js JI (n:=32) (by decide) fv
    have Aj:Hid (cut [32] r2=none):=by show cut [32] r2=none;rw [HSF.out,yK JI,if_neg fv]
    clear fv
    go_wp2_with fail
    refine bodyPost_ret (v:=.tuple #[.agg #[.slice none 0 0],.int .i64 (-1)]) (by simp [results,Tryz.results65,go_sem,aO,jr nW]) rfl ?_
    exact vx.no (by rw [HN.out,HM.out,h4.out];simp [HQ.out,Aj.out]) (by repeat (first | exact nw | refine Below.alloc ?_ (by simp;omega) _ | refine Below.setCell ?_ (by simp) _ | refine Below.drew ?_))
   have f5:=vE JI (n:=32) (by decide) fv
   have g1:decide ((e:Int)<0)=false:=by rw [decide_eq_false_iff_not];omega
   have g2:decide (l.length<=e)=false:=by rw [decide_eq_false_iff_not];omega
   have Aj:Hid (cut [32] r2=some (l.drop (e+1))):=by show cut [32] r2=_;rw [HSF.out,yK JI,if_pos fv]
   clear fv
   go_wp2_with fail
   rw [show (e:Int)+1=((e+1:Nat):Int) from by omega,show (d:Int)+1=((d+1:Nat):Int) from by omega]
   refine (IH'.out (e+1) _ JI (by omega)).mono ?_
   rintro en w2 ⟨v2,k2,t2,rfl,fY,GS,sZ,tW⟩
   rw [HN'.out] at sZ tW
   obtain ⟨a2,c2,e2⟩:=kK GS
   subst e2
   have z2:=fY.size
   rw [zK] at z2
   have Dr:Below w.heap.size w w2:=(nw.alloc nw.size _).trans (fY.mono (by rw [zK];omega))
   have nJ:w.heap.size<w2.heap.size:=by omega
   have tX:w1.heap.size<w2.heap.size:=by omega
   have sI:w2.cell? ⟨w.heap.size,0,none⟩=some (.slice none 0 0):=by rw [fY.cell (by simp;omega)];exact zJ nW
   have B6:w2.frozen? ⟨w.heap.size,0,none⟩=false:=by rw [fY.frozen (by simp;omega)];rw [World.frozen?_of_block (w:=w1) (Below.heap_alloc _ _ _ aO)];exact aV
   have hcellA:w2.cell? ⟨w1.heap.size,0,none⟩=some (.slice a1 t1.args.length c1):=by rw [fY.cell (by simp)];simp
   have Aw:Rep (w1.heap.size<=·) w2 (kz t1) (.slice a1 t1.args.length c1)\/True:=.inr trivial
   clear Aw nW aV
   cases hq:rdS n (l.drop (e+1)) with
   | none =>
     obtain ⟨rfl,rfl⟩:=sZ hq
     have KM:=ed hq;clear hq sZ tW
     go_wp2_with fail
     refine bodyPost_ret (v:=.tuple #[.agg #[.slice none 0 0],.int .i64 (-1)]) (by simp [results,Tryz.results65,go_sem,nJ,jr sI]) rfl ?_
     exact vx.no (by rw [HN.out,HM.out,h4.out];simp [HQ.out,Aj.out,KM.out]) (by repeat (first | exact Dr | refine Below.alloc ?_ (by simp;omega) _ | refine Below.setCell ?_ (by simp) _ | refine Below.drew ?_))
   | some x =>
     obtain ⟨tb,r4⟩:=x
     obtain ⟨rfl,rfl⟩:=tW _ _ hq
     have ic:=yX (de hq)
     have im:=rdS_le hq
     have KM:=ed hq;clear hq sZ tW
     obtain ⟨e2,he⟩:=zzM (l.length-r4.length)
     have al:e2<=l.length:=by omega
     have hr2l:r4.length<=l.length:=by simp at im;omega
     have hk:(l.length:Int)-(r4.length:Int)=(e2:Int):=by omega
     have Er:t2.args.length<=16777216:=by simp at im;omega
     rw [<- he] at ic
     rw [hk]
     have GB:=ed ic
     clear hk ic im
     have AW:=ed he;clear he
     by_cases DR:e2<l.length
     rotate_left
     ·have Ai:Hid (cut [41] r4=none):=by show cut [41] r4=none;rw [GB.out];exact pw (by omega)
      go_wp2_with fail
      refine bodyPost_ret (v:=.tuple #[.agg #[.slice none 0 0],.int .i64 (-1)]) (by simp [results,Tryz.results65,go_sem,nJ,jr sI]) rfl ?_
      exact vx.no (by rw [HN.out,HM.out,h4.out];simp [HQ.out,Aj.out,KM.out,Ai.out]) (by repeat (first | exact Dr | refine Below.alloc ?_ (by simp;omega) _ | refine Below.setCell ?_ (by simp) _ | refine Below.drew ?_))
     by_cases fC:l[e2]=41
     rotate_left
     ·have f6:=js DR (n:=41) (by decide) fC
      have Ai:Hid (cut [41] r4=none):=by show cut [41] r4=none;rw [GB.out,yK DR,if_neg fC]
      clear fC
      go_wp2_with fail
      refine bodyPost_ret (v:=.tuple #[.agg #[.slice none 0 0],.int .i64 (-1)]) (by simp [results,Tryz.results65,go_sem,nJ,jr sI]) rfl ?_
      exact vx.no (by rw [HN.out,HM.out,h4.out];simp [HQ.out,Aj.out,KM.out,Ai.out]) (by repeat (first | exact Dr | refine Below.alloc ?_ (by simp;omega) _ | refine Below.setCell ?_ (by simp) _ | refine Below.drew ?_))
     have f6:=vE DR (n:=41) (by decide) fC
     have g3:decide ((e2:Int)<0)=false:=by rw [decide_eq_false_iff_not];omega
     have g4:decide (l.length<=e2)=false:=by rw [decide_eq_false_iff_not];omega
     have Ai:Hid (cut [41] r4=some (l.drop (e2+1))):=by show cut [41] r4=_;rw [GB.out,yK DR,if_pos fC]
     clear fC
     rw [qv] at GS
     obtain ⟨xs,iu,mC⟩:=zO.ofRep GS (uZ _)
     go_wp2_with (at_builtin;refine zD rfl _ _ 41 rfl 43 (.agg #[.slice none 0 0]) 1 24 Tryz.underlying41 Tryz.infoS rfl (by decide) _ 1 [.slice a1 t1.args.length c1] rfl ?c1 _ t2.args.length xs rfl ?c2 ?c3 ?c4 ?_)
     case c1=>exact Own.litAt #[.slice a1 t1.args.length c1] 1 _ (by simp) (by decide) rfl
     case c2=>exact mC.keep fun _ _ h=>zJ (zJ h)
     case c3=>unfold maxLen;omega
     case c4=>omega
     intro a' c' w3 ho fE G5
     have fD:Below w2.heap.size w2 ((w2.alloc (.cells #[.slice a2 t2.args.length c2] 43)).alloc (.cells #[.slice a1 t1.args.length c1] 43)):=((e_ _ _).alloc (ei _) _).alloc (by simp) _
     have tD:Below w2.heap.size w2 w3:=fD.trans (fE.toBelow (by simp;omega) (fun i hi e=>by simp [Value.ownBlock] at e;omega))
     have hbC:Below w.heap.size w w3:=Dr.trans (tD.mono (by omega))
     have F9:w3.cell? ⟨w.heap.size,0,none⟩=some (.slice none 0 0):=by rw [tD.cell nJ];exact sI
     have hfree3:w3.frozen? ⟨w.heap.size,0,none⟩=false:=by rw [tD.frozen nJ];exact B6
     have hv1W:Rep (w.heap.size<=·) w3 (kz t1) (.slice a1 t1.args.length c1):=by
      refine (Rep.keep fun b o h ho=>⟨by have:=y6 h;omega,?_⟩).1 _ _ se
      rw [tD.block b (by have:=zZ ho;omega),fY.block b (by have:=zZ ho;simp;omega)]
      exact zY ho
     have hxsW:zX (w.heap.size<=·) w3 (qH t2.args) xs :=
      (Rep.keep fun b o h ho=>⟨by have:=y6 h;omega,by rw [tD.block b (zZ ho)];exact ho⟩).2 _ _ iu
     have fp:∀ g,(Value.slice a' (1+t2.args.length) c').ownBlock=some g->w.heap.size<=g:=by
      intro g h
      rcases G5 g h with h | h
      ·simp [Value.ownBlock] at h;omega
      ·have:=tD.size;omega
     have HG:=ed fp;have HG3:=ed G5;clear G5 fp
     go_wp2_with fail
     refine bodyPost_ret (v:=.tuple #[.agg #[.slice a' (1+t2.args.length) c'],.int .i64 ((e2:Int)+1)]) (by simp [results,Tryz.results65,go_sem,jr F9]) rfl ?_
     refine vx.yes (t:=zd t1 t2) (rest:=l.drop (e2+1)) (by rw [HN.out,HM.out,h4.out];simp [HQ.out,Aj.out,KM.out,Ai.out]) (by simp;omega) (hbC.setCell (ei _) _) ?_
     refine (Rep.keep (w:=w3) (F:=fun b=>w.heap.size<=b/\b≠w.heap.size) fun b o h ho=>⟨h.1,?_⟩).1 _ _ ?_
     ·rw [fZ _ _ _ _ (by simpa using h.2)];exact ho
     rw [qv,show (zd t1 t2).args.length=1+t2.args.length from by simp [zd,Ty.args,Nat.add_comm]]
     refine ho.rep (fun g h=>⟨HG.out g h,?_⟩) ?_
     ·rcases HG3.out g h with h | h
      ·simp [Value.ownBlock] at h;omega
      ·have:=tD.size;omega
     ·show zX _ _ (kz t1::qH t2.args) _
      refine zQ.2 ⟨_,_,rfl,?_,?_⟩
      ·refine (Rep.keep fun b o h ho=>⟨⟨by have:=y6 h;omega,by have:=y6 h;omega⟩,?_⟩).1 _ _ se
       rw [tD.block b (by have:=zZ ho;omega),fY.block b (by have:=zZ ho;simp;omega)]
       exact zY ho
      ·exact (Rep.keep fun b o h ho=>⟨⟨by have:=y6 h;omega,by have:=y6 h;omega⟩,by rw [tD.block b (zZ ho)];exact ho⟩).2 _ _ iu
theorem l1Read_any (l:Bs) (hl:Lim l.length) (n:Nat):∀ d,21-d=n->eO l d:=by
 induction n with
 | zero=>exact fun d h=>c_ l hl d (fun h'=>by omega)
 | succ n ih=>exact fun d h=>c_ l hl d (fun h'=>ih (d+1) (by omega))
def cv (t:Ty):Prop:=∀ (F:Nat->Prop) (w:World) (v:Value),Rep F w (kz t) v ->
 Calls Tryz.prog 64 #[.agg #[v]] w fun en w'=>en=.returned (.int .i64 (zV t))/\Below w.heap.size w w'
theorem qV (ts:List Ty):ts.length<=zt ts:=by
 induction ts with
 | nil=>simp
 | cons t ts ih=>simp [zt];omega
theorem l1Size_step (t:Ty) (hl:Lim (zV t)) (ih:∀ t',zV t'<zV t->cv t'):cv t:=by
 intro F w v hv
 obtain ⟨a,cap,e⟩:=kK hv
 subst e
 have hv':=hv
 rw [qv] at hv'
 obtain ⟨_,_,e,_,hlen,fU⟩:=zP hv'
 simp only [Value.slice.injEq] at e
 obtain ⟨rfl,_,rfl⟩:=e
 have IH:=ed ih;clear ih
 have tH:=hl.le
 have E1:=ed (qw t)
 have hlb:t.args.length<=16777216:=by have:=qV t.args;have:=E1.out;omega
 have AT:=ed fU;clear fU hlen hv'
 go_enter Tryz.func64,Tryz.ntmps64
 go_wp2_with fail
 go_loopw [3,4] (fun n i wr=>∃ k:Nat,k<=t.args.length/\i=.int .i64 k/\n=.int .i64 ((1+zt (t.args.take k):Nat):Int)/\Below w.heap.size w wr/\wr.cell? ⟨w.heap.size,0,none⟩=some (.slice a t.args.length cap)) (fun _ i _=>t.args.length-(intOf i).toNat)
 case atStart=>exact ⟨0,Nat.zero_le _,rfl,by simp [zt],(e_ _ _).alloc (ei _) _,by simp⟩
 case round =>
  rename_i wr
  obtain ⟨k,hk,rfl,rfl,hb,hc⟩:=hrel
  by_cases fG:k<t.args.length
  ·obtain ⟨b',o,u,d,rfl,_,fN,hd,hu,hr⟩:=AT.out k fG
   rw [vj,Option.map_eq_some_iff] at hd
   obtain ⟨t',nz,rfl⟩:=hd
   obtain ⟨ua,uc,rfl⟩:=kK hr
   have hu':wr.cell? ⟨b',o+k,none⟩=some (.slice ua t'.args.length uc):=by rw [hb.cell fN];exact hu
   have rA:=Rep.below (F':=F) hb (fun _ h=>h) hr
   have hs:=yx nz
   have mH:=uU t.args (k+1)
   have ri:=E1.out
   have IH':=ed (IH.out t' (by omega))
   have HS:=ed hs
   have b1:1+zt (t.args.take k)+(1+zV t')<=16777216:=by omega
   have hz:=e9 wr _ hc
   clear hs nz ri hu hr
   go_wp2_with fail
   refine (IH'.out _ _ _ rA).mono ?_
   rintro en w2 ⟨rfl,fY⟩
   have fE:=zzT hb fY
   have rD:w2.cell? ⟨w.heap.size,0,none⟩=some (.slice (some ⟨b',o,none⟩) t.args.length cap):=by rw [fY.cell hz];exact hc
   go_wp2_with fail
   go_roundw
   case rel=>exact ⟨k+1,by omega,by go_num,by rw [HS.out] <;> go_num,fE,rD⟩
   case measure=>simp [intOf];omega
  ·obtain rfl:k=t.args.length:=by omega
   go_wp2_with fail
   go_ret
   exact ⟨yq (by rw [E1.out,List.take_length]),hb⟩
theorem eQ (n:Nat):∀ t,zV t<=n->Lim n->cv t:=by
 induction n with
 | zero=>intro t h _;have:=kr t;omega
 | succ n ih=>exact fun t h hn=>l1Size_step t (hn.mono h) (fun t' h'=>ih t' (by omega) (hn.mono (by omega)))
def zL (l:Bs):Ty×Bool :=
 if 100<l.length then (.mk [],false) else
 match rdS 21 l with
 | none=>(.mk [],false)
 | some (t,rest)=>(t,rest.isEmpty && decide (zV t<=15))
def TypePost (l:Bs) (w:World) (en:Ending) (w':World):Prop :=
 ∃ v,en=.returned (.tuple #[.agg #[v],.bool (zL l).2])/\Below w.heap.size w w'/\Rep (w.heap.size<=·) w' (kz (zL l).1) v
set_option maxRecDepth 100000 in
theorem xZ (l:Bs) (hl:Lim l.length) (w:World):Calls Tryz.prog 38 #[str l] w (TypePost l w):=by
 have tH:=hl.le
 by_cases ij:100<l.length
 ·have Km:(100:Int)<(l.length:Int):=by omega
  have HM:zL l=(.mk [],false):=by unfold zL;rw [if_pos ij]
  have HM:=ed HM
  go_enter Tryz.func38,Tryz.ntmps38
  go_wp2_with fail
  refine bodyPost_ret (v:=.tuple #[.agg #[.slice none 0 0],.bool false]) (by simp [results,Tryz.results38,go_sem]) rfl ?_
  refine ⟨_,by rw [HM.out],(e_ _ _).alloc (ei _) _,?_⟩
  rw [HM.out];exact cC _ _
 have Km:¬ (100:Int)<(l.length:Int):=by omega
 have HM:zL l=(match rdS 21 l with
  | none=>(.mk [],false)
  | some (t,rest)=>(t,rest.isEmpty && decide (zV t<=15))):=by unfold zL;rw [if_neg ij]
 have HM:=ed HM
 go_enter Tryz.func38,Tryz.ntmps38
 go_wp2_with fail
 refine (l1Read_any l hl 21 0 rfl 0 _ (Nat.zero_le _) (by omega)).mono ?_
 rintro en w1 ⟨v1,k1,t1,rfl,fP,se,mZ,fo⟩
 rw [show (21-0:Nat)=21 from rfl,List.drop_zero] at mZ fo
 obtain ⟨a1,c1,e1⟩:=kK se
 subst e1
 have z1:=fP.size
 rw [zK] at z1
 have aO:w.heap.size<w1.heap.size:=by omega
 have nw:Below w.heap.size w w1:=((e_ w.heap.size w).alloc (ei _) _).trans (fP.mono (by simp))
 have nW:w1.cell? ⟨w.heap.size,0,none⟩=some (.slice none 0 0):=by rw [fP.cell (by simp)];simp
 have aV:w1.frozen? ⟨w.heap.size,0,none⟩=false:=by rw [fP.frozen (by simp)];simp
 cases hq:rdS 21 l with
 | none =>
   obtain ⟨rfl,rfl⟩:=mZ hq
   have HQ:=ed hq;clear hq mZ fo
   have g1:((-1:Int) == (l.length:Int))=false:=by rw [beq_eq_false_iff_ne];omega
   go_wp2_with fail
   go_region
   go_wp2_with fail
   refine bodyPost_ret (v:=.tuple #[.agg #[.slice a1 0 c1],.bool false]) (by simp [results,Tryz.results38,go_sem,aO,jr nW,Ty.args]) rfl ?_
   refine ⟨_,by rw [HM.out,HQ.out],(by repeat (first | exact nw | refine Below.alloc ?_ (by simp;omega) _ | refine Below.setCell ?_ (by simp) _ | refine Below.drew ?_)),?_⟩
   rw [HM.out,HQ.out]
   rw [qv]
   refine zp.2 ⟨rfl,a1,c1,rfl,Nat.zero_le _,?_,.inl rfl⟩
   obtain ⟨_,_,_,e,_,h0,_⟩:=zp.1 (by rw [qv] at se;exact se)
   simp only [Value.slice.injEq] at e
   obtain ⟨rfl,_,rfl⟩:=e;exact h0
 | some x =>
   obtain ⟨t,rest⟩:=x
   obtain ⟨rfl,rfl⟩:=fo _ _ hq
   have fU:=rdS_atoms hq
   have HQ:=ed hq;clear hq mZ fo
   obtain ⟨e,he⟩:=zzM (l.length-rest.length)
   rw [show (l.length:Int)-(rest.length:Int)=(e:Int) from by omega]
   have HE:=ed he;clear he
   cases rest with
   | cons x xs =>
     have g1:((e:Int) == (l.length:Int))=false:=by rw [beq_eq_false_iff_ne];have:=HE.out;simp at this fU;omega
     go_wp2_with fail
     go_region
     go_wp2_with fail
     refine bodyPost_ret (v:=.tuple #[.agg #[.slice a1 t1.args.length c1],.bool false]) (by simp [results,Tryz.results38,go_sem,aO,jr nW]) rfl ?_
     refine ⟨_,by rw [HM.out,HQ.out];rfl,(by repeat (first | exact nw | refine Below.alloc ?_ (by simp;omega) _ | refine Below.setCell ?_ (by simp) _ | refine Below.drew ?_)),?_⟩
     rw [HM.out,HQ.out]
     refine (Rep.keep fun b o h ho=>⟨by have:=y6 h;omega,?_⟩).1 _ _ se
     have hb:b≠w.heap.size:=by have:=y6 h;omega
     exact zY (by rw [fZ _ _ _ _ (by simpa using hb)];exact ho)
   | nil =>
     obtain rfl:e=l.length:=by have:=HE.out;simpa using this
     have g1:((l.length:Int) == (l.length:Int))=true:=by simp
     have hlA:Lim (zV t1):=hl.mono (by simp at fU;omega)
     have hrA:Rep (w.heap.size < ·) (w1.alloc (.cells #[.slice a1 t1.args.length c1] 43)) (kz t1) (.slice a1 t1.args.length c1):=(Rep.keep fun b o h ho=>⟨by have:=y6 h;omega,zY ho⟩).1 _ _ se
     have DU:(w1.alloc (.cells #[.slice a1 t1.args.length c1] 43)).cell? ⟨w1.heap.size,0,none⟩=some (.slice a1 t1.args.length c1):=by simp
     go_wp2_with fail
     go_region_held3 (fun w'=>w'.cell? ⟨w1.heap.size,0,none⟩=some (.slice a1 t1.args.length c1))
      (first
       | exact (fY.cell (by simp)).trans DU
       | (rw [World.cell?_of_block (w:=w2) (fZ _ _ _ _ (by simp;omega))];exact (fY.cell (by simp)).trans DU)
       | go_keep)
      (first
       | (go_at_call 64;refine (eQ (zV t1) t1 (ei _) hlA (w.heap.size < ·) _ _ (by exact hrA.drew)).mono ?_;rintro en w2 ⟨rfl,fY⟩;have z2:=fY.size;have nJ:w.heap.size<w2.heap.size:=(by simp at z2;omega);have sI:w2.cell? ⟨w.heap.size,0,none⟩=some (.slice none 0 0):=(fY.cell (by simp;omega)).trans (zJ nW);have B6:w2.frozen? ⟨w.heap.size,0,none⟩=false:=(fY.frozen (by simp;omega)).trans ((World.frozen?_of_block (w:=w1) (Below.heap_alloc _ _ _ aO)).trans aV)))
     go_wp2_with fail
     refine bodyPost_ret (v:=.tuple #[.agg #[.slice a1 t1.args.length c1],.bool (decide ((zV t1:Int)<=15))]) (by simp [results,Tryz.results38,go_sem,jr sI]) rfl ?_
     have Dr:Below w.heap.size w w2:=((nw.alloc nw.size _).drew).trans (fY.mono (by simp;omega))
     refine ⟨.slice a1 t1.args.length c1,?_,Dr.setCell (ei _) _,?_⟩
     ·have e15:decide ((zV t1:Int)<=15)=decide (zV t1<=15):=by rw [decide_eq_decide];omega
      rw [HM.out,HQ.out,e15];rfl
     ·rw [HM.out,HQ.out]
      refine (Rep.keep fun b o h ho=>⟨by have:=y6 h;omega,?_⟩).1 _ _ se
      have hb:b≠w.heap.size:=by have:=y6 h;omega
      rw [fZ _ _ _ _ (by simpa using hb),fY.block b (by have:=zZ ho;simp;omega)]
      exact zY ho
theorem bh (a b:Ty):zV (zd a b)=1+zV a+zV b:=by cases b;simp [zd,zV,zt,Ty.args];omega
set_option maxRecDepth 100000 in
theorem l3Hand_any (F:Nat->Prop) (hand:List Ty) (t:Ty) (hv tv:Value) (w:World) (hh:Rep F w (.sl 43 1 hand.length (qH hand)) hv) (ht:Rep F w (kz t) tv) (hl:Lim (hand.length+t.args.length)) :
 Calls Tryz.prog 90 #[hv,.agg #[tv]] w fun en w' =>
  ∃ a c,en=.returned (.slice a (hand++t.args).length c)/\Below w.heap.size w w'/\Rep (fun k=>F k\/w.heap.size<=k) w' (.sl 43 1 (hand++t.args).length (qH (hand++t.args))) (.slice a (hand++t.args).length c):=by
 have tH:=hl.le
 obtain ⟨io,Dc,g1⟩:=zO.ofRep hh (uZ _)
 have nz:=ht
 rw [qv] at nz
 obtain ⟨GH,AZ,g2⟩:=zO.ofRep nz (uZ _)
 obtain ⟨a1,c1,e1⟩:=g1.slice
 obtain ⟨a2,c2,e2⟩:=g2.slice
 subst e1;subst e2
 have DU:(w.alloc (.cells #[.slice a2 t.args.length c2] 43)).cell? ⟨w.heap.size,0,none⟩=some (.slice a2 t.args.length c2):=by simp
 go_enter Tryz.func90,Tryz.ntmps90
 go_wp2_with fail
 go_region_held3 (fun w'=>w'.cell? ⟨w.heap.size,0,none⟩=some (.slice a2 t.args.length c2))
  (first
   | exact (AM.cell (by simp)).trans DU
   | exact (tI.cell (by simp)).trans DU
   | go_keep)
  (first
   | (refine zE (by rfl) (.tmp 7) (.tmp 9) _ (by rfl) 43 (.agg #[.slice none 0 0]) 1 24 Tryz.underlying41 Tryz.infoS rfl (by omega) (.slice ax hand.length cx) hand.length io (by rfl) (by exact hox) (.slice a2 t.args.length c2) t.args.length GH (by rfl) (by exact (g2.alloc _).below tI) (by unfold maxLen;omega) (by omega) ?_;intro ay cy wy hoy nP hgy;obtain ⟨AM,hfy⟩:=vZ tI hfx nP hgy)
   | (refine zE (by rfl) (.tmp 5) (.tmp 6) _ (by rfl) 43 (.agg #[.slice none 0 0]) 1 24 Tryz.underlying41 Tryz.infoS rfl (by omega) (.slice (some ⟨w.heap.size+1,0,none⟩) 0 0) 0 [] (by rfl) (by exact (Own.litAt #[] 0 _ (by simp) (by decide) rfl).drew) (.slice a1 hand.length c1) hand.length io (by rfl) (by exact ((g1.alloc _).alloc _).drew) (by unfold maxLen;omega) (by omega) ?_;rw [Nat.zero_add,List.nil_append];intro ax cx wx hox tB hgx;obtain ⟨tI,hfx⟩:=vZ (((e_ _ _).alloc (ei _) _).drew) (wu (by simp)) tB hgx))
 go_wp2_with fail
 go_ret
 have fP:Below w.heap.size w (w.alloc (.cells #[.slice a2 t.args.length c2] 43)):=(e_ _ _).alloc (ei _) _
 have AL:Below w.heap.size w wy:=fP.trans (AM.mono (by simp))
 rw [List.length_append]
 refine ⟨ay,cy,rfl,AL,?_⟩
 rw [bL]
 exact hoy.rep (fun g h=>.inr (by have:=hfy g h;simp at this;omega)) (zX.append (Dc.below AL (fun _ h=>.inl h)) (AZ.below AL (fun _ h=>.inl h)))
end Go.Proofs.YtjggkhmojjaomaaGreatDoor

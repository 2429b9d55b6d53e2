/- Walks of functions that the statement reaches, and plain words. No conditions. -/
import Derived.Deep.DeepCutAuto
import Derived.Maps.Own
import Derived.Test.YtepgfdhkkjfmhabGreatDoorQ4
set_option linter.unusedVariables false
set_option linter.unusedSimpArgs false
set_option maxHeartbeats 8000000
namespace Go.Proofs.YtepgfdhkkjfmhabGreatDoor
open Go.RowKit
theorem decNat17 (n:Nat):dec n=Lib.decDigits n:=by
 induction n using Nat.strongRecOn with
 | _ n ih =>
   by_cases h:n<10
   ·rw [jk h,Lib.decDigits,dif_pos h];rfl
   ·rw [j3 h,Lib.decDigits,dif_neg h,ih (n / 10) (Nat.div_lt_self (by omega) (by omega))];rfl
theorem itoaNat17 (i:Nat):Lib.itoa (i:Int)=dec i:=by
 rw [decNat17,Lib.itoa,if_neg (by omega)];rfl
theorem yz (v:Nat) (hv:v<100000) (w:World) (hg:jA w) :
 Calls Tryz.prog 39 #[.int .i64 (v:Nat)] w fun en w'=>en=.returned (str (ku v))/\Below w.heap.size w w':=by
 have C1:Calls Tryz.prog 26 #[.int .i64 (v:Nat)] w fun en w'=>en=.returned (str (dec v))/\Below w.heap.size w w':=by
  have:=gN (v:Nat) w hg (by omega) (by omega)
  rwa [itoaNat17] at this
 have C1:=g_ C1
 have hl:=qN 4 v (bJ hv (by decide))
 obtain ⟨O,hO⟩:∃ O:Bs,O=[120]++dec v:=⟨_,rfl⟩
 have s1:=fun w0=>zN (P:=Tryz.prog) [120] (dec v) (by simp;omega) w0
 rw [<- hO] at s1
 have HO:=g_ (show ku v=O by rw [hO];rfl)
 clear hO hl
 generalize dec v=D at *
 go_enter Tryz.func39,Tryz.ntmps39
 go_wp2_with fail
 (with_reducible refine C1.out.mono ?_)
 rintro en w1 ⟨rfl,bU⟩
 go_wp2_with fail
 go_ret
 exact ⟨by rw [HO.out];rfl,bU⟩
theorem fitBs_atW {hand ts:List Ty} {ss:List Bd} (h:kN (zi hand ts) ss) {j:Nat} {a:Ty} {s:Bd} (ha:ts[j]? = some a) (hs:ss[j]? = some s):qb (hand++a.args) s:=by
 obtain ⟨g,h1,h2⟩:=xT _ _ h j s hs
 unfold zi at h1
 rw [List.getElem?_map,ha] at h1
 simp at h1
 subst h1
 exact h2
structure TmPre (F:Nat->Prop) (b:Bd) (H:List Ty) (bv lv:Value) (w:World):Prop where
 glob:jA w
 rb:Rep F w (jT b) bv
 rl:Rep F w (.sl 45 1 H.length (kI H)) lv
 fit:qb H b
 wf:wfB b
 small:∀ t∈H,zX t<=15
 room:H.length+15*zD b<=10000
def BodyTm (N:Nat):Prop:=∀ (F:Nat->Prop) (b:Bd) (H:List Ty) (bv lv:Value) (w:World),zD b<=N->TmPre F b H bv lv w ->
 Calls Tryz.prog 41 #[bv,lv] w fun en w'=>en=.returned (str (zG (tmB H b)))/\Below w.heap.size w w'
def KindTm (N:Nat):Prop:=∀ (F:Nat->Prop) (t:Ty) (b:Bd) (H:List Ty) (kv bv lv:Value) (w:World),zD b<=N->jA w->Rep F w (jd t) kv->Rep F w (jT b) bv->Rep F w (.sl 45 1 H.length (kI H)) lv ->
 qb (H++t.args) b->wfB b->(∀ t∈H,zX t<=15)->zX t<=15->H.length+15*(1+zD b)<=10000 ->
 Calls Tryz.prog 17 #[kv,bv,lv] w fun en w'=>en=.returned (str (zG (tmL H t b)))/\Below w.heap.size w w'
theorem oneK {F:Nat->Prop} {w:World}:∀ (ts:List Ty) (us:List Value),zC F w (kI ts) us->∀ u∈us,u.oneCell'=true
 | [],us,h,u,hu=>by rw [kI,zM] at h;subst h;simp at hu
 | t::ts,us,h,u,hu=>by
   rw [kI,zJ] at h
   obtain ⟨v,vs,rfl,h1,h2⟩:=h
   obtain ⟨b,_,rfl,_⟩:=za h1
   rcases List.mem_cons.1 hu with rfl | hu
   ·simp [Value.oneCell']
   ·exact oneK ts vs h2 u hu
theorem fitBs_take {H ts:List Ty} {ss:List Bd} (h:kN (zi H ts) ss) (k:Nat):kN (zi H (ts.take k)) (ss.take k):=by
 have hl:=jQ _ _ h
 rw [qx] at hl
 have e:zi H ts=zi H (ts.take k)++zi H (ts.drop k):=by unfold zi;rw [<- List.map_append,List.take_append_drop]
 rw [e] at h
 have h2:=(yZ _ _ _ h).1
 rw [qx,List.length_take] at h2
 have e2:ss.take (min k ts.length)=ss.take k:=by rw [hl,List.take_eq_take_iff];omega
 rw [e2] at h2
 exact h2
set_option maxRecDepth 100000 in
theorem we (N:Nat) (ih:BodyTm N):KindTm N:=by
 intro F t b H kv bv lv w bN hg hk hb hl hf hw hH tN cF
 have IH:=g_ ih;clear ih
 obtain ⟨kb,ks,rfl,hFk,eU,fm⟩:=za hk
 have c1:w.cell? ⟨kb,0,none⟩=some ks:=by simp [World.cell?,eU]
 have hkw:=zZ eU
 obtain ⟨ka,kc,rfl,fT,aW,bL⟩:=zF fm
 obtain ⟨la,lc,rfl,hln,aQ,_⟩:=zF hl
 have eH:=hU (kP tN) (qE tN)
 have hn:H.length<=9990:=by have:=zf b;omega
 obtain ⟨bb,ebv⟩:=ke hb
 subst ebv
 have HP:=g_ (hU hg (hU hk (hU hb (hU hl (hU hf (hU hw (hU hH (hU fm bL))))))))
 have HA:=g_ eH
 have hlen15:t.args.length<=15:=Nat.le_succ_of_le HA.out.2
 clear hg hk hb hl hf hw hH fm bL eU eH aW aQ
 go_enter Tryz.func17,Tryz.ntmps17
 go_wp2_with fail
 go_loopw [7,8,17] (fun hd tl i wr=>∃ k:Nat,k<=t.args.length/\i=.int .i64 k/\hd=str (qB H.length (t.args.take k))/\tl=str (jC k)/\Below w.heap.size w wr) (fun _ _ i _=>t.args.length-(intOf i).toNat)
 case atStart=>exact ⟨0,Nat.zero_le _,rfl,rfl,rfl,bZ _ _⟩
 case round =>
  rename_i wr
  obtain ⟨k,hk,rfl,rfl,rfl,af⟩:=hrel
  have HB:=g_ af;clear af
  by_cases bX:k<t.args.length
  ·have dc:(k:Int)<(t.args.length:Int):=by omega
   obtain ⟨b',o',u,d,e,_,cA,hd,hc,d6⟩:=HP.out.2.2.2.2.2.2.2.2 k bX
   subst e
   rw [vu,Option.map_eq_some_iff] at hd
   obtain ⟨a,ha,rfl⟩:=hd
   obtain ⟨ub,_,rfl,_⟩:=za d6
   have q0:=(HB.out.cell (p:=⟨b',o'+k,none⟩) cA).trans hc
   have dA:=HA.out.1 a (List.mem_of_getElem? ha)
   have C1:=yz (H.length+k) (by omega) wr (HP.out.1.below HB.out)
   rw [Int.natCast_add] at C1
   have C2:∀ w2,Below w.heap.size w w2->Calls Tryz.prog 40 #[.pointer (some ⟨ub,0,none⟩)] w2 fun en w'=>en=.returned (str (zl a))/\Below w2.heap.size w2 w':=fun w2 h=>textK_any 15 a dA (by omega) _ w2 _ (Rep.below (F':=F) h (fun _ h=>h) d6)
   have lenH:=jS (t.args.take k) H.length (fun x hx=>HA.out.1 x (List.mem_of_mem_take hx)) (by rw [List.length_take];omega)
   have lenX:=jq 15 a dA
   have lenN:=uU (v:=H.length+k) (by omega)
   have lenC:=qq k
   have bM:qB H.length (t.args.take (k+1))=qB H.length (t.args.take k)++([40,108,97,109,32]++ku (H.length+k)++[32]++zl a++[32]):=by
    have e:t.args.take (k+1)=t.args.take k++[a]:=by rw [List.take_add_one,ha];rfl
    rw [e,wl,List.length_take,Nat.min_eq_left (by omega)]
   have ej:=xv k
   rw [List.length_take] at lenH
   obtain ⟨NM,hNM⟩:=zzM (ku (H.length+k))
   obtain ⟨X,hX⟩:=zzM (zl a)
   obtain ⟨R,hR⟩:=zzM (qB H.length (t.args.take k))
   obtain ⟨C,hC⟩:=zzM (jC k)
   rw [<- hNM] at C1 lenN bM
   rw [<- hX] at C2 lenX bM
   rw [<- hR] at lenH bM ⊢
   rw [<- hC] at lenC ej ⊢
   obtain ⟨O1,h1⟩:=zzM ([40,108,97,109,32]++NM)
   obtain ⟨O2,h2⟩:=zzM (O1++[32])
   obtain ⟨O3,h3⟩:=zzM (O2++X)
   obtain ⟨O4,h4⟩:=zzM (O3++[32])
   obtain ⟨O5,h5⟩:=zzM (R++O4)
   obtain ⟨D1,g1⟩:=zzM (C++[41])
   have m1:O1.length=NM.length+5:=by rw [h1];simp
   have m2:O2.length=O1.length+1:=by rw [h2];simp
   have m3:O3.length=O2.length+X.length:=by rw [h3];simp
   have m4:O4.length=O3.length+1:=by rw [h4];simp
   have a1:=fun w0=>zN (P:=Tryz.prog) [40,108,97,109,32] NM (by simp;omega) w0
   have a2:=fun w0=>zN (P:=Tryz.prog) O1 [32] (by simp;omega) w0
   have a3:=fun w0=>zN (P:=Tryz.prog) O2 X (by omega) w0
   have a4:=fun w0=>zN (P:=Tryz.prog) O3 [32] (by simp;omega) w0
   have a5:=fun w0=>zN (P:=Tryz.prog) R O4 (by omega) w0
   have a6:=fun w0=>zN (P:=Tryz.prog) C [41] (by simp;omega) w0
   rw [<- h1] at a1;rw [<- h2] at a2;rw [<- h3] at a3;rw [<- h4] at a4;rw [<- h5] at a5;rw [<- g1] at a6
   have HS:=g_ (hU (show qB H.length (t.args.take (k+1))=O5 by rw [bM,h5,h4,h3,h2,h1]) (show jC (k+1)=D1 by rw [ej,g1]))
   have HC1:=g_ C1;have HC2:=g_ C2
   have mB:IntKind.i64.wrap ((H.length:Int)+(k:Int))=(H.length:Int)+(k:Int):=IntWalk.i64_in _ (by omega)
   clear bM ej h1 h2 h3 h4 h5 g1 m1 m2 m3 m4 lenX lenN lenC lenH hNM hX hR hC C1 C2 d6 ha hc
   go_wp2_with fail
   (with_reducible refine HC1.out.mono ?_)
   rintro en w4 ⟨rfl,bC⟩
   have cH:=g_ (zzT HB.out bC);clear bC
   clear mB
   go_wp2_with fail
   (with_reducible refine (HC2.out w4 cH.out).mono ?_)
   rintro en w5 ⟨rfl,bF⟩
   have dy:=g_ (zzT cH.out bF);clear bF
   go_wp2_with fail
   go_roundw
   case rel=>exact ⟨k+1,by omega,by go_num,by rw [HS.out.1],by rw [HS.out.2],dy.out⟩
   case measure=>simp [intOf];omega
  ·obtain rfl:k=t.args.length:=by omega
   rw [List.take_length]
   have HLR:Rep (fun _=>True) wr (.sl 45 1 H.length (kI H)) (.slice la H.length lc):=Rep.below HB.out (fun _ _=>trivial) HP.out.2.2.2.1
   have HKR:Rep (fun _=>True) wr (.sl 45 1 t.args.length (kI t.args)) (.slice ka t.args.length kc):=Rep.below HB.out (fun _ _=>trivial) HP.out.2.2.2.2.2.2.2.1
   have hbR:Rep (fun _=>True) wr (jT b) (.pointer (some ⟨bb,0,none⟩)):=Rep.below HB.out (fun _ _=>trivial) HP.out.2.2.1
   have q1:wr.cell? ⟨kb,0,none⟩=some (.slice ka t.args.length kc):=(HB.out.cell (p:=⟨kb,0,none⟩) hkw).trans c1
   obtain ⟨xs,rP,cm⟩:=yX.ofRep HLR (oneK H)
   obtain ⟨news,bw,be⟩:=zp.ofRep HKR (oneK t.args)
   have lenH:=jS t.args H.length HA.out.1 (by omega)
   have sq:=zf b
   have lenB:=vM b (H++t.args) HP.out.2.2.2.2.1 (fun x hx=>by
    rcases List.mem_append.1 hx with hx | hx
    ·exact HP.out.2.2.2.2.2.2.1 x hx
    ·exact HA.out.1 x hx) (by rw [List.length_append];omega)
   have lenC:=qq t.args.length
   have dK:zG (tmL H t b)=qB H.length t.args++zG (tmB (H++t.args) b)++jC t.args.length:=by unfold tmL;exact vT _ _ _
   have CB:∀ (wz:World) (v:Value),Below w.heap.size w wz->Rep (fun _=>True) wz (.sl 45 1 (H++t.args).length (kI (H++t.args))) v->Calls Tryz.prog 41 #[.pointer (some ⟨bb,0,none⟩),v] wz fun en w'=>en=.returned (str (zG (tmB (H++t.args) b)))/\Below wz.heap.size wz w':=fun wz v h hr =>
    IH.out _ b (H++t.args) _ v wz bN ⟨HP.out.1.below h,Rep.below (F':=fun _=>True) h (fun _ _=>trivial) HP.out.2.2.1,hr,HP.out.2.2.2.2.1,HP.out.2.2.2.2.2.1,(fun x hx=>by
     rcases List.mem_append.1 hx with hx | hx
     ·exact HP.out.2.2.2.2.2.2.1 x hx
     ·exact HA.out.1 x hx),by rw [List.length_append];omega⟩
   obtain ⟨R,hR⟩:=zzM (qB H.length t.args)
   obtain ⟨B,hB⟩:=zzM (zG (tmB (H++t.args) b))
   obtain ⟨C,hC⟩:=zzM (jC t.args.length)
   rw [<- hR,<- hB,<- hC] at dK
   rw [<- hR] at lenH ⊢
   rw [<- hB] at lenB CB
   rw [<- hC] at lenC ⊢
   obtain ⟨O1,h1⟩:=zzM (R++B)
   obtain ⟨O2,h2⟩:=zzM (O1++C)
   have m1:O1.length=R.length+B.length:=by rw [h1];simp
   have a1:=fun w0=>zN (P:=Tryz.prog) R B (by omega) w0
   have a2:=fun w0=>zN (P:=Tryz.prog) O1 C (by omega) w0
   rw [<- h1] at a1;rw [<- h2] at a2
   have HT:=g_ (show zG (tmL H t b)=O2 by rw [dK,h2,h1])
   have HCB:=g_ CB
   have HX:=g_ (hU rP (hU cm (hU bw be)))
   have SX:Hid (∀ w',Below wr.heap.size wr w'->w'.cell? ⟨kb,0,none⟩=some (.slice ka t.args.length kc)):=by
    show ∀ w',_->_
    intro w' bS
    exact (bS.cell (p:=⟨kb,0,none⟩) (h_ wr _ q1)).trans q1
   clear CB dK h1 h2 m1 lenH lenB lenC hR hB hC rP cm bw be sq HKR hbR
   by_cases h0:t.args.length=0
   ·have fW:t.args=[]:=List.eq_nil_of_length_eq_zero h0
    have nR:zp 1 (.slice ka 0 kc) 0 [] wr.drew:=by
     have h:=HX.out.2.2.2
     have rh:news=[]:=List.eq_nil_of_length_eq_zero (by have:=h.1;rw [h0] at this;simpa using this)
     rw [rh,h0] at h
     exact h.drew
    have hmxH:H.length<=maxLen:=by unfold maxLen;omega
    have hrH:Rep (fun _=>True) wr.drew (.sl 45 1 (H++t.args).length (kI (H++t.args))) (.slice la H.length H.length):=by
     rw [fW,List.append_nil]
     exact (Rep.cutSl HLR).drew
    have HH:=g_ (hU nR (hU hrH HB.out.drew))
    rw [h0] at q1 SX ⊢
    clear fW hrH h0 HLR
    go_upto_region 8 with (fail)
    refine wp_region_noPanic ?_
    refine kT (fun w'=>Below wr.heap.size wr w') (fun _=>false) (by kernel_rfl) ?_
    have bq:(fun w'=>Below wr.heap.size wr w') wr.drew:=Below.drew (bZ _ _)
    refine tk [0,1,2,3,4,5,6,7,8,9] bq ?_
    (intro d hd;simp [tkD] at hd;subst hd;simp only [tks,pQ,pZ,pS])
    iterate 10 (refine ⟨?_,?_,?_⟩;rotate_left;· (intro oi ho;simp at ho;subst ho;refine Or.inl ⟨by rfl,fun w' br=>?_⟩;have e0:=SX.out w' br;go_simp;try with_reducible rfl))
    (refine on 10 ?_;intro o ho K' hK;simp at ho;subst ho)
    refine xl (by rfl) _ _ _ (by rfl) 45 (.pointer none) 1 8 Tryz.underlying86 Tryz.infoK la H.length H.length (hG _) hmxH (by rfl) _ (by rfl) nR ?_
    (refine hK.out _ _ (fun _=>bq) ?_;clear hK K';try simp only [pQ,pN,pZ,pS])
    (refine on 11 ?_;intro o ho K' hK;simp at ho;subst ho;go_simp)
    (refine hK.out _ _ (fun _=>bq) ?_;clear hK K';try simp only [pQ,pN,pZ,pS])
    refine kL (by kernel_rfl) (NoPanic.normal ?_) _
    go_wp2_with fail
    (with_reducible refine (HCB.out wr.drew (.slice la H.length H.length) HH.out.2.2 HH.out.2.1).mono ?_)
    rintro en w8 ⟨rfl,cD⟩
    have ci:=g_ (HH.out.2.2.trans (cD.mono (HH.out.2.2).size));clear cD
    go_wp2_with fail
    go_ret
    exact ⟨by rw [HT.out];rfl,ci.out⟩
   ·have bO:0<t.args.length:=by omega
    have hmx:H.length+t.args.length<=maxLen:=by unfold maxLen;omega
    have dW:(H.length+t.args.length)*8<=140737488355328:=by omega
    clear h0 HLR
    go_upto_region 8 with (fail)
    refine wp_region_noPanic ?_
    refine kT (fun w'=>Below wr.heap.size wr w') (fun _=>false) (by kernel_rfl) ?_
    have bq:(fun w'=>Below wr.heap.size wr w') wr.drew:=Below.drew (bZ _ _)
    refine tk [0,1,2,3,4,5,6,7,8,9] bq ?_
    (intro d hd;simp [tkD] at hd;subst hd;simp only [tks,pQ,pZ,pS])
    iterate 10 (refine ⟨?_,?_,?_⟩;rotate_left;· (intro oi ho;simp at ho;subst ho;refine Or.inl ⟨by rfl,fun w' br=>?_⟩;have e0:=SX.out w' br;go_simp;try with_reducible rfl))
    (refine on 10 ?_;intro o ho K' hK;simp at ho;subst ho)
    refine xn (by rfl) _ _ _ (by rfl) 45 (.pointer none) 1 8 Tryz.underlying86 Tryz.infoK rfl (.slice la H.length H.length) H.length xs (by rfl) HX.out.2.1.drew _ t.args.length news (by rfl) HX.out.2.2.2.drew bO hmx dW ?_
    intro c7 w7 d8 bB
    (refine hK.out _ _ (fun _=>bq.trans bB) ?_;clear hK K';try simp only [pQ,pN,pZ,pS])
    (refine on 11 ?_;intro o ho K' hK;simp at ho;subst ho;go_simp)
    (refine hK.out _ _ (fun _=>bq.trans bB) ?_;clear hK K';try simp only [pQ,pN,pZ,pS])
    refine kL (by kernel_rfl) (NoPanic.normal ?_) _
    have hB7:Below w.heap.size w w7:=HB.out.trans ((bq.trans bB).mono HB.out.size)
    have hr7:Rep (fun _=>True) w7 (.sl 45 1 (H++t.args).length (kI (H++t.args))) (.slice (some ⟨wr.heap.size,0,none⟩) (H.length+t.args.length) c7):=by
     rw [List.length_append,xI]
     exact d8.rep (fun _ _=>trivial) (((Rep.keep fun i x _ hx=>⟨trivial,by rw [(bq.trans bB).block i (zZ hx)];exact hx⟩).2 _ _ HX.out.1).append ((Rep.keep fun i x _ hx=>⟨trivial,by rw [(bq.trans bB).block i (zZ hx)];exact hx⟩).2 _ _ HX.out.2.2.1))
    have HH:=g_ (hU hB7 hr7)
    clear d8 bB hB7 hr7
    go_wp2_with fail
    (with_reducible refine (HCB.out w7 _ HH.out.1 HH.out.2).mono ?_)
    rintro en w8 ⟨rfl,cD⟩
    have ci:=g_ (HH.out.1.trans (cD.mono (HH.out.1).size));clear cD
    go_wp2_with fail
    go_ret
    exact ⟨by rw [HT.out];rfl,ci.out⟩
set_option maxRecDepth 100000 in
theorem bodyTm_step (N:Nat) (hB:BodyTm N) (hK:KindTm N):BodyTm (N+1):=by
 intro F b H bv lv w bN hp
 have IB:=g_ hB;have IK:=g_ hK;clear hB hK
 cases b with
 | leaf c =>
   obtain ⟨a0,sl,rfl,_,cU,_⟩:=leaf_open hp.rb
   have r0:w.cell? ⟨a0,0,none⟩=some (str [c]):=by simp [World.cell?,cU]
   have CL:=g_ (wi F w c _ hp.rb)
   obtain ⟨la,lc,rfl,_,_,_⟩:=zF hp.rl
   clear cU hp
   go_enter Tryz.func41,Tryz.ntmps41
   go_wp2_with fail
   (with_reducible refine CL.out.mono ?_)
   rintro en w3 ⟨rfl,rfl⟩
   go_wp2_with fail
   go_ret
   exact ⟨by rw [tmB,wd_text];rfl,bZ _ _⟩
 | ask v ss y no =>
   obtain ⟨a0,sl,yv,nv,rfl,_,cU,tS,hy,cB⟩:=gr hp.rb
   obtain ⟨la,lc,rfl,_,_,fo⟩:=zF hp.rl
   obtain ⟨sa,sc,rfl,_,_,iV⟩:=zF tS
   obtain ⟨yb,rfl⟩:=ke hy
   obtain ⟨nb,rfl⟩:=ke cB
   have r1:w.cell? ⟨a0,1,none⟩=some (.int .i64 (v:Nat)):=by simp [World.cell?,cU]
   have r2:w.cell? ⟨a0,2,none⟩=some (.slice sa ss.length sc):=by simp [World.cell?,cU]
   have r3:w.cell? ⟨a0,3,none⟩=some (.pointer (some ⟨yb,0,none⟩)):=by simp [World.cell?,cU]
   have r4:w.cell? ⟨a0,4,none⟩=some (.pointer (some ⟨nb,0,none⟩)):=by simp [World.cell?,cU]
   have ha0:=zZ cU
   have CL:=g_ (gT F w v ss y no _ hp.rb)
   have me:=hp.fit
   have tF:=hp.wf
   have cF:=hp.room
   rw [qb] at me
   rw [wfB] at tF
   rw [zD] at cF bN
   obtain ⟨t,ht,f1,f2,f3⟩:=me
   have fI:=(List.getElem?_eq_some_iff.1 ht).1
   have dL:=hp.small t (List.mem_of_getElem? ht)
   have bP:=jQ _ _ f1
   rw [qx] at bP
   obtain ⟨hb,ho,hu,hd,e,_,cA,sV,hc,db⟩:=fo v fI
   subst e
   rw [vu,ht] at sV
   simp only [Option.map_some,Option.some.injEq] at sV
   subst sV
   obtain ⟨kb,ks,rfl,_,eU,fm⟩:=za db
   have hkw:=zZ eU
   have k1:w.cell? ⟨kb,0,none⟩=some ks:=by simp [World.cell?,eU]
   obtain ⟨ka,kc,rfl,_,_,iU⟩:=zF fm
   have CN:=g_ (yz v (by omega) w hp.glob)
   have hvlt:(v:Int)<(H.length:Int):=by omega
   have tS:=zf y
   have hsn:=zf no
   have HP:=g_ hp
   have HYN:=g_ (hU hy cB)
   have HS:=g_ iV
   have HK:=g_ iU
   have HQ:=g_ (hU ht (hU f1 (hU f2 (hU f3 (hU tF (hU dL (hU bP (hU hc (hU hkw k1)))))))))
   have eH:=qE dL
   have aJ:=bP
   clear hp fo iV iU tF ht f1 f2 f3 dL eU fm db hy cB cU hc
   go_enter Tryz.func41,Tryz.ntmps41
   go_wp2_with fail
   (with_reducible refine CL.out.mono ?_)
   rintro en w1 ⟨rfl,e⟩
   subst w1
   go_wp2_with fail
   (with_reducible refine CN.out.mono ?_)
   rintro en w2 ⟨rfl,bY⟩
   have z2:=bY.size
   have r2':=(bY.cell (p:=⟨a0,2,none⟩) ha0).trans r2
   have cX:=g_ bY
   clear bY CL CN
   go_wp2_with fail
   go_loopw [5,25] (fun ax i wr=>∃ k:Nat,k<=ss.length/\i=.int .i64 k/\ax=str (zG (kV H (.nm (ku v)) (t.args.take k) (ss.take k)))/\Below w.heap.size w wr) (fun _ i _=>ss.length-(intOf i).toNat)
   case atStart=>exact ⟨0,Nat.zero_le _,rfl,by rw [List.take_zero,List.take_zero,uW,pR],cX.out⟩
   case round =>
    rename_i wr
    obtain ⟨k,hk,rfl,rfl,af⟩:=hrel
    have HB:=g_ af;clear af r2'
    by_cases bX:k<ss.length
    ·have dc:(k:Int)<(ss.length:Int):=by omega
     have hltk:(k:Int)<(t.args.length:Int):=by omega
     have t8:k<t.args.length:=by omega
     obtain ⟨sb,so,su,sd,e,_,hsw,hsd,fV,rN⟩:=HS.out k bX
     subst e
     rw [encBs_at,Option.map_eq_some_iff] at hsd
     obtain ⟨s,hs,rfl⟩:=hsd
     obtain ⟨sp,rfl⟩:=ke rN
     obtain ⟨ab,ao,au,ad,e,_,sB,f9,f_,eg⟩:=HK.out k t8
     subst e
     rw [vu,Option.map_eq_some_iff] at f9
     obtain ⟨a,ha,rfl⟩:=f9
     obtain ⟨ap,_,rfl,_⟩:=za eg
     have q1:=(HB.out.cell (p:=⟨a0,1,none⟩) ha0).trans r1
     have q2:=(HB.out.cell (p:=⟨sb,so+k,none⟩) hsw).trans fV
     have q3:=(HB.out.cell (p:=⟨hb,ho+v,none⟩) cA).trans HQ.out.2.2.2.2.2.2.2.1
     have q4:=(HB.out.cell (p:=⟨kb,0,none⟩) HQ.out.2.2.2.2.2.2.2.2.1).trans HQ.out.2.2.2.2.2.2.2.2.2
     have q5:=(HB.out.cell (p:=⟨ab,ao+k,none⟩) sB).trans f_
     have hf:=fitBs_atW HQ.out.2.1 ha hs
     have mp:=yd (List.mem_of_getElem? hs)
     have dA:=kP HQ.out.2.2.2.2.2.1 a (List.mem_of_getElem? ha)
     have C1:=IK.out F a s H (.pointer (some ⟨ap,0,none⟩)) (.pointer (some ⟨sp,0,none⟩)) (.slice (some ⟨hb,ho,none⟩) H.length lc) wr (by omega) (HP.out.glob.below HB.out) (Rep.below HB.out (fun _ h=>h) eg) (Rep.below HB.out (fun _ h=>h) rN) (Rep.below HB.out (fun _ h=>h) HP.out.rl) hf (wfBs_at _ HQ.out.2.2.2.2.1.1 k s hs) HP.out.small dA (by omega)
     have lenA:=uP (ss.take k) H (t.args.take k) (.nm (ku v)) (fitBs_take HQ.out.2.1 k) HP.out.small (fun x hx=>kP HQ.out.2.2.2.2.2.1 x (List.mem_of_mem_take hx)) (by have:=qI ss k;omega)
     have dF:=qI ss k
     have lenN:=uU (v:=v) (by omega)
     rw [pR] at lenA
     have lenT:(zG (tmL H a s)).length<=1900*zD s+900:=by
      have h1:=vM s (H++a.args) hf (fun x hx=>by
       rcases List.mem_append.1 hx with hx | hx
       ·exact HP.out.small x hx
       ·exact kP dA x hx) (by have:=qE dA;rw [List.length_append];omega)
      have h3:=jS a.args H.length (kP dA) (by have:=qE dA;omega)
      have h4:=qE dA
      unfold tmL
      rw [vT,List.length_append,List.length_append,qq]
      omega
     have bM:zG (kV H (.nm (ku v)) (t.args.take (k+1)) (ss.take (k+1)))=[40,97,112,112,32]++zG (kV H (.nm (ku v)) (t.args.take k) (ss.take k))++[32]++zG (tmL H a s)++[41]:=by
      have e1:t.args.take (k+1)=t.args.take k++[a]:=by rw [List.take_add_one,ha];rfl
      have e2:ss.take (k+1)=ss.take k++[s]:=by rw [List.take_add_one,hs];rfl
      rw [e1,e2,ug _ _ _ _ _ _ (by rw [List.length_take,List.length_take];omega),apps_text]
     obtain ⟨A,hA⟩:=zzM (zG (kV H (.nm (ku v)) (t.args.take k) (ss.take k)))
     obtain ⟨T,hT⟩:=zzM (zG (tmL H a s))
     rw [<- hA] at lenA bM ⊢
     rw [<- hT] at lenT bM C1
     obtain ⟨O1,h1⟩:=zzM ([40,97,112,112,32]++A)
     obtain ⟨O2,h2⟩:=zzM (O1++[32])
     obtain ⟨O3,h3⟩:=zzM (O2++T)
     obtain ⟨O4,h4⟩:=zzM (O3++[41])
     have m1:O1.length=A.length+5:=by rw [h1];simp
     have m2:O2.length=O1.length+1:=by rw [h2];simp
     have m3:O3.length=O2.length+T.length:=by rw [h3];simp
     have a1:=fun w0=>zN (P:=Tryz.prog) [40,97,112,112,32] A (by simp;omega) w0
     have a2:=fun w0=>zN (P:=Tryz.prog) O1 [32] (by simp;omega) w0
     have a3:=fun w0=>zN (P:=Tryz.prog) O2 T (by omega) w0
     have a4:=fun w0=>zN (P:=Tryz.prog) O3 [41] (by simp;omega) w0
     rw [<- h1] at a1;rw [<- h2] at a2;rw [<- h3] at a3;rw [<- h4] at a4
     have mY:=g_ (show zG (kV H (.nm (ku v)) (t.args.take (k+1)) (ss.take (k+1)))=O4 by rw [bM,h4,h3,h2,h1])
     have HC1:=g_ C1
     clear C1 bM h1 h2 h3 h4 m1 m2 m3 lenA lenT lenN hA hT rN eg hs ha fV f_ hf mp dA dF
     go_wp2_with fail
     (with_reducible refine HC1.out.mono ?_)
     rintro en w4 ⟨rfl,bC⟩
     have cH:=g_ (zzT HB.out bC);clear bC
     go_wp2_with fail
     go_roundw
     case rel=>exact ⟨k+1,by omega,by go_num,by rw [mY.out],cH.out⟩
     case measure=>simp [intOf];omega
    ·obtain rfl:k=ss.length:=by omega
     have q3:=(HB.out.cell (p:=⟨a0,3,none⟩) ha0).trans r3
     have q4:=(HB.out.cell (p:=⟨a0,4,none⟩) ha0).trans r4
     have CY:∀ wz,Below w.heap.size w wz->Calls Tryz.prog 41 #[.pointer (some ⟨yb,0,none⟩),.slice (some ⟨hb,ho,none⟩) H.length lc] wz fun en w'=>en=.returned (str (zG (tmB H y)))/\Below wz.heap.size wz w':=fun wz h =>
      IB.out F y H _ _ wz (by omega) ⟨HP.out.glob.below h,Rep.below h (fun _ h=>h) HYN.out.1,Rep.below h (fun _ h=>h) HP.out.rl,HQ.out.2.2.1,HQ.out.2.2.2.2.1.2.1,HP.out.small,by omega⟩
     have CN2:∀ wz,Below w.heap.size w wz->Calls Tryz.prog 41 #[.pointer (some ⟨nb,0,none⟩),.slice (some ⟨hb,ho,none⟩) H.length lc] wz fun en w'=>en=.returned (str (zG (tmB H no)))/\Below wz.heap.size wz w':=fun wz h =>
      IB.out F no H _ _ wz (by omega) ⟨HP.out.glob.below h,Rep.below h (fun _ h=>h) HYN.out.2,Rep.below h (fun _ h=>h) HP.out.rl,HQ.out.2.2.2.1,HQ.out.2.2.2.2.1.2.2,HP.out.small,by omega⟩
     have lenA:=uP ss H t.args (.nm (ku v)) HQ.out.2.1 HP.out.small (kP HQ.out.2.2.2.2.2.1) (by omega)
     have lenY:=vM y H HQ.out.2.2.1 HP.out.small (by omega)
     have lenZ:=vM no H HQ.out.2.2.2.1 HP.out.small (by omega)
     have lenN:=uU (v:=v) (by omega)
     rw [pR] at lenA
     have dK:zG (tmB H (.ask v ss y no))=[40,105,102,32]++zG (kV H (.nm (ku v)) t.args ss)++[32]++zG (tmB H y)++[32]++zG (tmB H no)++[41]:=by
      have e:(H[v]?.map Ty.args).getD []=t.args:=by rw [HQ.out.1];rfl
      rw [tmB,ite_text,e]
     have dn:t.args.take ss.length=t.args:=List.take_of_length_le (by omega)
     rw [dn,List.take_length]
     obtain ⟨A,hA⟩:=zzM (zG (kV H (.nm (ku v)) t.args ss))
     obtain ⟨Y,hY⟩:=zzM (zG (tmB H y))
     obtain ⟨Z,hZ⟩:=zzM (zG (tmB H no))
     rw [<- hA,<- hY,<- hZ] at dK
     rw [<- hA] at lenA ⊢
     rw [<- hY] at lenY CY
     rw [<- hZ] at lenZ CN2
     obtain ⟨O1,h1⟩:=zzM ([40,105,102,32]++A)
     obtain ⟨O2,h2⟩:=zzM (O1++[32])
     obtain ⟨O3,h3⟩:=zzM (O2++Y)
     obtain ⟨O4,h4⟩:=zzM (O3++[32])
     obtain ⟨O5,h5⟩:=zzM (O4++Z)
     obtain ⟨O6,h6⟩:=zzM (O5++[41])
     have m1:O1.length=A.length+4:=by rw [h1];simp
     have m2:O2.length=O1.length+1:=by rw [h2];simp
     have m3:O3.length=O2.length+Y.length:=by rw [h3];simp
     have m4:O4.length=O3.length+1:=by rw [h4];simp
     have m5:O5.length=O4.length+Z.length:=by rw [h5];simp
     have a1:=fun w0=>zN (P:=Tryz.prog) [40,105,102,32] A (by simp;omega) w0
     have a2:=fun w0=>zN (P:=Tryz.prog) O1 [32] (by simp;omega) w0
     have a3:=fun w0=>zN (P:=Tryz.prog) O2 Y (by omega) w0
     have a4:=fun w0=>zN (P:=Tryz.prog) O3 [32] (by simp;omega) w0
     have a5:=fun w0=>zN (P:=Tryz.prog) O4 Z (by omega) w0
     have a6:=fun w0=>zN (P:=Tryz.prog) O5 [41] (by simp;omega) w0
     rw [<- h1] at a1;rw [<- h2] at a2;rw [<- h3] at a3;rw [<- h4] at a4;rw [<- h5] at a5;rw [<- h6] at a6
     have HT:=g_ (show zG (tmB H (.ask v ss y no))=O6 by rw [dK,h6,h5,h4,h3,h2,h1])
     have HCY:=g_ (CY wr.drew HB.out.drew);have HCN:=g_ CN2
     have SX:Hid (∀ w',Below wr.heap.size wr w'->w'.cell? ⟨a0,3,none⟩=some (.pointer (some ⟨yb,0,none⟩))/\w'.cell? ⟨a0,4,none⟩=some (.pointer (some ⟨nb,0,none⟩))):=by
      show ∀ w',_->_
      intro w' bS
      exact ⟨(bS.cell (h_ wr _ q3)).trans q3,(bS.cell (h_ wr _ q4)).trans q4⟩
     clear CY CN2 dK dn h1 h2 h3 h4 h5 h6 m1 m2 m3 m4 m5 lenA lenY lenZ lenN hA hY hZ r1 r2 r3 r4
     go_upto_region 9 with (fail)
     refine wp_region_noPanic ?_
     refine kT (fun w'=>Below wr.heap.size wr w') (fun _=>false) (by kernel_rfl) ?_
     have bq:(fun w'=>Below wr.heap.size wr w') wr.drew:=Below.drew (bZ _ _)
     refine tk [0,1,2,3,4,5,6,7,11,12,13,14,15] bq ?_
     (intro d hd;simp [tkD] at hd;subst hd;simp only [tks,pQ,pZ,pS])
     iterate 13 (refine ⟨?_,?_,?_⟩;rotate_left;· (intro oi ho;simp at ho;subst ho;refine Or.inl ⟨by rfl,fun w' br=>?_⟩;obtain ⟨e0,e1⟩:=SX.out w' br;go_simp;try with_reducible rfl))
     (refine on 8 ?_;intro o ho K' hK;simp at ho;subst ho;go_simp)
     go_at_call 41
     (with_reducible refine HCY.out.mono ?_)
     rintro mU w6 ⟨rfl,bW⟩
     have bi:Hid (Below wr.heap.size wr w6):=bq.trans bW
     have CN6:=g_ (HCN.out w6 (zzT HB.out bi.out))
     clear bW
     (refine hK.out _ _ (fun _=>bi.out) ?_;clear hK K';try simp only [pQ,pN,pZ,pS])
     have hS8:=bi.out
     refine tk [9,10] hS8 ?_
     (intro d hd;simp [tkD] at hd;subst hd;simp only [tks,pQ,pZ,pS])
     iterate 2 (refine ⟨?_,?_,?_⟩;rotate_left;· (intro oi ho;simp at ho;subst ho;refine Or.inl ⟨by rfl,fun w' br=>?_⟩;go_simp;try with_reducible rfl))
     (refine on 16 ?_;intro o ho K' hK;simp at ho;subst ho;go_simp)
     go_at_call 41
     (with_reducible refine CN6.out.mono ?_)
     rintro en7 w7 ⟨rfl,bB⟩
     have mz:Hid (Below wr.heap.size wr w7):=zzT bi.out bB
     clear bB
     (refine hK.out _ _ (fun _=>mz.out) ?_;clear hK K';try simp only [pQ,pN,pZ,pS])
     have hS16:=mz.out
     refine tk [17,18] hS16 ?_
     (intro d hd;simp [tkD] at hd;subst hd;simp only [tks,pQ,pZ,pS])
     iterate 2 (refine ⟨?_,?_,?_⟩;rotate_left;· (intro oi ho;simp at ho;subst ho;refine Or.inl ⟨by rfl,fun w' br=>?_⟩;go_simp;try with_reducible rfl))
     (refine on 19 ?_;intro o ho K' hK;simp at ho;subst ho;go_simp)
     (refine hK.out _ _ (fun _=>mz.out) ?_;clear hK K';try simp only [pQ,pN,pZ,pS])
     refine kL (by kernel_rfl) (NoPanic.normal ?_) _
     go_wp2_with fail
     go_ret
     exact ⟨by rw [HT.out];rfl,zzT HB.out mz.out⟩
theorem tm_any (N:Nat):BodyTm N:=by
 induction N with
 | zero=>exact fun F b H bv lv w h=>by have:=zf b;omega
 | succ N ih=>exact bodyTm_step N ih (we N ih)
theorem kindTm_any (N:Nat):KindTm N:=we N (tm_any N)
theorem name_no1 {s:Bs} (h:3<s.length):kh s=false:=by
 cases s with
 | nil=>simp at h
 | cons c r=>simp only [List.length_cons] at h;simp only [kh];rw [decide_eq_false (by omega)];rfl
theorem xG {s:Bs} (h:0<s.length) (hc:s[0].toNat<120\/122<s[0].toNat):kh s=false:=by
 cases s with
 | nil=>simp at h
 | cons c r =>
   simp only [List.getElem_cons_zero] at hc
   rw [Bool.eq_false_iff]
   intro hn
   simp only [kh,Bool.and_eq_true,decide_eq_true_eq,UInt8.le_iff_toNat_le] at hn
   have h1:=hn.1.2.1
   have h2:=hn.1.2.2
   have e1:(120:UInt8).toNat=120:=rfl
   have e2:(122:UInt8).toNat=122:=rfl
   omega
theorem xP {s:Bs} {k:Nat} (h1:1<=k) (h:k<s.length) (hc:s[k].toNat<48\/57<s[k].toNat):kh s=false:=by
 cases s with
 | nil=>simp at h
 | cons c r =>
   obtain ⟨k,rfl⟩:∃ j,k=j+1:=⟨k-1,by omega⟩
   simp only [List.getElem_cons_succ] at hc
   rw [Bool.eq_false_iff]
   intro hn
   simp only [kh,Bool.and_eq_true,List.all_eq_true] at hn
   have h2:=hn.2 _ (List.getElem_mem (by simpa using h))
   simp only [dig,Bool.and_eq_true,decide_eq_true_eq,UInt8.le_iff_toNat_le] at h2
   have e1:(48:UInt8).toNat=48:=rfl
   have e2:(57:UInt8).toNat=57:=rfl
   omega
theorem name_yes {s:Bs} (h:0<s.length) (h3:s.length<=3) (hc:120<=s[0].toNat/\s[0].toNat<=122) (hd:∀ k,1<=k->∀ (hk:k<s.length),48<=s[k].toNat/\s[k].toNat<=57):kh s=true:=by
 cases s with
 | nil=>simp at h
 | cons c r =>
   simp only [List.getElem_cons_zero] at hc
   simp only [List.length_cons] at h3
   have e1:(120:UInt8).toNat=120:=rfl
   have e2:(122:UInt8).toNat=122:=rfl
   have e3:(48:UInt8).toNat=48:=rfl
   have e4:(57:UInt8).toNat=57:=rfl
   simp only [kh,Bool.and_eq_true,decide_eq_true_eq,UInt8.le_iff_toNat_le,List.all_eq_true]
   refine ⟨⟨by omega,by omega,by omega⟩,fun x hx=>?_⟩
   obtain ⟨i,hi,rfl⟩:=List.getElem_of_mem hx
   have:=hd (i+1) (by omega) (by simpa using hi)
   simp only [List.getElem_cons_succ] at this
   simp only [dig,Bool.and_eq_true,decide_eq_true_eq,UInt8.le_iff_toNat_le]
   omega
def kY (d:Nat):Nat->Bs->Option (List Tm×Bs)
 | 0,l=>some ([],l)
 | n+1,l=>(cut [32] l).bind fun l1=>(kO d l1).bind fun t=>(kY d n t.2).map fun y=>(t.1::y.1,y.2)
theorem vN (d:Nat) (l:Bs):kY d 0 l=some ([],l):=rfl
theorem uB (d n:Nat) (l:Bs):kY d (n+1) l=(cut [32] l).bind fun l1=>(kO d l1).bind fun t=>(kY d n t.2).map fun y=>(t.1::y.1,y.2):=rfl
def gY (w:Bs):Nat:=if w=qH then 1 else if w=qo then 2 else if w=ifW then 3 else 0
def yh (w x:Bs) (k:Ty):List Tm->Tm
 | [t]=>.lam x k t
 | [m,n]=>.app m n
 | [l,m,n]=>.ite l m n
 | _=>.wd w
theorem rdTm_lam {d:Nat} {l l3 l4 l6:Bs} {k:Ty} (hw:zY l=qH) (h1:cut [32] (zV l)=some l3) (hn:kh (zY l3)=true) (h2:cut [32] (zV l3)=some l4) (hk:rdK 60 l4=some (k,l6)) :
 kO (d+1) (40::l)=(kY d 1 l6).bind fun y=>(cut [41] y.2).map fun r=>(yh qH (zY l3) k y.1,r):=by
 rw [qD,if_pos hw,h1]
 simp only [Option.bind_some]
 rw [if_pos hn,h2]
 simp only [Option.bind_some]
 rw [hk]
 simp only [Option.bind_some,kY]
 cases cut [32] l6 with
 | none=>rfl
 | some l7 =>
   simp only [Option.bind_some]
   cases kO d l7 with
   | none=>rfl
   | some t=>rfl
theorem rdTm_app {d:Nat} {l:Bs} (x:Bs) (k:Ty) (hw:zY l=qo):kO (d+1) (40::l)=(kY d 2 (zV l)).bind fun y=>(cut [41] y.2).map fun r=>(yh qo x k y.1,r):=by
 rw [qD,if_neg (by rw [hw];decide),if_pos hw]
 simp only [kY]
 cases cut [32] (zV l) with
 | none=>rfl
 | some l3 =>
   simp only [Option.bind_some]
   cases kO d l3 with
   | none=>rfl
   | some t =>
     simp only [Option.bind_some]
     cases cut [32] t.2 with
     | none=>rfl
     | some l4 =>
       simp only [Option.bind_some]
       cases kO d l4 with
       | none=>rfl
       | some t=>rfl
theorem rdTm_ite {d:Nat} {l:Bs} (x:Bs) (k:Ty) (hw:zY l=ifW):kO (d+1) (40::l)=(kY d 3 (zV l)).bind fun y=>(cut [41] y.2).map fun r=>(yh ifW x k y.1,r):=by
 rw [qD,if_neg (by rw [hw];decide),if_neg (by rw [hw];decide),if_pos hw]
 simp only [kY]
 cases cut [32] (zV l) with
 | none=>rfl
 | some l3 =>
   simp only [Option.bind_some]
   cases kO d l3 with
   | none=>rfl
   | some t =>
     simp only [Option.bind_some]
     cases cut [32] t.2 with
     | none=>rfl
     | some l4 =>
       simp only [Option.bind_some]
       cases kO d l4 with
       | none=>rfl
       | some t2 =>
         simp only [Option.bind_some]
         cases cut [32] t2.2 with
         | none=>rfl
         | some l5 =>
           simp only [Option.bind_some]
           cases kO d l5 with
           | none=>rfl
           | some t=>rfl
theorem rdTm_lamNo1 {d:Nat} {l:Bs} (hw:zY l=qH) (h1:cut [32] (zV l)=none):kO (d+1) (40::l)=none:=by
 rw [qD,if_pos hw,h1];rfl
theorem rdTm_lamNo2 {d:Nat} {l l3:Bs} (hw:zY l=qH) (h1:cut [32] (zV l)=some l3) (hn:kh (zY l3)=false):kO (d+1) (40::l)=none:=by
 rw [qD,if_pos hw,h1]
 simp only [Option.bind_some]
 rw [if_neg (by rw [hn];decide)]
theorem rdTm_lamNo3 {d:Nat} {l l3:Bs} (hw:zY l=qH) (h1:cut [32] (zV l)=some l3) (h2:cut [32] (zV l3)=none):kO (d+1) (40::l)=none:=by
 rw [qD,if_pos hw,h1]
 simp only [Option.bind_some]
 rw [h2];split <;> rfl
theorem rdTm_lamNo4 {d:Nat} {l l3 l4:Bs} (hw:zY l=qH) (h1:cut [32] (zV l)=some l3) (h2:cut [32] (zV l3)=some l4) (hk:rdK 60 l4=none):kO (d+1) (40::l)=none:=by
 rw [qD,if_pos hw,h1]
 simp only [Option.bind_some]
 rw [h2]
 simp only [Option.bind_some]
 rw [hk];split <;> rfl
theorem rdTm_none {d:Nat} {l:Bs} (hw:gY (zY l)=0):kO d (40::l)=none:=by
 cases d with
 | zero=>exact rdTm_zero
 | succ d =>
   unfold gY at hw
   rw [qD]
   split
   ·rename_i h;rw [if_pos h] at hw;simp at hw
   ·rename_i h
    rw [if_neg h] at hw
    split
    ·rename_i h2;rw [if_pos h2] at hw;simp at hw
    ·rename_i h2
     rw [if_neg h2] at hw
     split
     ·rename_i h3;rw [if_pos h3] at hw;simp at hw
     ·rfl
theorem rdParTm_step {d n:Nat} {l0 l l1 r:Bs} {m:Nat} {ts:List Tm} {t:Tm} (h:kY d m l0=(kY d (n+1) l).map fun y=>(ts++y.1,y.2)) (h1:cut [32] l=some l1) (h2:kO d l1=some (t,r)) :
 kY d m l0=(kY d n r).map fun y=>((ts++[t])++y.1,y.2):=by
 rw [h,uB,h1]
 simp only [Option.bind_some]
 rw [h2]
 simp only [Option.bind_some,Option.map_map]
 congr 1
 funext y
 simp
theorem wj {d n:Nat} {l0 l:Bs} {m:Nat} {ts:List Tm} (h:kY d m l0=(kY d (n+1) l).map fun y=>(ts++y.1,y.2)) (h1:cut [32] l=none):kY d m l0=none:=by
 rw [h,uB,h1];rfl
theorem wk {d n:Nat} {l0 l l1:Bs} {m:Nat} {ts:List Tm} (h:kY d m l0=(kY d (n+1) l).map fun y=>(ts++y.1,y.2)) (h1:cut [32] l=some l1) (h2:kO d l1=none):kY d m l0=none:=by
 rw [h,uB,h1]
 simp only [Option.bind_some]
 rw [h2];rfl
theorem rdTm_le:∀ {d:Nat} {l:Bs} {t:Tm} {r:Bs},kO d l=some (t,r)->r.length<l.length:=by
 intro d l t r h
 obtain ⟨e,ho,_⟩:=yp d l t r h
 rw [e,List.length_append]
 have:0<(zG t).length:=by
  cases t with
  | nm x =>
    have:zG (.nm x)=x:=by unfold zG;rw [zS,zB]
    rw [this]
    have:=(uJ ho).1
    exact List.length_pos_iff.2 this
  | wd x =>
    have:zG (.wd x)=x:=by unfold zG;rw [zS,zB]
    rw [this]
    have:=(xH ho).1
    exact List.length_pos_iff.2 this
  | lam x k t=>rw [js];simp
  | app m n=>rw [jb];simp
  | ite l m n=>rw [jt];simp
 omega
set_option maxRecDepth 20000 in
theorem gS (s:Bs) (w:World) (hl:Lim s.length) :
 Calls Tryz.prog 66 #[str s] w fun en w'=>en=.returned (.bool (kh s))/\w'=w:=by
 have ct:=hl.le
 by_cases h0:s.length=0
 ·obtain rfl:s=[]:=List.eq_nil_of_length_eq_zero h0
  clear h0
  go_enter Tryz.func66,Tryz.ntmps66
  go_wp2_with fail
  go_ret
  exact ⟨rfl,rfl⟩
 have hne:(s == [])=false:=by rw [beq_eq_false_iff_ne];rintro rfl;exact h0 rfl
 have dY:s.isEmpty=false:=by rw [List.isEmpty_eq_false_iff];rintro rfl;exact h0 rfl
 have bO:0<s.length:=by omega
 clear h0
 by_cases h3:3<s.length
 ·have HN:=g_ (name_no1 h3)
  go_enter Tryz.func66,Tryz.ntmps66
  go_wp2_with fail
  go_ret
  exact ⟨by rw [HN.out];rfl,rfl⟩
 have B:=vX bO
 by_cases hA:s[0].toNat<120
 ·have HN:=g_ (xG bO (.inl hA))
  have b1:((((⟨s.toArray⟩:ByteArray)[0]'(zy bO)).toNat:Int))<120:=by rw [B];omega
  clear B hA
  go_enter Tryz.func66,Tryz.ntmps66
  go_wp2_with fail
  go_ret
  exact ⟨by rw [HN.out];rfl,rfl⟩
 by_cases hB:122<s[0].toNat
 ·have HN:=g_ (xG bO (.inr hB))
  have b1:(122:Int)<((((⟨s.toArray⟩:ByteArray)[0]'(zy bO)).toNat:Int)):=by rw [B];omega
  have b2:¬ ((((⟨s.toArray⟩:ByteArray)[0]'(zy bO)).toNat:Int))<120:=by omega
  clear B hA hB
  go_enter Tryz.func66,Tryz.ntmps66
  go_wp2_with fail
  go_ret
  exact ⟨by rw [HN.out];rfl,rfl⟩
 have b1:¬ (122:Int)<((((⟨s.toArray⟩:ByteArray)[0]'(zy bO)).toNat:Int)):=by rw [B];omega
 have b2:¬ ((((⟨s.toArray⟩:ByteArray)[0]'(zy bO)).toNat:Int))<120:=by rw [B];omega
 have HA:=g_ (hU hA hB)
 clear B hA hB
 go_enter Tryz.func66,Tryz.ntmps66
 go_wp2_with fail
 clear b1 b2
 go_loop [3] (fun i=>∃ k:Nat,1<=k/\k<=s.length/\i=.int .i64 k/\∀ j,1<=j->j<k->∀ (hj:j<s.length),48<=s[j].toNat/\s[j].toNat<=57) (fun i=>s.length-(intOf i).toNat)
 case atStart=>exact ⟨1,hG _,bO,rfl,fun j h1 h2=>by omega⟩
 case round =>
  obtain ⟨k,fH,hk,rfl,ce⟩:=hrel
  have HR:=g_ ce;clear ce
  by_cases bX:k<s.length
  ·have B:=vX bX
   by_cases hA:s[k].toNat<48
   ·have HN:=g_ (xP fH bX (.inl hA))
    have b1:((((⟨s.toArray⟩:ByteArray)[k]'(zy bX)).toNat:Int))<48:=by rw [B];omega
    clear B hA
    go_wp2_with fail
    go_ret
    exact ⟨by rw [HN.out];rfl,rfl⟩
   by_cases hB:57<s[k].toNat
   ·have HN:=g_ (xP fH bX (.inr hB))
    have b1:(57:Int)<((((⟨s.toArray⟩:ByteArray)[k]'(zy bX)).toNat:Int)):=by rw [B];omega
    have b2:¬ ((((⟨s.toArray⟩:ByteArray)[k]'(zy bX)).toNat:Int))<48:=by omega
    clear B hA hB
    go_wp2_with fail
    go_ret
    exact ⟨by rw [HN.out];rfl,rfl⟩
   have b1:¬ (57:Int)<((((⟨s.toArray⟩:ByteArray)[k]'(zy bX)).toNat:Int)):=by rw [B];omega
   have b2:¬ ((((⟨s.toArray⟩:ByteArray)[k]'(zy bX)).toNat:Int))<48:=by rw [B];omega
   have HB:=g_ (hU hA hB)
   clear B hA hB
   go_wp2_with fail
   go_round
   case rel=>exact ⟨k+1,by omega,by omega,by go_num,fun j h1 h2 hj=>by
    by_cases e:j=k
    ·subst e;have:=HB.out;omega
    ·exact HR.out j h1 (by omega) hj⟩
   case measure=>simp [intOf];omega
  ·go_wp2_with fail
   go_ret
   have HA':=HA.out
   exact ⟨by rw [name_yes bO (by omega) (by omega) (fun j h1 hj=>HR.out j h1 (by omega) hj)];rfl,rfl⟩
def qU:Tm->DV
 | .nm x=>.ptr 131 [.val (str []),.val (str x),.val (.pointer none),.sl 50 1 0 []]
 | .wd w=>.ptr 131 [.val (str w),.val (str []),.val (.pointer none),.sl 50 1 0 []]
 | .lam x k t=>.ptr 131 [.val (str qH),.val (str x),jd k,.sl 50 1 1 [qU t]]
 | .app m n=>.ptr 131 [.val (str qo),.val (str []),.val (.pointer none),.sl 50 1 2 [qU m,qU n]]
 | .ite l m n=>.ptr 131 [.val (str ifW),.val (str []),.val (.pointer none),.sl 50 1 3 [qU l,qU m,qU n]]
theorem vA {F:Nat->Prop} {w:World} {t:Tm} {v:Value} (h:Rep F w (qU t) v):∃ a,v=.pointer (some ⟨a,0,none⟩):=by
 cases t <;> (rw [qU,qm] at h;obtain ⟨a,c,h,_⟩:=h;exact ⟨a,h⟩)
def qp (sc:Nat) (c:List Value) (e:TypeId) (w:World) (o:Option (Tm×Bs)) (en:Ending) (w':World):Prop :=
 ∃ v r',en=.returned v/\But (· = sc) w w'/\kQ sc c e r' w'/\(o=none->v=.pointer none)/\(∀ t rest,o=some (t,rest)->r'=rest/\Rep (w.heap.size<=·) w' (qU t) v)
theorem qp.no {sc:Nat} {c:List Value} {e:TypeId} {w:World} {r:Bs} {w':World} {o:Option (Tm×Bs)} (ho:o=none) (hb:But (· = sc) w w') (hs:kQ sc c e r w'):qp sc c e w o (.returned (.pointer none)) w' :=
 ⟨_,r,rfl,hb,hs,fun _=>rfl,fun _ _ h=>by rw [ho] at h;simp at h⟩
theorem qp.yes {sc:Nat} {c:List Value} {e:TypeId} {w:World} {r:Bs} {w':World} {o:Option (Tm×Bs)} {t:Tm} {v:Value} (ho:o=some (t,r)) (hb:But (· = sc) w w') (hs:kQ sc c e r w')
 (hv:Rep (w.heap.size<=·) w' (qU t) v):qp sc c e w o (.returned v) w' :=
 ⟨_,r,rfl,hb,hs,fun h=>by rw [ho] at h;simp at h,fun _ _ h=>by rw [ho] at h;simp at h;obtain ⟨rfl,rfl⟩:=h;exact ⟨rfl,hv⟩⟩
def xp (sc:Nat) (c:List Value) (e:TypeId) (d:Nat):Prop:=∀ (r:Bs) (w:World),kQ sc c e r w->Lim r.length ->
    Calls Tryz.prog 42 #[.pointer (some ⟨sc,0,none⟩),.int .i64 d] w (qp sc c e w (kO d r))
theorem zL {H:Type} {P:Program} (w:World) {ops:Array Oper} {rest:List Oper} {o:Oper} {a:Act} {Q:Exit->Act->World->Prop}
 (hg:o.guard=none) (m x v:Operand) (t:TypeId) (hop:o.op=Op.insert t m x v)
 (k e:TypeId) (K:Maps.Keyed P k) (ht:P.underlying t=some (.map k e)) (R:Value->Option (DataW H×List MemPlace)) (b n:Nat) (D:DataW H)
 (hm:a.eval m=.map (some b)) (bG:w.ownsMap P k R b n D) (hn:n<maxLen) (key val:Value) (kl:Lit) (hx:a.eval x=key) (hv:a.eval v=val) (ri:keyOf P k key=some kl)
 (d:DataW H) (ps:List MemPlace) (mx:R val=some (d,ps))
 (hK:∀ w',w'.ownsMap P k R b (n+1) (D.put kl d)->w.grownBy w' (some b)->wpList P ops Q rest (a.put o.dst undef) w') :
 wpList P ops Q (o::rest) a w:=by
 refine wpList_plain hg fun K' hK'=>?_
 obtain ⟨w',eM,r1,r2⟩:=bG.update K ht hn ri mx
 unfold Oper.wp
 simp [execOp,hop,hm,hx,hv,eM,Result.andThen]
 exact hK' _ _ (hK w' r1 r2)
theorem many_at (s:Bs) {H:Type}:((((DataW.map []:DataW H).put (.string qH) (.lit (.int .i64 1))).put (.string qo) (.lit (.int .i64 2))).put (.string ifW) (.lit (.int .i64 3))).atKey (.string s) (.lit (.int .i64 0))=.lit (.int .i64 (gY s:Nat)):=by
 have i0:Maps.IsMap (DataW.map []:DataW H):=Maps.isMap_empty
 unfold gY
 by_cases h3:s=ifW
 ·subst h3
  rw [Maps.atKey_put_same ((i0.put _ _).put _ _) (by simp [WideAt.IsKeyLit]),if_neg (by decide),if_neg (by decide),if_pos rfl];rfl
 rw [Maps.atKey_put_other (by simpa using h3)]
 by_cases h2:s=qo
 ·subst h2
  rw [Maps.atKey_put_same (i0.put _ _) (by simp [WideAt.IsKeyLit]),if_neg (by decide),if_pos rfl];rfl
 rw [Maps.atKey_put_other (by simpa using h2)]
 by_cases h1:s=qH
 ·subst h1
  rw [Maps.atKey_put_same i0 (by simp [WideAt.IsKeyLit]),if_pos rfl];rfl
 rw [Maps.atKey_put_other (by simpa using h1),if_neg h1,if_neg h2,if_neg h3]
 rfl
theorem Tryz.lawS:Maps.Keyed Tryz.prog 9:=Maps.string_keyed Tryz.underlying9
theorem Tryz.zeroI (w:World):(zeroValue 3).run Tryz.prog w=.ok (.int .i64 0) w:=by kernel_rfl
theorem yT {s:Bs} (h:Lim s.length):keyOf Tryz.prog 9 (str s)=some (.string s):=by
 have:=WideMaps.keyOf_string_mk (P:=Tryz.prog) Tryz.underlying9 (s:=⟨s.toArray⟩) (by rw [jv];have:=h.le;unfold maxLen;omega)
 simpa using this
def jP (ob:Nat) (wd nm:Bs) (kv slv:Value) (w:World):Prop:=w.heap[ob]? = some (.cells #[str wd,str nm,kv,slv] 131 (0,0))
theorem jP.cells {ob:Nat} {wd nm:Bs} {kv slv:Value} {w:World} (h:jP ob wd nm kv slv w):w.cell? ⟨ob,0,none⟩=some (str wd)/\w.cell? ⟨ob,1,none⟩=some (str nm)/\w.cell? ⟨ob,2,none⟩=some kv/\w.cell? ⟨ob,3,none⟩=some slv/\ob<w.heap.size/\(∀ o,w.frozen? ⟨ob,o,none⟩=false):=by
 have hl:=zZ h
 unfold jP at h
 exact ⟨by simp [World.cell?,h],by simp [World.cell?,h],by simp [World.cell?,h],by simp [World.cell?,h],hl,fun o=>by simp [World.frozen?,h]⟩
theorem jP.put1 {ob:Nat} {wd nm u:Bs} {kv slv:Value} {w:World} (h:jP ob wd nm kv slv w):jP ob wd u kv slv (w.setCell ⟨ob,1,none⟩ (str u)):=by
 unfold jP;rw [zh h];rfl
theorem jP.put2 {ob:Nat} {wd nm:Bs} {kv slv u:Value} {w:World} (h:jP ob wd nm kv slv w):jP ob wd nm u slv (w.setCell ⟨ob,2,none⟩ u):=by
 unfold jP;rw [zh h];rfl
theorem jP.put3 {ob:Nat} {wd nm:Bs} {kv slv u:Value} {w:World} (h:jP ob wd nm kv slv w):jP ob wd nm kv u (w.setCell ⟨ob,3,none⟩ u):=by
 unfold jP;rw [zh h];rfl
set_option maxRecDepth 20000 in
theorem term_word (sc:Nat) (c:List Value) (e:TypeId) (d:Nat) (hd:d<=1000) (r:Bs) (w:World) (hs:kQ sc c e r w) (hr:Lim r.length) (h1:yY [40] r) :
 Calls Tryz.prog 42 #[.pointer (some ⟨sc,0,none⟩),.int .i64 d] w (qp sc c e w (kO d r)):=by
 have hm:kO d r=if kh (zY r) then some (.nm (zY r),zV r) else if jp (zY r) then some (.wd (zY r),zV r) else none:=by rw [kO.eq_def];simp only [h1.out]
 have HM:=g_ hm;clear hm
 have dZ:Lim (zY r).length:=hr.mono (by have:=j6 r;omega)
 go_enter Tryz.func42,Tryz.ntmps42
 go_wp2_with fail
 refine (qd hs h1).mono ?_
 rintro en w1 ⟨rfl,bU,b8⟩
 go_wp2_with fail
 refine (v_ _ _ _ _ _ b8 hr).mono ?_
 rintro en w2 ⟨rfl,bY,cv⟩
 have hb:=bU.trans bY
 clear bU bY b8 hs h1
 obtain ⟨wd,my⟩:=zzM (zY r)
 rw [<- my] at HM dZ ⊢
 clear my
 go_wp2_with fail
 (with_reducible refine (gS wd w2 dZ).mono ?_)
 rintro en w3 ⟨rfl,e3⟩
 subst w3
 cases hn:kh wd with
 | true =>
   have HN:=g_ hn;clear hn
   go_wp2_with fail
   go_ret
   refine qp.yes (t:=.nm wd) (r:=zV r) (by rw [HM.out,if_pos HN.out]) (hb.alloc _) (cv.alloc _) ?_
   rw [qU,qm]
   exact ⟨_,_,rfl,hb.size,zO _ _,zJ.2 ⟨_,_,rfl,zj.2 rfl,zJ.2 ⟨_,_,rfl,zj.2 rfl,zJ.2 ⟨_,_,rfl,zj.2 rfl,zJ.2 ⟨_,_,rfl,kD.2 ⟨rfl,none,0,rfl,hG _,fun _=>rfl,.inl rfl⟩,zM.2 rfl⟩⟩⟩⟩⟩
 | false =>
   have HN:=g_ hn;clear hn
   have leaf:∀ x:UInt8,wd=[x]->jp [x]=true->∀ W,W=w2.alloc (.cells #[str [x],str [],.pointer none,.slice none 0 0] 131)->qp sc c e w (kO d r) (.returned (.pointer (some ⟨w2.heap.size,0,none⟩))) W:=by
    intro x hx mM W hW
    subst hW
    refine qp.yes (t:=.wd wd) (r:=zV r) (by rw [HM.out,if_neg (by rw [HN.out];decide),if_pos (by rw [hx];exact mM)]) (hb.alloc _) (cv.alloc _) ?_
    rw [qU,qm,hx]
    exact ⟨_,_,rfl,hb.size,zO _ _,zJ.2 ⟨_,_,rfl,zj.2 rfl,zJ.2 ⟨_,_,rfl,zj.2 rfl,zJ.2 ⟨_,_,rfl,zj.2 rfl,zJ.2 ⟨_,_,rfl,kD.2 ⟨rfl,none,0,rfl,hG _,fun _=>rfl,.inl rfl⟩,zM.2 rfl⟩⟩⟩⟩⟩
   have LEAF:=g_ leaf;clear leaf
   by_cases c1:wd=[116]
   ·have HC:=g_ c1
    rw [c1]
    clear c1 dZ
    go_wp2_with fail
    go_ret
    exact LEAF.out _ HC.out (by decide) _ rfl
   by_cases c2:wd=[102]
   ·have HC:=g_ c2
    rw [c2]
    clear c1 c2 dZ
    go_wp2_with fail
    go_ret
    exact LEAF.out _ HC.out (by decide) _ rfl
   by_cases c3:wd=[117]
   ·have HC:=g_ c3
    rw [c3]
    clear c1 c2 c3 dZ
    go_wp2_with fail
    go_ret
    exact LEAF.out _ HC.out (by decide) _ rfl
   have n1:(wd == [116])=false:=by rw [beq_eq_false_iff_ne];exact c1
   have n2:(wd == [102])=false:=by rw [beq_eq_false_iff_ne];exact c2
   have n3:(wd == [117])=false:=by rw [beq_eq_false_iff_ne];exact c3
   have HL:=g_ (show jp wd=false by simp [jp,n1,n2,n3])
   clear c1 c2 c3 dZ LEAF
   go_wp2_with fail
   go_ret
   exact qp.no (by rw [HM.out,if_neg (by rw [HN.out];decide),if_neg (by rw [HL.out];decide)]) hb cv
def vc (sc:Nat) (c:List Value) (e:TypeId) (ob d m:Nat) (wd nm:Bs) (kv:Value) (r0:Bs) (wz:World) (k:Nat) (wr:World):Prop :=
 ∃ ts lk slv vs,ts.length=k/\(kY d m r0=(kY d (m-k) lk).map fun y=>(ts++y.1,y.2))/\lk.length<=r0.length/\But (fun i=>i=sc\/i=ob) wz wr/\kQ sc c e lk wr/\jP ob wd nm kv slv wr /\
   Own wr 50 1 slv k vs/\(∀ g,slv.ownBlock=some g->wz.heap.size<=g)/\zC (fun b=>wz.heap.size<=b/\slv.ownBlock≠some b) wr (ts.map qU) vs
theorem Tryz.infoTm:(Tryz.prog.info? 50).map (fun i=>(i.zero,i.size,i.bytes))=some (some (.pointer none),1,8):=by kernel_rfl
theorem vc.next {sc:Nat} {c:List Value} {e:TypeId} {ob d m:Nat} {wd nm:Bs} {kv:Value} {r0:Bs} {wz:World} {k:Nat} {wr w2 w3:World} {ts:List Tm} {lk:Bs} {slv:Value} {vs:List Value} {t:Tm} {l1 rest:Bs} {vt:Value} {o:Obj} {a':Option Addr} {c':Nat}
 (bX:k<m) (hts:ts.length=k) (hp:kY d m r0=(kY d (m-k) lk).map fun y=>(ts++y.1,y.2)) (cN:lk.length<=r0.length) (hb:But (fun i=>i=sc\/i=ob) wz wr) (dE:jP ob wd nm kv slv wr)
 (bG:Own wr 50 1 slv k vs) (hZ:∀ g,slv.ownBlock=some g->wz.heap.size<=g) (hr:zC (fun b=>wz.heap.size<=b/\slv.ownBlock≠some b) wr (ts.map qU) vs)
 (hc:cut [32] lk=some l1) (ht:kO d l1=some (t,rest)) (bY:But (· = sc) wr w2) (cv:kQ sc c e rest w2) (hv:Rep (wr.heap.size<=·) w2 (qU t) vt)
 (b4:Own w3 50 1 (.slice a' (k+1) c') (k+1) (vs++[vt])) (bH:But (fun b=>slv.ownBlock=some b) (w2.alloc o) w3) (hg:∀ g,(Value.slice a' (k+1) c').ownBlock=some g->slv.ownBlock=some g\/g=(w2.alloc o).heap.size)
 (fV:sc<ob) (d7:ob<wz.heap.size):vc sc c e ob d m wd nm kv r0 wz (k+1) (w3.setCell ⟨ob,3,none⟩ (.slice a' (k+1) c')):=by
 have z0:=hb.size;have z2:=bY.size;have z3:=bH.size
 rw [zQ] at hg z3
 have keep:∀ i x,w2.heap[i]? = some x->slv.ownBlock≠some i->i≠ob->(w3.setCell ⟨ob,3,none⟩ (.slice a' (k+1) c')).heap[i]? = some x:=by
  intro i x hi hne ho
  rw [bQ _ _ _ _ (by simpa using ho),bH.block i (by rw [zQ];have:=zZ hi;omega) hne]
  exact zH hi
 have dc:∀ g,slv.ownBlock=some g->g<wr.heap.size:=fun g h=>bG.lt h
 have td:jP ob wd nm kv slv w2:=(bY.block ob (zZ dE) (by omega)).trans dE
 have fg:jP ob wd nm kv slv w3:=by
  unfold jP;rw [bH.block ob (by rw [zQ];have:=zZ td;omega) (fun e=>by have:=hZ ob e;omega)]
  exact zH td
 refine ⟨ts++[t],rest,_,vs++[vt],by simp [hts],?_,?_,?_,?_,fg.put3,?_,?_,?_⟩
 ·rw [show m-k=(m-(k+1))+1 from by omega] at hp
  exact rdParTm_step hp hc ht
 ·have k1:=congrArg List.length (qR hc)
  have k2:=rdTm_le ht
  simp only [List.length_append,List.length_cons,List.length_nil] at k1
  omega
 ·refine ((hb.trans (bY.weak fun i _ e=>.inl e)).trans' ((But.refl (fun b=>slv.ownBlock=some b) w2).alloc o |>.trans bH) fun i hi e=>?_).setCell (p:=⟨ob,3,none⟩) (.inl (.inr rfl)) _
  have:=hZ i e;omega
 ·exact keep sc _ cv (fun e=>by have:=hZ sc e;omega) (by omega)
 ·refine b4.keep fun g x b5 dC=>?_
  rw [bQ _ _ _ _ (by
   rcases hg g b5 with h | h
   ·have:=hZ g h;simp;omega
   ·simp;omega)]
  exact dC
 ·intro g h
  rcases hg g h with h | h
  ·exact hZ g h
  ·omega
 ·rw [List.map_append]
  refine zC.append ?_ (zC.one ?_)
  ·refine (Rep.keep fun i x hi dC=>⟨⟨hi.1,fun e=>?_⟩,?_⟩).2 _ _ hr
   ·have hi1:=hi.1
    exact keep i x (by rw [bY.block i (zZ dC) (by omega)];exact dC) hi.2 (by omega)
   ·rcases hg i e with h | h
    ·exact hi.2 h
    ·have:=zZ dC;omega
  ·refine (Rep.keep fun i x hi dC=>⟨⟨by have:=hi;omega,fun e=>?_⟩,?_⟩).1 _ _ hv
   ·exact keep i x dC (fun e=>by have:=dc i e;have:=hi;omega) (by have:=hi;omega)
   ·rcases hg i e with h | h
    ·have:=dc i h;have:=hi;omega
    ·have:=zZ dC;omega
theorem enc_mk {F:Nat->Prop} {w:World} {ob n:Nat} {wd nm:Bs} {kv slv:Value} {kd:DV} {ds:List DV} (hF:F ob) (h:jP ob wd nm kv slv w) (hk:Rep F w kd kv) (hs:Rep F w (.sl 50 1 n ds) slv) :
 Rep F w (.ptr 131 [.val (str wd),.val (str nm),kd,.sl 50 1 n ds]) (.pointer (some ⟨ob,0,none⟩)):=by
 rw [qm]
 exact ⟨_,_,rfl,hF,h,zJ.2 ⟨_,_,rfl,zj.2 rfl,zJ.2 ⟨_,_,rfl,zj.2 rfl,zJ.2 ⟨_,_,rfl,hk,zJ.2 ⟨_,_,rfl,hs,zM.2 rfl⟩⟩⟩⟩⟩
theorem enc_lam (x:Bs) (k:Ty) (ts:List Tm) (h:ts.length=1):qU (yh qH x k ts)=.ptr 131 [.val (str qH),.val (str x),jd k,.sl 50 1 ts.length (ts.map qU)]:=by
 match ts,h with
 | [t],_=>rw [yh,qU];rfl
theorem enc_app (k:Ty) (ts:List Tm) (h:ts.length=2):qU (yh qo [] k ts)=.ptr 131 [.val (str qo),.val (str []),.val (.pointer none),.sl 50 1 ts.length (ts.map qU)]:=by
 match ts,h with
 | [t,u],_=>rw [yh,qU];rfl
theorem enc_ite (k:Ty) (ts:List Tm) (h:ts.length=3):qU (yh ifW [] k ts)=.ptr 131 [.val (str ifW),.val (str []),.val (.pointer none),.sl 50 1 ts.length (ts.map qU)]:=by
 match ts,h with
 | [t,u,v],_=>rw [yh,qU];rfl
set_option maxRecDepth 20000 in
theorem term_open (sc:Nat) (c:List Value) (e:TypeId) (d0:Nat) (hd:d0<=1000) (ih:∀ d',d0=d'+1->xp sc c e d') (r r1:Bs) (w:World) (hs:kQ sc c e r w) (hr:Lim r.length) (h1:Cut [40] r r1) :
 Calls Tryz.prog 42 #[.pointer (some ⟨sc,0,none⟩),.int .i64 d0] w (qp sc c e w (kO d0 r)):=by
 have er:r=40::r1:=by have:=qR h1.out;simpa using this
 have HR:=g_ er;clear er
 have IH:=g_ ih;clear ih
 have cW:=hr.mono h1.le
 have dZ:Lim (zY r1).length:=cW.mono (by have:=j6 r1;omega)
 have mB:Lim (zV r1).length:=cW.mono (by have:=j6 r1;omega)
 have hmm:=@run_makeMap Tryz.prog
 go_enter Tryz.func42,Tryz.ntmps42
 go_wp2_with fail
 refine (qX hs h1).mono ?_
 rintro en w1 ⟨rfl,bU,b8⟩
 go_wp2_with fail
 refine (v_ _ _ _ _ _ b8 cW).mono ?_
 rintro en w2 ⟨rfl,bY,cv⟩
 have hb:=bU.trans bY
 clear bU bY b8 h1
 obtain ⟨wd,my⟩:=zzM (zY r1)
 rw [<- my] at dZ ⊢
 have HW:=g_ my.symm;clear my
 have kS:=g_ (yT dZ)
 have k1:keyOf Tryz.prog 9 (str qH)=some (.string qH):=yT (s:=qH) (by unfold Lim;decide)
 have k2:keyOf Tryz.prog 9 (str qo)=some (.string qo):=yT (s:=qo) (by unfold Lim;decide)
 have k3:keyOf Tryz.prog 9 (str ifW)=some (.string ifW):=yT (s:=ifW) (by unfold Lim;decide)
 have K1:=g_ (hU k1 (hU k2 k3));clear k1 k2 k3 dZ
 have bN:=hb.size
 have made:((w2.alloc (.cells #[str wd,str [],.pointer none,.slice none 0 0] 131)).alloc (.map #[] 0)).ownsMap Tryz.prog 9 (plainElem (H:=Unit) Tryz.prog 3) (w2.heap.size+1) 0 (.map []):=by
  have:=World.ownsMap_made (H:=Unit) (w2.alloc (.cells #[str wd,str [],.pointer none,.slice none 0 0] 131)) Tryz.prog 9 (plainElem (H:=Unit) Tryz.prog 3)
  rwa [zQ] at this
 have MADE:=g_ made;clear made
 go_wp2_with (refine zL (H:=Unit) _ rfl _ _ _ 132 rfl 9 3 Tryz.lawS Tryz.underlying132 (plainElem Tryz.prog 3) (w2.heap.size+1) 0 _ rfl MADE.out (by unfold maxLen;omega) _ _ _ rfl rfl K1.out.1 _ [] (plainElem_int Tryz.underlying3 (by decide)) ?_)
 intro wa hA gA
 go_wp2_with (refine zL (H:=Unit) _ rfl _ _ _ 132 rfl 9 3 Tryz.lawS Tryz.underlying132 (plainElem Tryz.prog 3) (w2.heap.size+1) 1 _ rfl hA (by unfold maxLen;omega) _ _ _ rfl rfl K1.out.2.1 _ [] (plainElem_int Tryz.underlying3 (by decide)) ?_)
 intro wb hB gB
 go_wp2_with (refine zL (H:=Unit) _ rfl _ _ _ 132 rfl 9 3 Tryz.lawS Tryz.underlying132 (plainElem Tryz.prog 3) (w2.heap.size+1) 2 _ rfl hB (by unfold maxLen;omega) _ _ _ rfl rfl K1.out.2.2 _ [] (plainElem_int Tryz.underlying3 (by decide)) ?_)
 intro w3 hC gC
 have bH:But (fun i=>i=w2.heap.size+1) ((w2.alloc (.cells #[str wd,str [],.pointer none,.slice none 0 0] 131)).alloc (.map #[] 0)) w3 :=
  ((But.ofGrown gA).weak (m':=fun i=>i=w2.heap.size+1) (fun i _ h=>by simpa using h)).trans (((But.ofGrown gB).weak (m':=fun i=>i=w2.heap.size+1) (fun i _ h=>by simpa using h)).trans ((But.ofGrown gC).weak (m':=fun i=>i=w2.heap.size+1) (fun i _ h=>by simpa using h)))
 obtain ⟨M,eM,bL,_⟩:=hC.lookup_int Tryz.lawS Tryz.underlying132 Tryz.underlying3 (Tryz.zeroI _) kS.out
 rw [many_at] at bL
 obtain rfl:(gY wd:Int)=M:=by simpa using bL
 have z3:=bH.size
 simp only [zQ] at z3
 have al:But (· = sc) w w3:=hb.trans' (m':=fun i=>i=w2.heap.size+1) (((But.refl (fun i=>i=w2.heap.size+1) w2).alloc _ |>.alloc _).trans bH) (fun i hi e=>by omega)
 have aG:∀ i x,w2.heap[i]? = some x->w3.heap[i]? = some x:=fun i x h=>by
  have hl:=zZ h
  rw [bH.block i (by simp;omega) (by omega)];exact zH (zH h)
 have cc:kQ sc c e (zV r1) w3:=aG _ _ cv
 have fg:jP w2.heap.size wd [] (.pointer none) (.slice none 0 0) w3:=by
  unfold jP
  rw [bH.block w2.heap.size (by simp;omega) (by omega)]
  exact zH (zO _ _)
 have mu:w.heap.size<=w2.heap.size:=bN
 have hscw:=ju hs
 clear hA hB hC gA gB gC bH bL MADE K1 kS cv aG
 obtain ⟨q0,_,_,_,q4,_⟩:=fg.cells
 obtain ⟨M,hM⟩:=zzM (gY wd)
 rw [<- hM] at eM
 have HMW:=g_ hM;clear hM
 generalize hO:w2.heap.size=ob at *
 clear hO z3
 have eP:=g_ (hU cc (hU fg al))
 clear cc fg al hb
 by_cases t7:M=0
 ·have HX:=g_ (show kO d0 r=none by rw [HR.out];exact rdTm_none (by rw [HW.out,<- HMW.out,t7]))
  subst t7
  go_wp2_with fail
  go_ret
  exact qp.no HX.out eP.out.2.2 eP.out.1
 have m0:((M:Int) == 0)=false:=by rw [beq_eq_false_iff_ne];omega
 by_cases eV:d0=0
 ·have HX:=g_ (show kO d0 r=none by rw [HR.out,eV];exact rdTm_zero)
  subst eV
  go_wp2_with fail
  go_ret
  exact qp.no HX.out eP.out.2.2 eP.out.1
 obtain ⟨d,rfl⟩:∃ d',d0=d'+1:=⟨d0-1,by omega⟩
 have ecast:((d+1:Nat):Int)=(d:Int)+1:=by omega
 rw [ecast]
 clear ecast
 have d00:((d:Int)+1 == 0)=false:=by rw [beq_eq_false_iff_ne];omega
 have IH':=g_ (IH.out d rfl)
 clear IH eV
 by_cases cR:wd=qH
 ·have hq:(wd == [108,97,109])=true:=by rw [beq_iff_eq];exact cR
  have HL:=g_ cR;clear cR
  go_wp2_with fail
  rcases zq [32] (zV r1) with h4 | ⟨l3,h4⟩
  ·refine (qd eP.out.1 h4).mono ?_
   rintro en w4 ⟨rfl,bC,b7⟩
   go_wp2_with fail
   go_ret
   exact qp.no (by rw [HR.out];exact rdTm_lamNo1 (by rw [HW.out,HL.out]) h4.out) (eP.out.2.2.trans bC) b7
  refine (qX eP.out.1 h4).mono ?_
  rintro en w4 ⟨rfl,bC,b7⟩
  have hl3:=mB.mono h4.le
  clear q0 q4 eM
  go_wp2_with fail
  refine (v_ _ _ _ _ _ b7 hl3).mono ?_
  rintro en w5 ⟨rfl,bF,dM⟩
  have hbb:=bC.trans bF
  have dU:jP ob wd [] (.pointer none) (.slice none 0 0) w5:=(hbb.block ob (zZ eP.out.2.1) (by omega)).trans eP.out.2.1
  have iK:=eP.out.2.2.trans hbb
  obtain ⟨nm,nw⟩:=zzM (zY l3)
  have aK:Lim (zY l3).length:=hl3.mono (by have:=j6 l3;omega)
  have hl3r:Lim (zV l3).length:=hl3.mono (by have:=j6 l3;omega)
  rw [<- nw] at aK ⊢
  have HNM:=g_ nw.symm;clear nw
  obtain ⟨_,q1,_,_,q4,q5⟩:=dU.cells
  have q6:=q5 1
  have d9:=dU.put1 (u:=nm)
  have iZ:=iK.setCell (p:=⟨ob,1,none⟩) (.inr (by simpa using mu)) (str nm)
  have dr:kQ sc c e (zV l3) (w5.setCell ⟨ob,1,none⟩ (str nm)):=by unfold kQ;rw [bQ _ _ _ _ (by simp;omega)];exact dM
  have ec:=g_ (hU dr (hU d9 iZ))
  clear q5 b7 dM bC bF hbb iK dU dr d9 iZ
  go_wp2_with fail
  obtain ⟨w6,hw6⟩:=zzM (w5.setCell ⟨ob,1,none⟩ (str nm))
  rw [<- hw6] at ec ⊢
  clear hw6 q1 q4 q6
  (with_reducible refine (gS nm w6 aK).mono ?_)
  rintro en w7 ⟨rfl,e7⟩
  subst w7
  cases hn:kh nm with
  | false =>
    have HN:=g_ hn;clear hn
    go_wp2_with fail
    go_ret
    exact qp.no (by rw [HR.out];exact rdTm_lamNo2 (by rw [HW.out,HL.out]) h4.out (by rw [HNM.out,HN.out])) ec.out.2.2 ec.out.1
  | true =>
    have HN:=g_ hn;clear hn
    go_wp2_with fail
    rcases zq [32] (zV l3) with h5 | ⟨l4,h5⟩
    ·refine (qd ec.out.1 h5).mono ?_
     rintro en w7 ⟨rfl,bB,eF⟩
     go_wp2_with fail
     go_ret
     exact qp.no (by rw [HR.out];exact rdTm_lamNo3 (by rw [HW.out,HL.out]) h4.out h5.out) (ec.out.2.2.trans bB) eF
    refine (qX ec.out.1 h5).mono ?_
    rintro en w7 ⟨rfl,bB,eF⟩
    have dX:=hl3r.mono h5.le
    go_wp2_with fail
    refine (kind_any _ _ _ 60 (by omega) l4 w7 eF dX).mono ?_
    rintro en w8 ⟨kv,r8,rfl,cD,hs8,hn8,hy8⟩
    have m_:=bB.trans cD
    have mc:jP ob wd nm (.pointer none) (.slice none 0 0) w8:=(m_.block ob (zZ ec.out.2.1) (by omega)).trans ec.out.2.1
    have sH:=ec.out.2.2.trans m_
    have z7:=ec.out.2.2.size
    have z78:=bB.size
    have hl7:ob<w7.heap.size:=by have:=zZ ec.out.2.1;omega
    obtain ⟨_,_,q2,_,q4,q5⟩:=mc.cells
    have q6:=q5 2
    have mh:=mc.put2 (u:=kv)
    have nQ:=sH.setCell (p:=⟨ob,2,none⟩) (.inr (by simpa using mu)) kv
    have hs9:kQ sc c e r8 (w8.setCell ⟨ob,2,none⟩ kv):=by unfold kQ;rw [bQ _ _ _ _ (by simp;omega)];exact hs8
    rcases hk:rdK 60 l4 with _ | ⟨kk,l6⟩
    ·obtain rfl:=hn8 hk
     have HK:=g_ hk;clear hk hn8 hy8
     have mX:=g_ (hU hs9 (hU mh nQ))
     clear hs9 mh nQ sH mc m_ cD hs8 bB eF q5
     go_wp2_with fail
     go_ret
     exact qp.no (by rw [HR.out];exact rdTm_lamNo4 (by rw [HW.out,HL.out]) h4.out (by exact h5.out) HK.out) mX.out.2.2 mX.out.1
    obtain ⟨rfl,rt⟩:=hy8 _ _ hk
    have nB:Rep (fun b=>w.heap.size<=b/\b≠ob/\b≠sc) (w8.setCell ⟨ob,2,none⟩ kv) (jd kk) kv:=(Rep.keep fun b o h ho=>⟨by have:=h;omega,by rw [bQ _ _ _ _ (by have:=h;simp;omega)];exact ho⟩).1 _ _ rt
    obtain ⟨kb,rfl⟩:∃ ba,kv=.pointer (some ⟨ba,0,none⟩):=by obtain ⟨ba,_,h,_⟩:=za rt;exact ⟨ba,h⟩
    have hM1:M=1:=by rw [HMW.out,HL.out];decide
    have fU:=dX.mono (rdK_le _ hk).1
    have HM:kO (d+1) r=(kY d M r8).bind fun y=>(cut [41] y.2).map fun r'=>(yh wd nm kk y.1,r'):=by rw [HR.out,rdTm_lam (by rw [HW.out,HL.out]) h4.out (by rw [HNM.out];exact HN.out) h5.out hk,hM1,HL.out,HNM.out]
    have HE:∀ ts:List Tm,ts.length=M->qU (yh wd nm kk ts)=.ptr 131 [.val (str wd),.val (str nm),jd kk,.sl 50 1 ts.length (ts.map qU)]:=fun ts h=>by rw [HL.out];exact enc_lam nm kk ts (by rw [h,hM1])
    have mX:=g_ (hU hs9 (hU mh (hU nQ (hU nB (hU HE HM)))))
    clear hs9 mh nQ sH mc m_ cD hs8 bB eF q5 rt hk hn8 hy8 HE HM nB
    have HM1:=g_ hM1;clear hM1
    have M20:M<=3:=by have:=HM1.out;omega
    go_wp2_with fail
    obtain ⟨wz,rB⟩:=zzM (w8.setCell ⟨ob,2,none⟩ (.pointer (some ⟨kb,0,none⟩)))
    rw [<- rB] at mX ⊢
    clear rB q2 q4 q6
    obtain ⟨bN,cz,m9,nB,HE,HM⟩:=mX.out
    obtain ⟨r0,fx⟩:=zzM (r8)
    rw [<- fx] at fU bN HM
    clear fx mX ec eP
    obtain ⟨kv,sw⟩:=zzM (Value.pointer (some ⟨kb,0,none⟩))
    rw [<- sw] at cz nB
    clear sw
    clear hmm
    have fk:sc<ob:=by omega
    have rq:ob<wz.heap.size:=zZ cz
    have bT:vc sc c e ob d M wd nm kv r0 wz 0 wz:=⟨[],r0,.slice none 0 0,[],rfl,by simp,hG _,But.refl _ _,bN,cz,World.ownsRow_nil _ _ _ _,fun g h=>by simp [Value.ownBlock] at h,zM.2 rfl⟩
    have HZ:=g_ (hU m9 (hU nB (hU HE HM)))
    clear m9 bN cz nB HE HM
    go_loopw [84] (fun i wr=>∃ k:Nat,k<=M/\i=.int .i64 k/\vc sc c e ob d M wd nm kv r0 wz k wr) (fun i _=>M-(intOf i).toNat)
    case atStart=>exact ⟨0,Nat.zero_le _,rfl,bT⟩
    case round =>
     clear bT
     rename_i wr
     obtain ⟨k,hk,rfl,ts,lk,slv,vs,hts,hp,cN,hb,dp,dE,bG,hZ,dt⟩:=hrel
     have fS:=fU.mono cN
     have cA:But (· = sc) w wr:=HZ.out.1.trans' hb (fun i hi e=>by rcases e with e | e;exact e;omega)
     have HP:=g_ (hU hp (hU hb (hU bG (hU hZ (hU dt (hU hts cN))))))
     clear hp hb bG hZ dt hts cN
     have ch:=g_ cA;clear cA
     by_cases bX:k<M
     ·have rr:(k:Int)<(M:Int):=by omega
      have aX:M-k=(M-k-1)+1:=by omega
      have iz:=g_ aX;clear aX
      go_wp2_with fail
      rcases zq [32] lk with h4 | ⟨l4,h4⟩
      ·refine (qd dp h4).mono ?_
       rintro en w4 ⟨rfl,bC,b7⟩
       go_wp2_with fail
       go_ret
       refine qp.no ?_ (ch.out.trans bC) b7
       have hp:=HP.out.1
       rw [iz.out] at hp
       rw [HZ.out.2.2.2,wj hp h4.out];rfl
      refine (qX dp h4).mono ?_
      rintro en w4 ⟨rfl,bC,b7⟩
      have h4l:=h4.le
      go_wp2_with fail
      refine (IH'.out l4 w4 b7 (fS.mono h4l)).mono ?_
      rintro en w5 ⟨vt,r5,rfl,bF,dM,dh,dw⟩
      have dG:=bC.trans bF
      have z4:=bC.size
      rcases ht:kO d l4 with _ | ⟨t,r5'⟩
      ·obtain rfl:=dh ht
       have HT:=g_ ht;clear ht dh dw
       go_wp2_with fail
       go_ret
       refine qp.no ?_ (ch.out.trans dG) dM
       have hp:=HP.out.1
       rw [iz.out] at hp
       rw [HZ.out.2.2.2,wk hp h4.out HT.out];rfl
      obtain ⟨rfl,em⟩:=dw _ _ ht
      have HT:=g_ ht;clear ht dh dw
      obtain ⟨at5,rfl⟩:=vA em
      have dU:jP ob wd nm kv slv w5:=(dG.block ob (zZ dE) (by omega)).trans dE
      obtain ⟨_,_,_,q3,q4,q5⟩:=dU.cells
      have q6:=q5 3
      have dV:Own w5 50 1 slv k vs:=HP.out.2.2.1.keep fun g o b5 ho=>by rw [dG.block g (zZ ho) (by have:=HP.out.2.2.2.1 g b5;omega)];exact ho
      have nP:=g_ (hU dV (hU em (hU dG dM)))
      clear q5 dV em dG bC bF b7 dM dp
      go_wp2_with (at_builtin;refine zu rfl _ _ 129 rfl 50 (.pointer none) 1 8 Tryz.underlying129 Tryz.infoTm rfl (by decide) slv k vs rfl ?c1 _ 1 [.pointer (some ⟨at5,0,none⟩)] rfl ?c2 ?c3 ?c4 ?_)
      case c1=>exact nP.out.1.keep fun g o b5 ho=>zH ho
      case c2=>exact zp.lit rfl
      case c3=>unfold maxLen;omega
      case c4=>omega
      intro a' c' w6 b4 bW b5
      have d9:jP ob wd nm kv slv w6:=by
       unfold jP;rw [bW.block ob (by simp;omega) (fun e=>by have:=HP.out.2.2.2.1 ob e;omega)]
       exact zH dU
      have eZ:=vc.next bX HP.out.2.2.2.2.2.1 HP.out.1 HP.out.2.2.2.2.2.2 HP.out.2.1 dE HP.out.2.2.1 HP.out.2.2.2.1 HP.out.2.2.2.2.1 h4.out HT.out nP.out.2.2.1 nP.out.2.2.2 ((Rep.keep fun b o h ho=>⟨by have:=h;omega,ho⟩).1 _ _ nP.out.2.1) b4 bW (fun g h=>(b5 g h).imp_right fun e=>e.trans (by simp)) fk rq
      obtain ⟨_,_,_,p3,p4,p5⟩:=d9.cells
      have p6:=p5 3
      clear b5 p5 bW b4 dU d9 dE q3 q4 q6
      go_wp2_with fail
      go_roundw
      case rel=>exact ⟨k+1,by omega,by go_num,eZ⟩
      case measure=>simp [intOf];omega
     ·obtain rfl:k=M:=by omega
      go_wp2_with fail
      rcases zq [41] lk with h4 | ⟨l4,h4⟩
      ·refine (qd dp h4).mono ?_
       rintro en w4 ⟨rfl,bC,b7⟩
       go_wp2_with fail
       go_ret
       refine qp.no ?_ (ch.out.trans bC) b7
       have hp:=HP.out.1
       rw [Nat.sub_self,vN] at hp
       rw [HZ.out.2.2.2,hp]
       simp [h4.out]
      refine (qX dp h4).mono ?_
      rintro en w4 ⟨rfl,bC,b7⟩
      go_wp2_with fail
      go_ret
      have hp:=HP.out.1
      rw [Nat.sub_self,vN] at hp
      have sW:But (fun i=>i=sc\/i=ob) wz w4:=HP.out.2.1.trans (bC.weak fun i _ e=>.inl e)
      have hz0:=HZ.out.1.size
      have hsw:=ju hs
      refine qp.yes (t:=yh wd nm kk ts) (r:=l4) ?_ (ch.out.trans bC) b7 ?_
      ·rw [HZ.out.2.2.2,hp]
       simp [h4.out]
      ·rw [HZ.out.2.2.1 ts HP.out.2.2.2.2.2.1]
       have rv:jP ob wd nm kv slv w4:=(bC.block ob (zZ dE) (by omega)).trans dE
       refine enc_mk mu rv (Rep.but sW (fun b hb=>⟨by rintro (e | e) <;> omega,hb.1⟩) HZ.out.2.1) ?_
       rw [HP.out.2.2.2.2.2.1]
       have hz:=HP.out.2.2.2.1
       refine (HP.out.2.2.1.keep (w':=w4) fun g o b5 ho=>?_).rep (fun g hg=>?_) ?_
       ·rw [bC.block g (zZ ho) (by have:=hz g b5;omega)];exact ho
       ·have:=hz g hg;show w.heap.size<=g;omega
       ·exact zC.but bC (fun b hb=>⟨by have:=hb.1;omega,by have:=hb.1;show w.heap.size<=b;omega⟩) HP.out.2.2.2.2.1
 ·have hq:(wd == [108,97,109])=false:=by rw [beq_eq_false_iff_ne];exact cR
  have m9:=eP.out.2.2;have bN:=eP.out.1;have cz:=eP.out.2.1
  obtain ⟨nm,nw⟩:∃ x:Bs,x=[]:=⟨_,rfl⟩
  rw [<- nw] at cz
  have hHM:∀ kk:Ty,(M=2\/M=3)/\(kO (d+1) r=(kY d M (zV r1)).bind fun y=>(cut [41] y.2).map fun r'=>(yh wd nm kk y.1,r')) /\
   (∀ ts:List Tm,ts.length=M->qU (yh wd nm kk ts)=.ptr 131 [.val (str wd),.val (str nm),.val (.pointer none),.sl 50 1 ts.length (ts.map qU)]):=by
   intro kk
   have hM:=HMW.out
   unfold gY at hM
   rw [if_neg cR] at hM
   by_cases h2:wd=qo
   ·rw [if_pos h2] at hM
    refine ⟨.inl hM,?_,fun ts h=>?_⟩
    ·rw [HR.out,rdTm_app nm kk (by rw [HW.out,h2]),hM,h2]
    ·rw [h2,nw];exact enc_app kk ts (by rw [h,hM])
   rw [if_neg h2] at hM
   by_cases h3:wd=ifW
   ·rw [if_pos h3] at hM
    refine ⟨.inr hM,?_,fun ts h=>?_⟩
    ·rw [HR.out,rdTm_ite nm kk (by rw [HW.out,h3]),hM,h3]
    ·rw [h3,nw];exact enc_ite kk ts (by rw [h,hM])
   rw [if_neg h3] at hM
   exact absurd hM t7
  obtain ⟨kk,hkk⟩:∃ k:Ty,k=.mk []:=⟨_,rfl⟩
  obtain ⟨hM23,HM,HE⟩:=hHM kk
  have mX:=g_ (hU bN (hU cz (hU m9 (hU HE HM))))
  have M20:M<=3:=by omega
  clear hHM bN cz m9 HE HM hM23 hkk cR nw
  go_wp2_with fail
  clear eM q0 q4
  obtain ⟨bN,cz,m9,HE,HM⟩:=mX.out
  obtain ⟨wz,rB⟩:=zzM (w3)
  rw [<- rB] at bN cz m9 ⊢
  clear rB mX eP
  obtain ⟨r0,fx⟩:=zzM (zV r1)
  rw [<- fx] at mB bN HM
  have fU:=mB
  clear fx mB
  obtain ⟨kv,sw⟩:=zzM (Value.pointer none)
  have nB:Rep (fun b=>w.heap.size<=b/\b≠ob/\b≠sc) wz (.val (.pointer none)) kv:=zj.2 sw
  rw [<- sw] at cz
  clear sw
  clear hmm
  have fk:sc<ob:=by omega
  have rq:ob<wz.heap.size:=zZ cz
  have bT:vc sc c e ob d M wd nm kv r0 wz 0 wz:=⟨[],r0,.slice none 0 0,[],rfl,by simp,hG _,But.refl _ _,bN,cz,World.ownsRow_nil _ _ _ _,fun g h=>by simp [Value.ownBlock] at h,zM.2 rfl⟩
  have HZ:=g_ (hU m9 (hU nB (hU HE HM)))
  clear m9 bN cz nB HE HM
  go_loopw [84] (fun i wr=>∃ k:Nat,k<=M/\i=.int .i64 k/\vc sc c e ob d M wd nm kv r0 wz k wr) (fun i _=>M-(intOf i).toNat)
  case atStart=>exact ⟨0,Nat.zero_le _,rfl,bT⟩
  case round =>
   clear bT
   rename_i wr
   obtain ⟨k,hk,rfl,ts,lk,slv,vs,hts,hp,cN,hb,dp,dE,bG,hZ,dt⟩:=hrel
   have fS:=fU.mono cN
   have cA:But (· = sc) w wr:=HZ.out.1.trans' hb (fun i hi e=>by rcases e with e | e;exact e;omega)
   have HP:=g_ (hU hp (hU hb (hU bG (hU hZ (hU dt (hU hts cN))))))
   clear hp hb bG hZ dt hts cN
   have ch:=g_ cA;clear cA
   by_cases bX:k<M
   ·have rr:(k:Int)<(M:Int):=by omega
    have aX:M-k=(M-k-1)+1:=by omega
    have iz:=g_ aX;clear aX
    go_wp2_with fail
    rcases zq [32] lk with h4 | ⟨l4,h4⟩
    ·refine (qd dp h4).mono ?_
     rintro en w4 ⟨rfl,bC,b7⟩
     go_wp2_with fail
     go_ret
     refine qp.no ?_ (ch.out.trans bC) b7
     have hp:=HP.out.1
     rw [iz.out] at hp
     rw [HZ.out.2.2.2,wj hp h4.out];rfl
    refine (qX dp h4).mono ?_
    rintro en w4 ⟨rfl,bC,b7⟩
    have h4l:=h4.le
    go_wp2_with fail
    refine (IH'.out l4 w4 b7 (fS.mono h4l)).mono ?_
    rintro en w5 ⟨vt,r5,rfl,bF,dM,dh,dw⟩
    have dG:=bC.trans bF
    have z4:=bC.size
    rcases ht:kO d l4 with _ | ⟨t,r5'⟩
    ·obtain rfl:=dh ht
     have HT:=g_ ht;clear ht dh dw
     go_wp2_with fail
     go_ret
     refine qp.no ?_ (ch.out.trans dG) dM
     have hp:=HP.out.1
     rw [iz.out] at hp
     rw [HZ.out.2.2.2,wk hp h4.out HT.out];rfl
    obtain ⟨rfl,em⟩:=dw _ _ ht
    have HT:=g_ ht;clear ht dh dw
    obtain ⟨at5,rfl⟩:=vA em
    have dU:jP ob wd nm kv slv w5:=(dG.block ob (zZ dE) (by omega)).trans dE
    obtain ⟨_,_,_,q3,q4,q5⟩:=dU.cells
    have q6:=q5 3
    have dV:Own w5 50 1 slv k vs:=HP.out.2.2.1.keep fun g o b5 ho=>by rw [dG.block g (zZ ho) (by have:=HP.out.2.2.2.1 g b5;omega)];exact ho
    have nP:=g_ (hU dV (hU em (hU dG dM)))
    clear q5 dV em dG bC bF b7 dM dp
    go_wp2_with (at_builtin;refine zu rfl _ _ 129 rfl 50 (.pointer none) 1 8 Tryz.underlying129 Tryz.infoTm rfl (by decide) slv k vs rfl ?c1 _ 1 [.pointer (some ⟨at5,0,none⟩)] rfl ?c2 ?c3 ?c4 ?_)
    case c1=>exact nP.out.1.keep fun g o b5 ho=>zH ho
    case c2=>exact zp.lit rfl
    case c3=>unfold maxLen;omega
    case c4=>omega
    intro a' c' w6 b4 bW b5
    have d9:jP ob wd nm kv slv w6:=by
     unfold jP;rw [bW.block ob (by simp;omega) (fun e=>by have:=HP.out.2.2.2.1 ob e;omega)]
     exact zH dU
    have eZ:=vc.next bX HP.out.2.2.2.2.2.1 HP.out.1 HP.out.2.2.2.2.2.2 HP.out.2.1 dE HP.out.2.2.1 HP.out.2.2.2.1 HP.out.2.2.2.2.1 h4.out HT.out nP.out.2.2.1 nP.out.2.2.2 ((Rep.keep fun b o h ho=>⟨by have:=h;omega,ho⟩).1 _ _ nP.out.2.1) b4 bW (fun g h=>(b5 g h).imp_right fun e=>e.trans (by simp)) fk rq
    obtain ⟨_,_,_,p3,p4,p5⟩:=d9.cells
    have p6:=p5 3
    clear b5 p5 bW b4 dU d9 dE q3 q4 q6
    go_wp2_with fail
    go_roundw
    case rel=>exact ⟨k+1,by omega,by go_num,eZ⟩
    case measure=>simp [intOf];omega
   ·obtain rfl:k=M:=by omega
    go_wp2_with fail
    rcases zq [41] lk with h4 | ⟨l4,h4⟩
    ·refine (qd dp h4).mono ?_
     rintro en w4 ⟨rfl,bC,b7⟩
     go_wp2_with fail
     go_ret
     refine qp.no ?_ (ch.out.trans bC) b7
     have hp:=HP.out.1
     rw [Nat.sub_self,vN] at hp
     rw [HZ.out.2.2.2,hp]
     simp [h4.out]
    refine (qX dp h4).mono ?_
    rintro en w4 ⟨rfl,bC,b7⟩
    go_wp2_with fail
    go_ret
    have hp:=HP.out.1
    rw [Nat.sub_self,vN] at hp
    have sW:But (fun i=>i=sc\/i=ob) wz w4:=HP.out.2.1.trans (bC.weak fun i _ e=>.inl e)
    have hz0:=HZ.out.1.size
    have hsw:=ju hs
    refine qp.yes (t:=yh wd nm kk ts) (r:=l4) ?_ (ch.out.trans bC) b7 ?_
    ·rw [HZ.out.2.2.2,hp]
     simp [h4.out]
    ·rw [HZ.out.2.2.1 ts HP.out.2.2.2.2.2.1]
     have rv:jP ob wd nm kv slv w4:=(bC.block ob (zZ dE) (by omega)).trans dE
     refine enc_mk mu rv (Rep.but sW (fun b hb=>⟨by rintro (e | e) <;> omega,hb.1⟩) HZ.out.2.1) ?_
     rw [HP.out.2.2.2.2.2.1]
     have hz:=HP.out.2.2.2.1
     refine (HP.out.2.2.1.keep (w':=w4) fun g o b5 ho=>?_).rep (fun g hg=>?_) ?_
     ·rw [bC.block g (zZ ho) (by have:=hz g b5;omega)];exact ho
     ·have:=hz g hg;show w.heap.size<=g;omega
     ·exact zC.but bC (fun b hb=>⟨by have:=hb.1;omega,by have:=hb.1;show w.heap.size<=b;omega⟩) HP.out.2.2.2.2.1
theorem term_step (sc:Nat) (c:List Value) (e:TypeId) (d:Nat) (hd:d<=1000) (ih:∀ d',d=d'+1->xp sc c e d'):xp sc c e d:=by
 intro r w hs hr
 rcases zq [40] r with h1 | ⟨r1,h1⟩
 ·exact term_word sc c e d hd r w hs hr h1
 ·exact term_open sc c e d hd ih r r1 w hs hr h1
theorem term_any (sc:Nat) (c:List Value) (e:TypeId):∀ (d:Nat),d<=1000->xp sc c e d
 | 0,h=>term_step sc c e 0 h (fun d' e=>by omega)
 | d+1,h=>term_step sc c e (d+1) h (fun d' e=>by obtain rfl:d=d':=by omega
                                                 exact term_any _ _ _ d (by omega))
def tmWord:Tm->Bs
 | .nm _=>[]
 | .wd w=>w
 | .lam _ _ _=>qH
 | .app _ _=>qo
 | .ite _ _ _=>ifW
def tmName:Tm->Bs
 | .nm x=>x
 | .lam x _ _=>x
 | _=>[]
def jr:Tm->Option Ty
 | .lam _ k _=>some k
 | _=>none
def kq:Tm->List Tm
 | .nm _=>[]
 | .wd _=>[]
 | .lam _ _ t=>[t]
 | .app m n=>[m,n]
 | .ite l m n=>[l,m,n]
def jf (ts:List Tm):Nat:=(ts.map zT).sum
def kindN:Option Ty->Nat
 | some k=>1+zX k
 | none=>0
theorem sizeTm_mk (t:Tm):zT t=1+kindN (jr t)+jf (kq t):=by
 cases t <;> simp [zT,jr,kq,kindN,jf] <;> omega
theorem px {ts:List Tm} {k:Nat} {t:Tm} (h:ts[k]? = some t):jf (ts.take (k+1))=jf (ts.take k)+zT t:=by
 unfold jf
 rw [List.take_add_one,h]
 simp
theorem yL (ts:List Tm) (k:Nat):jf (ts.take k)<=jf ts:=by
 unfold jf
 conv=>rhs;rw [<- List.take_append_drop k ts,List.map_append,List.sum_append]
 omega
theorem sumTm_mem {ts:List Tm} {t:Tm} (h:t∈ts):zT t<=jf ts:=by
 induction ts with
 | nil=>simp at h
 | cons x xs ih =>
   unfold jf at *
   simp only [List.map_cons,List.sum_cons]
   rcases List.mem_cons.1 h with rfl | h
   ·omega
   ·have:=ih h;omega
theorem tmParts_len (t:Tm):(kq t).length<=3:=by cases t <;> simp [kq]
theorem encTm_open {F:Nat->Prop} {w:World} {t:Tm} {v:Value} (h:Rep F w (qU t) v) :
 ∃ b kv slv,v=.pointer (some ⟨b,0,none⟩)/\F b/\w.heap[b]? = some (.cells #[str (tmWord t),str (tmName t),kv,slv] 131 (0,0))/\(jr t=none->kv=.pointer none)/\(∀ k,jr t=some k->Rep F w (jd k) kv) /\
   Rep F w (.sl 50 1 (kq t).length ((kq t).map qU)) slv:=by
 have key:∀ (wd nm:Bs) (kd:DV) (n:Nat) (ds:List DV),Rep F w (.ptr 131 [.val (str wd),.val (str nm),kd,.sl 50 1 n ds]) v ->
  ∃ b kv slv,v=.pointer (some ⟨b,0,none⟩)/\F b/\w.heap[b]? = some (.cells #[str wd,str nm,kv,slv] 131 (0,0))/\Rep F w kd kv/\Rep F w (.sl 50 1 n ds) slv:=by
  intro wd nm kd n ds h
  rw [qm] at h
  obtain ⟨b,c,rfl,hb,hc,hr⟩:=h
  simp only [zJ,zM,zj] at hr
  obtain ⟨_,_,e1,rfl,_,_,rfl,rfl,kv,_,rfl,h1,slv,_,rfl,h2,rfl⟩:=hr
  have:c=#[str wd,str nm,kv,slv]:=by apply Array.ext';simpa using e1
  subst this
  exact ⟨b,kv,slv,rfl,hb,hc,h1,h2⟩
 cases t with
 | nm x =>
   obtain ⟨b,kv,slv,h1,h2,h3,h4,h5⟩:=key _ _ _ _ _ h
   exact ⟨b,kv,slv,h1,h2,h3,fun _=>zj.1 h4,fun k e=>by simp [jr] at e,h5⟩
 | wd x =>
   obtain ⟨b,kv,slv,h1,h2,h3,h4,h5⟩:=key _ _ _ _ _ h
   exact ⟨b,kv,slv,h1,h2,h3,fun _=>zj.1 h4,fun k e=>by simp [jr] at e,h5⟩
 | lam x k t =>
   obtain ⟨b,kv,slv,h1,h2,h3,h4,h5⟩:=key _ _ _ _ _ h
   exact ⟨b,kv,slv,h1,h2,h3,fun e=>by simp [jr] at e,fun k e=>by simp [jr] at e;subst e;exact h4,h5⟩
 | app m n =>
   obtain ⟨b,kv,slv,h1,h2,h3,h4,h5⟩:=key _ _ _ _ _ h
   exact ⟨b,kv,slv,h1,h2,h3,fun _=>zj.1 h4,fun k e=>by simp [jr] at e,h5⟩
 | ite l m n =>
   obtain ⟨b,kv,slv,h1,h2,h3,h4,h5⟩:=key _ _ _ _ _ h
   exact ⟨b,kv,slv,h1,h2,h3,fun _=>zj.1 h4,fun k e=>by simp [jr] at e,h5⟩
def TmAtoms (F:Nat->Prop) (w:World) (t:Tm):Prop:=∀ v,Rep F w (qU t) v ->
 Calls Tryz.prog 43 #[v] w fun en w'=>en=.returned (.int .i64 (zT t))/\w'=w
set_option maxRecDepth 20000 in
theorem tmAtoms_step (F:Nat->Prop) (w:World) (t:Tm) (hl:Lim (zT t)) (ih:∀ t',zT t'<zT t->TmAtoms F w t'):TmAtoms F w t:=by
 intro v hv
 obtain ⟨b,kv,slv,rfl,hb,hc,fT,fm,hs⟩:=encTm_open hv
 have c1:w.cell? ⟨b,2,none⟩=some kv:=by simp [World.cell?,hc]
 have c2:w.cell? ⟨b,3,none⟩=some slv:=by simp [World.cell?,hc]
 obtain ⟨a,cap,rfl,hn,bP,bL⟩:=zF hs
 have e1:=sizeTm_mk t
 have IH:=g_ ih;clear ih hc hv hs
 have E1:=g_ e1;clear e1
 have ct:=hl.le
 have hp3:=tmParts_len t
 have HL:=g_ bP;clear bP
 have AT:=g_ bL;clear bL
 have base:Calls Tryz.prog 43 #[.pointer (some ⟨b,0,none⟩)] w fun en w'=>en=.returned (.int .i64 (1+kindN (jr t)+jf (kq t):Nat))/\w'=w:=by
  have hbd:1+kindN (jr t)+jf (kq t)<=16777216:=by have:=E1.out;omega
  cases hk:jr t with
  | none =>
    obtain rfl:=fT hk
    rw [hk] at hbd
    clear hk fT fm
    simp only [kindN] at hbd ⊢
    go_enter Tryz.func43,Tryz.ntmps43
    go_wp2_with fail
    go_loop [3,24] (fun n i=>∃ k:Nat,k<=(kq t).length/\i=.int .i64 k/\n=.int .i64 ((1+jf ((kq t).take k):Nat):Int)) (fun _ i=>(kq t).length-(intOf i).toNat)
    case atStart=>exact ⟨0,Nat.zero_le _,rfl,by simp [jf]⟩
    case round =>
     obtain ⟨k,hk,rfl,rfl⟩:=hrel
     by_cases bX:k<(kq t).length
     ·obtain ⟨b',o,u,d,rfl,_,bS,hd,hu,hr⟩:=AT.out k bX
      rw [List.getElem?_map,Option.map_eq_some_iff] at hd
      obtain ⟨t',cO,rfl⟩:=hd
      have hs:=px cO
      have cN:=yL (kq t) (k+1)
      have cw:=E1.out
      have rc:=sumTm_mem (List.mem_of_getElem? cO)
      have IH':=g_ (IH.out t' (by omega))
      have HS:=g_ hs
      have b1:1+jf ((kq t).take k)+zT t'<=16777216:=by omega
      clear hs cO cw cN rc
      obtain ⟨bu,eu⟩:=vA hr
      subst eu
      go_wp2_with fail
      refine (IH'.out _ hr).mono ?_
      rintro en w' ⟨rfl,ew⟩
      subst ew
      go_wp2_with fail
      go_round
      case rel=>exact ⟨k+1,by omega,by go_num,by rw [HS.out];go_num⟩
      case measure=>simp [intOf];omega
     ·go_wp2_with fail
      go_ret
      have:k=(kq t).length:=by omega
      subst this
      exact ⟨j8 (by rw [List.take_length]),rfl⟩
  | some kk =>
    have rt:=fm kk hk
    rw [hk] at hbd
    clear hk fT fm
    simp only [kindN] at hbd ⊢
    obtain ⟨kb,ek⟩:∃ ba,kv=.pointer (some ⟨ba,0,none⟩):=by obtain ⟨ba,_,h,_⟩:=za rt;exact ⟨ba,h⟩
    subst ek
    have CK:=g_ (atoms_any F w (zX kk) kk (hG _) (show _<=_ by omega) _ rt)
    clear rt
    go_enter Tryz.func43,Tryz.ntmps43
    go_wp2_with fail
    refine CK.out.mono ?_
    rintro en w' ⟨rfl,ew⟩
    subst w'
    go_wp2_with fail
    go_loop [3,24] (fun n i=>∃ k:Nat,k<=(kq t).length/\i=.int .i64 k/\n=.int .i64 ((1+(1+zX kk)+jf ((kq t).take k):Nat):Int)) (fun _ i=>(kq t).length-(intOf i).toNat)
    case atStart=>exact ⟨0,Nat.zero_le _,rfl,by simp [jf]⟩
    case round =>
     obtain ⟨k,hk,rfl,rfl⟩:=hrel
     by_cases bX:k<(kq t).length
     ·obtain ⟨b',o,u,d,rfl,_,bS,hd,hu,hr⟩:=AT.out k bX
      rw [List.getElem?_map,Option.map_eq_some_iff] at hd
      obtain ⟨t',cO,rfl⟩:=hd
      have hs:=px cO
      have cN:=yL (kq t) (k+1)
      have cw:=E1.out
      have rc:=sumTm_mem (List.mem_of_getElem? cO)
      have IH':=g_ (IH.out t' (by omega))
      have HS:=g_ hs
      have b1:1+(1+zX kk)+jf ((kq t).take k)+zT t'<=16777216:=by omega
      clear hs cO cw cN rc
      obtain ⟨bu,eu⟩:=vA hr
      subst eu
      go_wp2_with fail
      refine (IH'.out _ hr).mono ?_
      rintro en w' ⟨rfl,ew⟩
      subst ew
      go_wp2_with fail
      go_round
      case rel=>exact ⟨k+1,by omega,by go_num,by rw [HS.out];go_num⟩
      case measure=>simp [intOf];omega
     ·go_wp2_with fail
      go_ret
      have:k=(kq t).length:=by omega
      subst this
      exact ⟨j8 (by rw [List.take_length]),rfl⟩
 rw [E1.out]
 exact base
theorem tmAtoms_any (F:Nat->Prop) (w:World) (n:Nat):∀ t,zT t<=n->Lim n->TmAtoms F w t:=by
 induction n with
 | zero=>intro t h _;have:=sizeTm_mk t;omega
 | succ n ih=>exact fun t h hn=>tmAtoms_step F w t (hn.mono h) (fun t' h'=>ih t' (by omega) (hn.mono (by omega)))
theorem textT_atoms (k:Ty):zX k<=(zl k).length:=by
 have h1:=p9 (zX k) k [] (by omega)
 have h2:=wJ _ h1
 simpa using h2
theorem jM:∀ t:Tm,ur t->zT t<=(zG t).length
 | .nm x,h=>by
   rw [show zG (.nm x)=x from by unfold zG;rw [zS,zB],zT]
   exact List.length_pos_iff.2 (uJ h).1
 | .wd x,h=>by
   rw [show zG (.wd x)=x from by unfold zG;rw [zS,zB],zT]
   exact List.length_pos_iff.2 (xH h).1
 | .lam x k t,h=>by
   have h1:=jM t h.2
   have h2:=textT_atoms k
   rw [js,zT];simp;omega
 | .app m n,h=>by
   have h1:=jM m h.1
   have h2:=jM n h.2
   rw [jb,zT];simp;omega
 | .ite l m n,h=>by
   have h0:=jM l h.1
   have h1:=jM m h.2.1
   have h2:=jM n h.2.2
   rw [jt,zT];simp;omega
def RTPost (w:World) (o:Option Tm) (en:Ending) (w':World):Prop :=
 ∃ v,en=.returned v/\Below w.heap.size w w'/\(o=none->v=.pointer none)/\(∀ t,o=some t->Rep (w.heap.size<=·) w' (qU t) v)
set_option maxRecDepth 20000 in
theorem readTerm_any (l:Bs) (w:World) (hl:Lim l.length) :
 Calls Tryz.prog 18 #[str l] w (RTPost w (kM l)):=by
 have ct:=hl.le
 go_enter Tryz.func18,Tryz.ntmps18
 go_wp2_with fail
 have dO:kQ w.heap.size [] 92 l (w.alloc (.cells #[str l] 92)):=zO _ _
 refine (term_any _ _ _ 60 (by omega) l _ dO hl).mono ?_
 rintro en w1 ⟨v,r1,rfl,bU,b8,bz,b6⟩
 have hb:Below w.heap.size w w1:=((bZ w.heap.size w).alloc (hG _) _).trans (bU.toBelow (by simp) (fun i hi e=>by omega))
 rcases ha:kO 60 l with _ | ⟨t,r1'⟩
 ·obtain rfl:=bz ha
  have Ha:=g_ ha;clear ha bz b6
  go_wp2_with fail
  go_ret
  exact ⟨_,rfl,hb,fun _=>rfl,fun t h=>by simp [kM,Ha.out] at h⟩
 obtain ⟨rfl,mD⟩:=b6 _ _ ha
 obtain ⟨ba,rfl⟩:=vA mD
 obtain ⟨etx,cK,_⟩:=yp _ _ _ _ ha
 have bN:=jM t cK
 have bP:=congrArg List.length etx
 rw [List.length_append] at bP
 have dF:zT t<=l.length:=by omega
 have Ha:=g_ ha;clear ha bz b6 etx cK bN bP
 have c_:=b8.cell
 have hz:w.heap.size<w1.heap.size:=ju b8
 cases r1 with
 | cons x xs =>
   have hne:(!(x::xs).isEmpty)=true:=rfl
   go_wp2_with fail
   go_ret
   exact ⟨_,rfl,hb,fun _=>rfl,fun t h=>by simp [kM,Ha.out] at h⟩
 | nil =>
   go_wp2_with fail
   refine (tmAtoms_any _ w1 (zT t) t (hG _) (hl.mono dF) _ mD).mono ?_
   rintro en w2 ⟨rfl,e2⟩
   subst e2
   by_cases iC:zT t<=60
   ·go_wp2_with fail
    go_ret
    have HM:kM l=some t:=by simp [kM,Ha.out,iC]
    exact ⟨_,rfl,hb,fun h=>by simp [HM] at h,fun t' h=>by rw [HM] at h;simp at h;subst h;exact (Rep.keep fun b o h ho=>⟨by have:=h;simp at this;omega,ho⟩).1 _ _ mD⟩
   ·go_wp2_with fail
    go_ret
    have HM:kM l=none:=by simp [kM,Ha.out,iC]
    exact ⟨_,rfl,hb,fun _=>rfl,fun t' h=>by rw [HM] at h;simp at h⟩
theorem pu {t:Ty} {b:Bd} (h:Good t b):(zG (ja t b)).length<=400000:=by
 have ha:=kP h.atoms
 have hc:=qE h.atoms
 have hs:=h.size
 have h1:=vM b ([]++t.args) (by rw [List.nil_append];exact h.fit) (fun x hx=>by rw [List.nil_append] at hx;exact ha x hx) (by simp;omega)
 have h2:=jS t.args 0 ha (by omega)
 unfold ja tmL
 rw [List.length_nil,vT,List.length_append,List.length_append,qq]
 omega
theorem vU (s text:Bs) (w:World) (hg:jA w) (hs:Lim s.length) (hl:Lim text.length) :
 Calls Tryz.prog 5 #[str s,str text] w fun en w'=>en=.returned (.tuple #[str ((kU s text).getD []),.bool (kU s text).isSome])/\Below w.heap.size w w':=by
 have C0:=g_ (uG s text w hg hs hl)
 go_enter Tryz.func5,Tryz.ntmps5
 go_wp2_with fail
 (with_reducible refine C0.out.mono ?_)
 rintro en w1 ⟨kv,bv,rfl,bU,bz,b6⟩
 cases hq:zI s text with
 | none =>
   have hr:yg s text=none:=by rw [xQ,hq];rfl
   obtain rfl:=bz hr
   have HM:=g_ (show kU s text=none by unfold kU;rw [hq];rfl)
   have HB:=g_ bU
   clear bz b6 hq hr bU
   go_wp2_with fail
   go_ret2
   exact ⟨by rw [HM.out];rfl,HB.out⟩
 | some b =>
   have hr:yg s text=some ((zU s).1,b):=by rw [xQ,hq];rfl
   obtain ⟨rk,rb⟩:=b6 _ _ hr
   obtain ⟨bj,_⟩:=jj hq
   obtain ⟨bb,rfl⟩:=ke rb
   have bP:=pu bj
   have HM:=g_ (show kU s text=if (kM (zG (ja (zU s).1 b))).isSome then some (zG (ja (zU s).1 b)) else none by unfold kU;rw [hq];rfl)
   have CT:Hid (Calls Tryz.prog 17 #[kv,.pointer (some ⟨bb,0,none⟩),.slice none 0 0] w1 fun en w'=>en=.returned (str (zG (ja (zU s).1 b)))/\Below w1.heap.size w1 w') :=
    kindTm_any (zD b) (w.heap.size<=·) (zU s).1 b [] kv _ _ w1 (hG _) (hg.below bU) rk rb (kD.2 ⟨rfl,none,0,rfl,hG _,fun _=>rfl,.inl rfl⟩) bj.fit bj.wf (fun x hx=>by simp at hx) bj.atoms (by have:=bj.size;simp;omega)
   obtain ⟨X,hX⟩:=zzN (zG (ja (zU s).1 b))
   rw [hX] at HM CT bP
   have CR:=g_ (fun wz=>readTerm_any X wz (show _<=_ by omega))
   have HB:=g_ bU
   clear bz b6 hq hr bU rk rb bj hX bP
   go_wp2_with fail
   (with_reducible refine CT.out.mono ?_)
   rintro en w2 ⟨rfl,bY⟩
   have cX:=g_ (zzT HB.out bY)
   clear bY
   go_wp2_with fail
   (with_reducible refine (CR.out _).mono ?_)
   rintro en w3 ⟨v,rfl,bH,rg,fL⟩
   have dl:=g_ (zzT cX.out bH)
   clear bH
   cases ht:kM X with
   | none =>
     obtain rfl:=rg ht
     have HT:=g_ ht
     clear rg fL ht
     go_wp2_with fail
     go_ret2
     exact ⟨by rw [HM.out,HT.out];rfl,dl.out⟩
   | some t =>
     obtain ⟨tb,rfl⟩:=vA (fL t ht)
     have HT:=g_ ht
     clear rg fL ht
     go_wp2_with fail
     go_ret2
     exact ⟨by rw [HM.out,HT.out];rfl,dl.out⟩


def sizeOf' (o:Option Bd):Int:=match o with
 | some b=>(zD b:Int)
 | none=>-1
theorem xN (s text:Bs) (hs:Lim s.length) (hl:Lim text.length) (w:World) (hg:jA w) :
 Calls Tryz.prog 27 #[str s,str text] w fun en w'=>en=.returned (.int .i64 (sizeOf' (zI s text)))/\Below w.heap.size w w':=by
 have he:(yg s text).map Prod.snd=zI s text:=by
  rw [xQ];cases zI s text <;> rfl
 rw [<- he];clear he
 go_enter Tryz.func27,Tryz.ntmps27
 go_wp2_with fail
 refine (uG s text w hg hs hl).mono ?_
 rintro en w1 ⟨kv,bv,rfl,bU,hn,hy⟩
 cases hq:yg s text with
 | none =>
   obtain rfl:=hn hq
   have HQ:=g_ hq;clear hq hn hy
   go_wp2_with fail
   go_ret
   exact ⟨j8 (by rw [HQ.out];rfl),bU⟩
 | some x =>
   obtain ⟨t,b⟩:=x
   obtain ⟨hk,hr⟩:=hy t b hq
   have bN:Lim (zD b):=(show _<=_ by have:=rdTS_size hq;omega)
   have HQ:=g_ hq;clear hq hn hy
   obtain ⟨ab,eb⟩:=ke hr
   subst eb
   go_wp2_with fail
   refine (size_any (zD b) b (hG _) bN _ _ _ hr).mono ?_
   rintro en w2 ⟨rfl,bY⟩
   go_wp2_with fail
   go_ret
   exact ⟨j8 (by rw [HQ.out];rfl),zzT bU bY⟩
theorem implValid_any (s text:Bs) (hs:Lim s.length) (hl:Lim text.length) (w:World) (hg:jA w) :
 Calls Tryz.prog 104 #[str s,str text] w fun en w'=>en=.returned (.bool (zI s text).isSome)/\Below w.heap.size w w':=by
 have he:(yg s text).map Prod.snd=zI s text:=by
  rw [xQ];cases zI s text <;> rfl
 rw [<- he];clear he
 go_enter Tryz.func104,Tryz.ntmps104
 go_wp2_with fail
 refine (uG s text w hg hs hl).mono ?_
 rintro en w1 ⟨kv,bv,rfl,bU,hn,hy⟩
 cases hq:yg s text with
 | none =>
   obtain rfl:=hn hq
   have HQ:=g_ hq;clear hq hn hy
   go_wp2_with fail
   go_ret
   exact ⟨ret_bool (by rw [HQ.out];rfl),bU⟩
 | some x =>
   obtain ⟨t,b⟩:=x
   obtain ⟨hk,hr⟩:=hy t b hq
   have HQ:=g_ hq;clear hq hn hy
   obtain ⟨ab,eb⟩:=ke hr
   subst eb
   go_wp2_with fail
   go_ret
   exact ⟨ret_bool (by rw [HQ.out];rfl),bU⟩
end Go.Proofs.YtepgfdhkkjfmhabGreatDoor

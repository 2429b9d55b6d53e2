/- The walks of impl's terms of strategies: levelName, termText. -/
import Derived.Test.YtllmjhbopmkpoaaGreatDoorW15
import Derived.Test.YtllmjhbopmkpoaaGreatDoorP28
import Derived.Test.YtllmjhbopmkpoaaGreatDoorT6
import Derived.Deep.DeepCutAuto
namespace Go.Proofs.YtllmjhbopmkpoaaGreatDoor
open Go.RowKit
theorem decNat17 (n:Nat):dec n=Lib.decDigits n:=by
 induction n using Nat.strongRecOn with
 | _ n ih =>
   by_cases h:n<10
   ·rw [dec_small h,Lib.decDigits,dif_pos h];rfl
   ·rw [dec_great h,Lib.decDigits,dif_neg h,ih (n / 10) (Nat.div_lt_self (by omega) (by omega))];rfl
theorem itoaNat17 (i:Nat):Lib.itoa (i:Int)=dec i:=by
 rw [decNat17,Lib.itoa,if_neg (by omega)];rfl
set_option maxHeartbeats 1000000 in
theorem levelName_any (v:Nat) (hv:v<100000) (w:World) (hg:Glob w) :
 Calls Tryz.prog 66 #[.int .i64 (v:Nat)] w fun en w'=>en=.returned (str (lname v))∧Below w.heap.size w w':=by
 have C1:Calls Tryz.prog 47 #[.int .i64 (v:Nat)] w fun en w'=>en=.returned (str (dec v))∧Below w.heap.size w w':=by
  have:=itoa_any (v:Nat) w hg (by omega) (by omega)
  rwa [itoaNat17] at this
 have C1:=Lib.hid C1
 have hl:=dec_length 4 v (Nat.lt_of_lt_of_le hv (by decide))
 obtain ⟨O,hO⟩:∃ O:Bs,O=[120]++dec v:=⟨_,rfl⟩
 have s1:=fun w0=>add_str (P:=Tryz.prog) [120] (dec v) (by simp;omega) w0
 rw [← hO] at s1
 have HO:=Lib.hid (show lname v=O by rw [hO];rfl)
 clear hO hl
 generalize dec v=D at *
 go_enter Tryz.func66,Tryz.ntmps66
 go_wp2_with fail
 (with_reducible refine C1.out.mono ?_)
 rintro en w1 ⟨rfl,hb1⟩
 go_wp2_with fail
 go_ret
 exact ⟨by rw [HO.out];rfl,hb1⟩
theorem fitBs_atW {hand ts:List Ty} {ss:List Bd} (h:fitBs (hands hand ts) ss) {j:Nat} {a:Ty} {s:Bd} (ha:ts[j]? = some a) (hs:ss[j]? = some s):fitB (hand++a.args) s:=by
 obtain ⟨g,h1,h2⟩:=fitBs_at _ _ h j s hs
 unfold hands at h1
 rw [List.getElem?_map,ha] at h1
 simp at h1
 subst h1
 exact h2
structure TmPre (F:Nat→Prop) (b:Bd) (H:List Ty) (bv lv:Value) (w:World):Prop where
 glob:Glob w
 rb:Rep F w (encB b) bv
 rl:Rep F w (.sl 35 1 H.length (encKs H)) lv
 fit:fitB H b
 wf:wfB b
 small:∀ t∈H,atomsT t≤15
 room:H.length+15*sizeB b≤10000
def BodyTm (N:Nat):Prop:=∀ (F:Nat→Prop) (b:Bd) (H:List Ty) (bv lv:Value) (w:World),sizeB b≤N→TmPre F b H bv lv w →
 Calls Tryz.prog 67 #[bv,lv] w fun en w'=>en=.returned (str (textTm (tmB H b)))∧Below w.heap.size w w'
def KindTm (N:Nat):Prop:=∀ (F:Nat→Prop) (t:Ty) (b:Bd) (H:List Ty) (kv bv lv:Value) (w:World),sizeB b≤N→Glob w→Rep F w (encK t) kv→Rep F w (encB b) bv→Rep F w (.sl 35 1 H.length (encKs H)) lv →
 fitB (H++t.args) b→wfB b→(∀ t∈H,atomsT t≤15)→atomsT t≤15→H.length+15*(1+sizeB b)≤10000 →
 Calls Tryz.prog 32 #[kv,bv,lv] w fun en w'=>en=.returned (str (textTm (tmL H t b)))∧Below w.heap.size w w'
theorem oneK {F:Nat→Prop} {w:World}:∀ (ts:List Ty) (us:List Value),Reps F w (encKs ts) us→∀ u∈us,u.oneCell'=true
 | [],us,h,u,hu=>by rw [encKs,Reps_nil] at h;subst h;simp at hu
 | t::ts,us,h,u,hu=>by
   rw [encKs,Reps_cons] at h
   obtain ⟨v,vs,rfl,h1,h2⟩:=h
   obtain ⟨b,_,rfl,_⟩:=encK_open h1
   rcases List.mem_cons.1 hu with rfl | hu
   ·simp [Value.oneCell']
   ·exact oneK ts vs h2 u hu
theorem fitBs_take {H ts:List Ty} {ss:List Bd} (h:fitBs (hands H ts) ss) (k:Nat):fitBs (hands H (ts.take k)) (ss.take k):=by
 have hl:=fitBs_length _ _ h
 rw [hands_length] at hl
 have e:hands H ts=hands H (ts.take k)++hands H (ts.drop k):=by unfold hands;rw [← List.map_append,List.take_append_drop]
 rw [e] at h
 have h2:=(fitBs_split _ _ _ h).1
 rw [hands_length,List.length_take] at h2
 have e2:ss.take (min k ts.length)=ss.take k:=by rw [hl,List.take_eq_take_iff];omega
 rw [e2] at h2
 exact h2
set_option maxRecDepth 100000 in
set_option maxHeartbeats 4000000 in
theorem kindTm_step (N:Nat) (ih:BodyTm N):KindTm N:=by
 intro F t b H kv bv lv w hsz hg hk hb hl hf hw hH ht15 hroom
 have IH:=Lib.hid ih;clear ih
 obtain ⟨kb,ks,rfl,hFk,hck,hks⟩:=encK_open hk
 have c1:w.cell? ⟨kb,0,none⟩=some ks:=by simp [World.cell?,hck]
 have hkw:=lt_of_heap hck
 obtain ⟨ka,kc,rfl,hkn,hklen,hat⟩:=Rep_sl1_open hks
 obtain ⟨la,lc,rfl,hln,hllen,_⟩:=Rep_sl1_open hl
 have hal:=And.intro (arg_small ht15) (arg_count ht15)
 have hn:H.length≤9990:=by have:=sizeB_pos b;omega
 obtain ⟨bb,ebv⟩:=encB_ptr hb
 subst ebv
 have HP:=Lib.hid (And.intro hg (And.intro hk (And.intro hb (And.intro hl (And.intro hf (And.intro hw (And.intro hH (And.intro hks hat))))))))
 have HA:=Lib.hid hal
 have hlen15:t.args.length≤15:=Nat.le_succ_of_le HA.out.2
 clear hg hk hb hl hf hw hH hks hat hck hal hklen hllen
 go_enter Tryz.func32,Tryz.ntmps32
 go_wp2_with fail
 go_loopw [7,8,17] (fun hd tl i wr=>∃ k:Nat,k≤t.args.length∧i=.int .i64 k∧hd=str (headTx H.length (t.args.take k))∧tl=str (closeTx k)∧Below w.heap.size w wr) (fun _ _ i _=>t.args.length-(intOf i).toNat)
 case atStart=>exact ⟨0,Nat.zero_le _,rfl,rfl,rfl,Below.refl _ _⟩
 case round =>
  rename_i wr
  obtain ⟨k,hk,rfl,rfl,rfl,hbr⟩:=hrel
  have HB:=Lib.hid hbr;clear hbr
  by_cases hlt:k<t.args.length
  ·have hlt':(k:Int)<(t.args.length:Int):=by omega
   obtain ⟨b',o',u,d,e,_,hbw,hd,hc,hru⟩:=HP.out.2.2.2.2.2.2.2.2 k hlt
   subst e
   rw [encKs_at,Option.map_eq_some_iff] at hd
   obtain ⟨a,ha,rfl⟩:=hd
   obtain ⟨ub,_,rfl,_⟩:=encK_open hru
   have q0:=(HB.out.cell (p:=⟨b',o'+k,none⟩) hbw).trans hc
   have h15a:=HA.out.1 a (List.mem_of_getElem? ha)
   have C1:=levelName_any (H.length+k) (by omega) wr (HP.out.1.below HB.out)
   rw [Int.natCast_add] at C1
   have C2:∀ w2,Below w.heap.size w w2→Calls Tryz.prog 30 #[.pointer (some ⟨ub,0,none⟩)] w2 fun en w'=>en=.returned (str (textT a))∧Below w2.heap.size w2 w':=fun w2 h=>textK_any 15 a h15a (by omega) _ w2 _ (Rep.below (F':=F) h (fun _ h=>h) hru)
   have lenH:=headTx_len (t.args.take k) H.length (fun x hx=>HA.out.1 x (List.mem_of_mem_take hx)) (by rw [List.length_take];omega)
   have lenX:=textT_length 15 a h15a
   have lenN:=lname_len (v:=H.length+k) (by omega)
   have lenC:=closeTx_length k
   have hstep:headTx H.length (t.args.take (k+1))=headTx H.length (t.args.take k)++([40,108,97,109,32]++lname (H.length+k)++[32]++textT a++[32]):=by
    have e:t.args.take (k+1)=t.args.take k++[a]:=by rw [List.take_add_one,ha];rfl
    rw [e,headTx_snoc,List.length_take,Nat.min_eq_left (by omega)]
   have hclose:=closeTx_succ k
   rw [List.length_take] at lenH
   obtain ⟨NM,hNM⟩:∃ x,x=lname (H.length+k):=⟨_,rfl⟩
   obtain ⟨X,hX⟩:∃ x,x=textT a:=⟨_,rfl⟩
   obtain ⟨R,hR⟩:∃ x,x=headTx H.length (t.args.take k):=⟨_,rfl⟩
   obtain ⟨C,hC⟩:∃ x,x=closeTx k:=⟨_,rfl⟩
   rw [← hNM] at C1 lenN hstep
   rw [← hX] at C2 lenX hstep
   rw [← hR] at lenH hstep ⊢
   rw [← hC] at lenC hclose ⊢
   obtain ⟨O1,h1⟩:∃ x,x=[40,108,97,109,32]++NM:=⟨_,rfl⟩
   obtain ⟨O2,h2⟩:∃ x,x=O1++[32]:=⟨_,rfl⟩
   obtain ⟨O3,h3⟩:∃ x,x=O2++X:=⟨_,rfl⟩
   obtain ⟨O4,h4⟩:∃ x,x=O3++[32]:=⟨_,rfl⟩
   obtain ⟨O5,h5⟩:∃ x,x=R++O4:=⟨_,rfl⟩
   obtain ⟨D1,g1⟩:∃ x,x=C++[41]:=⟨_,rfl⟩
   have m1:O1.length=NM.length+5:=by rw [h1];simp
   have m2:O2.length=O1.length+1:=by rw [h2];simp
   have m3:O3.length=O2.length+X.length:=by rw [h3];simp
   have m4:O4.length=O3.length+1:=by rw [h4];simp
   have a1:=fun w0=>add_str (P:=Tryz.prog) [40,108,97,109,32] NM (by simp;omega) w0
   have a2:=fun w0=>add_str (P:=Tryz.prog) O1 [32] (by simp;omega) w0
   have a3:=fun w0=>add_str (P:=Tryz.prog) O2 X (by omega) w0
   have a4:=fun w0=>add_str (P:=Tryz.prog) O3 [32] (by simp;omega) w0
   have a5:=fun w0=>add_str (P:=Tryz.prog) R O4 (by omega) w0
   have a6:=fun w0=>add_str (P:=Tryz.prog) C [41] (by simp;omega) w0
   rw [← h1] at a1;rw [← h2] at a2;rw [← h3] at a3;rw [← h4] at a4;rw [← h5] at a5;rw [← g1] at a6
   have HS:=Lib.hid (And.intro (show headTx H.length (t.args.take (k+1))=O5 by rw [hstep,h5,h4,h3,h2,h1]) (show closeTx (k+1)=D1 by rw [hclose,g1]))
   have HC1:=Lib.hid C1;have HC2:=Lib.hid C2
   have hwr:IntKind.i64.wrap ((H.length:Int)+(k:Int))=(H.length:Int)+(k:Int):=IntWalk.i64_in _ (by omega)
   clear hstep hclose h1 h2 h3 h4 h5 g1 m1 m2 m3 m4 lenX lenN lenC lenH hNM hX hR hC C1 C2 hru ha hc
   go_wp2_with fail
   (with_reducible refine HC1.out.mono ?_)
   rintro en w4 ⟨rfl,hb4⟩
   have HB4:=Lib.hid (HB.out.trans (hb4.mono HB.out.size));clear hb4
   clear hwr
   go_wp2_with fail
   (with_reducible refine (HC2.out w4 HB4.out).mono ?_)
   rintro en w5 ⟨rfl,hb5⟩
   have HB5:=Lib.hid (HB4.out.trans (hb5.mono HB4.out.size));clear hb5
   go_wp2_with fail
   go_roundw
   case rel=>exact ⟨k+1,by omega,by go_num,by rw [HS.out.1],by rw [HS.out.2],HB5.out⟩
   case measure=>simp [intOf];omega
  ·obtain rfl:k=t.args.length:=by omega
   rw [List.take_length]
   have HLR:Rep (fun _=>True) wr (.sl 35 1 H.length (encKs H)) (.slice la H.length lc):=Rep.below HB.out (fun _ _=>trivial) HP.out.2.2.2.1
   have HKR:Rep (fun _=>True) wr (.sl 35 1 t.args.length (encKs t.args)) (.slice ka t.args.length kc):=Rep.below HB.out (fun _ _=>trivial) HP.out.2.2.2.2.2.2.2.1
   have hbR:Rep (fun _=>True) wr (encB b) (.pointer (some ⟨bb,0,none⟩)):=Rep.below HB.out (fun _ _=>trivial) HP.out.2.2.1
   have q1:wr.cell? ⟨kb,0,none⟩=some (.slice ka t.args.length kc):=(HB.out.cell (p:=⟨kb,0,none⟩) hkw).trans c1
   obtain ⟨xs,hxs,hfull⟩:=FullSl.ofRep HLR (oneK H)
   obtain ⟨news,hnews,hsrc⟩:=SrcSl.ofRep HKR (oneK t.args)
   have lenH:=headTx_len t.args H.length HA.out.1 (by omega)
   have hsp:=sizeB_pos b
   have lenB:=tmB_len b (H++t.args) HP.out.2.2.2.2.1 (fun x hx=>by
    rcases List.mem_append.1 hx with hx | hx
    ·exact HP.out.2.2.2.2.2.2.1 x hx
    ·exact HA.out.1 x hx) (by rw [List.length_append];omega)
   have lenC:=closeTx_length t.args.length
   have htext:textTm (tmL H t b)=headTx H.length t.args++textTm (tmB (H++t.args) b)++closeTx t.args.length:=by unfold tmL;exact lams_text _ _ _
   have CB:∀ (wz:World) (v:Value),Below w.heap.size w wz→Rep (fun _=>True) wz (.sl 35 1 (H++t.args).length (encKs (H++t.args))) v→Calls Tryz.prog 67 #[.pointer (some ⟨bb,0,none⟩),v] wz fun en w'=>en=.returned (str (textTm (tmB (H++t.args) b)))∧Below wz.heap.size wz w':=fun wz v h hr =>
    IH.out _ b (H++t.args) _ v wz hsz ⟨HP.out.1.below h,Rep.below (F':=fun _=>True) h (fun _ _=>trivial) HP.out.2.2.1,hr,HP.out.2.2.2.2.1,HP.out.2.2.2.2.2.1,(fun x hx=>by
     rcases List.mem_append.1 hx with hx | hx
     ·exact HP.out.2.2.2.2.2.2.1 x hx
     ·exact HA.out.1 x hx),by rw [List.length_append];omega⟩
   obtain ⟨R,hR⟩:∃ x,x=headTx H.length t.args:=⟨_,rfl⟩
   obtain ⟨B,hB⟩:∃ x,x=textTm (tmB (H++t.args) b):=⟨_,rfl⟩
   obtain ⟨C,hC⟩:∃ x,x=closeTx t.args.length:=⟨_,rfl⟩
   rw [← hR,← hB,← hC] at htext
   rw [← hR] at lenH ⊢
   rw [← hB] at lenB CB
   rw [← hC] at lenC ⊢
   obtain ⟨O1,h1⟩:∃ x,x=R++B:=⟨_,rfl⟩
   obtain ⟨O2,h2⟩:∃ x,x=O1++C:=⟨_,rfl⟩
   have m1:O1.length=R.length+B.length:=by rw [h1];simp
   have a1:=fun w0=>add_str (P:=Tryz.prog) R B (by omega) w0
   have a2:=fun w0=>add_str (P:=Tryz.prog) O1 C (by omega) w0
   rw [← h1] at a1;rw [← h2] at a2
   have HT:=Lib.hid (show textTm (tmL H t b)=O2 by rw [htext,h2,h1])
   have HCB:=Lib.hid CB
   have HX:=Lib.hid (And.intro hxs (And.intro hfull (And.intro hnews hsrc)))
   have SX:Hid (∀ w',Below wr.heap.size wr w'→w'.cell? ⟨kb,0,none⟩=some (.slice ka t.args.length kc)):=by
    show ∀ w',_→_
    intro w' hb'
    exact (hb'.cell (p:=⟨kb,0,none⟩) (World.block_lt_of_cell? wr _ q1)).trans q1
   clear CB htext h1 h2 m1 lenH lenB lenC hR hB hC hxs hfull hnews hsrc hsp HKR hbR
   by_cases h0:t.args.length=0
   ·have hnil:t.args=[]:=List.eq_nil_of_length_eq_zero h0
    have hsrc0:SrcSl 1 (.slice ka 0 kc) 0 [] wr.drew:=by
     have h:=HX.out.2.2.2
     have hn0:news=[]:=List.eq_nil_of_length_eq_zero (by have:=h.1;rw [h0] at this;simpa using this)
     rw [hn0,h0] at h
     exact h.drew
    have hmxH:H.length≤maxLen:=by unfold maxLen;omega
    have hrH:Rep (fun _=>True) wr.drew (.sl 35 1 (H++t.args).length (encKs (H++t.args))) (.slice la H.length H.length):=by
     rw [hnil,List.append_nil]
     exact (Rep.cutSl HLR).drew
    have HH:=Lib.hid (And.intro hsrc0 (And.intro hrH HB.out.drew))
    rw [h0] at q1 SX ⊢
    clear hnil hrH h0 HLR
    go_upto_region 8 with (fail)
    refine wp_region_noPanic ?_
    refine wp_region_S (fun w'=>Below wr.heap.size wr w') (fun _=>false) (by kernel_rfl) ?_
    have hSd:(fun w'=>Below wr.heap.size wr w') wr.drew:=Below.drew (Below.refl _ _)
    refine tk [0,1,2,3,4,5,6,7,8,9] hSd ?_
    (intro d hd;simp [tkD] at hd;subst hd;simp only [tks,pQ,pZ,pS])
    iterate 10 (refine ⟨?_,?_,?_⟩;rotate_left;· (intro oi ho;simp at ho;subst ho;refine Or.inl ⟨by rfl,fun w' hw'=>?_⟩;have e0:=SX.out w' hw';go_simp;try with_reducible rfl))
    (refine on 10 ?_;intro o ho K' hK;simp at ho;subst ho)
    refine step_append_none (by rfl) _ _ _ (by rfl) 35 (.pointer none) 1 8 Tryz.underlying106 Tryz.infoK la H.length H.length (Nat.le_refl _) hmxH (by rfl) _ (by rfl) hsrc0 ?_
    (refine hK.out _ _ (fun _=>hSd) ?_;clear hK K';try simp only [pQ,pN,pZ,pS])
    (refine on 11 ?_;intro o ho K' hK;simp at ho;subst ho;go_simp)
    (refine hK.out _ _ (fun _=>hSd) ?_;clear hK K';try simp only [pQ,pN,pZ,pS])
    refine wpAnyS_done (by kernel_rfl) (NoPanic.normal ?_) _
    go_wp2_with fail
    (with_reducible refine (HCB.out wr.drew (.slice la H.length H.length) HH.out.2.2 HH.out.2.1).mono ?_)
    rintro en w8 ⟨rfl,hb8⟩
    have HB8:=Lib.hid (HH.out.2.2.trans (hb8.mono (HH.out.2.2).size));clear hb8
    go_wp2_with fail
    go_ret
    exact ⟨by rw [HT.out];rfl,HB8.out⟩
   ·have hpos:0<t.args.length:=by omega
    have hmx:H.length+t.args.length≤maxLen:=by unfold maxLen;omega
    have hby:(H.length+t.args.length)*8≤140737488355328:=by omega
    clear h0 HLR
    go_upto_region 8 with (fail)
    refine wp_region_noPanic ?_
    refine wp_region_S (fun w'=>Below wr.heap.size wr w') (fun _=>false) (by kernel_rfl) ?_
    have hSd:(fun w'=>Below wr.heap.size wr w') wr.drew:=Below.drew (Below.refl _ _)
    refine tk [0,1,2,3,4,5,6,7,8,9] hSd ?_
    (intro d hd;simp [tkD] at hd;subst hd;simp only [tks,pQ,pZ,pS])
    iterate 10 (refine ⟨?_,?_,?_⟩;rotate_left;· (intro oi ho;simp at ho;subst ho;refine Or.inl ⟨by rfl,fun w' hw'=>?_⟩;have e0:=SX.out w' hw';go_simp;try with_reducible rfl))
    (refine on 10 ?_;intro o ho K' hK;simp at ho;subst ho)
    refine step_append_full (by rfl) _ _ _ (by rfl) 35 (.pointer none) 1 8 Tryz.underlying106 Tryz.infoK rfl (.slice la H.length H.length) H.length xs (by rfl) HX.out.2.1.drew _ t.args.length news (by rfl) HX.out.2.2.2.drew hpos hmx hby ?_
    intro c7 w7 ho7 hb7
    (refine hK.out _ _ (fun _=>hSd.trans hb7) ?_;clear hK K';try simp only [pQ,pN,pZ,pS])
    (refine on 11 ?_;intro o ho K' hK;simp at ho;subst ho;go_simp)
    (refine hK.out _ _ (fun _=>hSd.trans hb7) ?_;clear hK K';try simp only [pQ,pN,pZ,pS])
    refine wpAnyS_done (by kernel_rfl) (NoPanic.normal ?_) _
    have hB7:Below w.heap.size w w7:=HB.out.trans ((hSd.trans hb7).mono HB.out.size)
    have hr7:Rep (fun _=>True) w7 (.sl 35 1 (H++t.args).length (encKs (H++t.args))) (.slice (some ⟨wr.heap.size,0,none⟩) (H.length+t.args.length) c7):=by
     rw [List.length_append,encKs_append]
     exact ho7.rep (fun _ _=>trivial) (((Rep.keep fun i x _ hx=>⟨trivial,by rw [(hSd.trans hb7).block i (lt_of_heap hx)];exact hx⟩).2 _ _ HX.out.1).append ((Rep.keep fun i x _ hx=>⟨trivial,by rw [(hSd.trans hb7).block i (lt_of_heap hx)];exact hx⟩).2 _ _ HX.out.2.2.1))
    have HH:=Lib.hid (And.intro hB7 hr7)
    clear ho7 hb7 hB7 hr7
    go_wp2_with fail
    (with_reducible refine (HCB.out w7 _ HH.out.1 HH.out.2).mono ?_)
    rintro en w8 ⟨rfl,hb8⟩
    have HB8:=Lib.hid (HH.out.1.trans (hb8.mono (HH.out.1).size));clear hb8
    go_wp2_with fail
    go_ret
    exact ⟨by rw [HT.out];rfl,HB8.out⟩
set_option maxRecDepth 100000 in
set_option maxHeartbeats 4000000 in
theorem bodyTm_step (N:Nat) (hB:BodyTm N) (hK:KindTm N):BodyTm (N+1):=by
 intro F b H bv lv w hsz hp
 have IB:=Lib.hid hB;have IK:=Lib.hid hK;clear hB hK
 cases b with
 | leaf c =>
   obtain ⟨a0,sl,rfl,_,hblk,_⟩:=leaf_open hp.rb
   have r0:w.cell? ⟨a0,0,none⟩=some (str [c]):=by simp [World.cell?,hblk]
   have CL:=Lib.hid (isList_leaf F w c _ hp.rb)
   obtain ⟨la,lc,rfl,_,_,_⟩:=Rep_sl1_open hp.rl
   clear hblk hp
   go_enter Tryz.func67,Tryz.ntmps67
   go_wp2_with fail
   (with_reducible refine CL.out.mono ?_)
   rintro en w3 ⟨rfl,rfl⟩
   go_wp2_with fail
   go_ret
   exact ⟨by rw [tmB,wd_text];rfl,Below.refl _ _⟩
 | ask v ss y no =>
   obtain ⟨a0,sl,yv,nv,rfl,_,hblk,hss,hy,hno⟩:=ask_open hp.rb
   obtain ⟨la,lc,rfl,_,_,hatH⟩:=Rep_sl1_open hp.rl
   obtain ⟨sa,sc,rfl,_,_,hatS⟩:=Rep_sl1_open hss
   obtain ⟨yb,rfl⟩:=encB_ptr hy
   obtain ⟨nb,rfl⟩:=encB_ptr hno
   have r1:w.cell? ⟨a0,1,none⟩=some (.int .i64 (v:Nat)):=by simp [World.cell?,hblk]
   have r2:w.cell? ⟨a0,2,none⟩=some (.slice sa ss.length sc):=by simp [World.cell?,hblk]
   have r3:w.cell? ⟨a0,3,none⟩=some (.pointer (some ⟨yb,0,none⟩)):=by simp [World.cell?,hblk]
   have r4:w.cell? ⟨a0,4,none⟩=some (.pointer (some ⟨nb,0,none⟩)):=by simp [World.cell?,hblk]
   have ha0:=lt_of_heap hblk
   have CL:=Lib.hid (isList_ask F w v ss y no _ hp.rb)
   have hfit:=hp.fit
   have hwf:=hp.wf
   have hroom:=hp.room
   rw [fitB] at hfit
   rw [wfB] at hwf
   rw [sizeB] at hroom hsz
   obtain ⟨t,ht,f1,f2,f3⟩:=hfit
   have hvl:=(List.getElem?_eq_some_iff.1 ht).1
   have h15:=hp.small t (List.mem_of_getElem? ht)
   have hlen:=fitBs_length _ _ f1
   rw [hands_length] at hlen
   obtain ⟨hb,ho,hu,hd,e,_,hbw,hdd,hc,hrk⟩:=hatH v hvl
   subst e
   rw [encKs_at,ht] at hdd
   simp only [Option.map_some,Option.some.injEq] at hdd
   subst hdd
   obtain ⟨kb,ks,rfl,_,hck,hks⟩:=encK_open hrk
   have hkw:=lt_of_heap hck
   have k1:w.cell? ⟨kb,0,none⟩=some ks:=by simp [World.cell?,hck]
   obtain ⟨ka,kc,rfl,_,_,hatK⟩:=Rep_sl1_open hks
   have CN:=Lib.hid (levelName_any v (by omega) w hp.glob)
   have hvlt:(v:Int)<(H.length:Int):=by omega
   have hss:=sizeB_pos y
   have hsn:=sizeB_pos no
   have HP:=Lib.hid hp
   have HYN:=Lib.hid (And.intro hy hno)
   have HS:=Lib.hid hatS
   have HK:=Lib.hid hatK
   have HQ:=Lib.hid (And.intro ht (And.intro f1 (And.intro f2 (And.intro f3 (And.intro hwf (And.intro h15 (And.intro hlen (And.intro hc (And.intro hkw k1)))))))))
   have hal:=arg_count h15
   have hlen':=hlen
   clear hp hatH hatS hatK hwf ht f1 f2 f3 h15 hck hks hrk hy hno hblk hc
   go_enter Tryz.func67,Tryz.ntmps67
   go_wp2_with fail
   (with_reducible refine CL.out.mono ?_)
   rintro en w1 ⟨rfl,e⟩
   subst w1
   go_wp2_with fail
   (with_reducible refine CN.out.mono ?_)
   rintro en w2 ⟨rfl,hb2⟩
   have z2:=hb2.size
   have r2':=(hb2.cell (p:=⟨a0,2,none⟩) ha0).trans r2
   have HB2:=Lib.hid hb2
   clear hb2 CL CN
   go_wp2_with fail
   go_loopw [5,25] (fun ax i wr=>∃ k:Nat,k≤ss.length∧i=.int .i64 k∧ax=str (textTm (tmApps H (.nm (lname v)) (t.args.take k) (ss.take k)))∧Below w.heap.size w wr) (fun _ i _=>ss.length-(intOf i).toNat)
   case atStart=>exact ⟨0,Nat.zero_le _,rfl,by rw [List.take_zero,List.take_zero,tmApps_nil,nm_text],HB2.out⟩
   case round =>
    rename_i wr
    obtain ⟨k,hk,rfl,rfl,hbr⟩:=hrel
    have HB:=Lib.hid hbr;clear hbr r2'
    by_cases hlt:k<ss.length
    ·have hlt':(k:Int)<(ss.length:Int):=by omega
     have hltk:(k:Int)<(t.args.length:Int):=by omega
     have hltkn:k<t.args.length:=by omega
     obtain ⟨sb,so,su,sd,e,_,hsw,hsd,hsc,hsr⟩:=HS.out k hlt
     subst e
     rw [encBs_at,Option.map_eq_some_iff] at hsd
     obtain ⟨s,hs,rfl⟩:=hsd
     obtain ⟨sp,rfl⟩:=encB_ptr hsr
     obtain ⟨ab,ao,au,ad,e,_,haw,had,hac,har⟩:=HK.out k hltkn
     subst e
     rw [encKs_at,Option.map_eq_some_iff] at had
     obtain ⟨a,ha,rfl⟩:=had
     obtain ⟨ap,_,rfl,_⟩:=encK_open har
     have q1:=(HB.out.cell (p:=⟨a0,1,none⟩) ha0).trans r1
     have q2:=(HB.out.cell (p:=⟨sb,so+k,none⟩) hsw).trans hsc
     have q3:=(HB.out.cell (p:=⟨hb,ho+v,none⟩) hbw).trans HQ.out.2.2.2.2.2.2.2.1
     have q4:=(HB.out.cell (p:=⟨kb,0,none⟩) HQ.out.2.2.2.2.2.2.2.2.1).trans HQ.out.2.2.2.2.2.2.2.2.2
     have q5:=(HB.out.cell (p:=⟨ab,ao+k,none⟩) haw).trans hac
     have hf:=fitBs_atW HQ.out.2.1 ha hs
     have hszs:=mem_sizeBs (List.mem_of_getElem? hs)
     have h15a:=arg_small HQ.out.2.2.2.2.2.1 a (List.mem_of_getElem? ha)
     have C1:=IK.out F a s H (.pointer (some ⟨ap,0,none⟩)) (.pointer (some ⟨sp,0,none⟩)) (.slice (some ⟨hb,ho,none⟩) H.length lc) wr (by omega) (HP.out.glob.below HB.out) (Rep.below HB.out (fun _ h=>h) har) (Rep.below HB.out (fun _ h=>h) hsr) (Rep.below HB.out (fun _ h=>h) HP.out.rl) hf (wfBs_at _ HQ.out.2.2.2.2.1.1 k s hs) HP.out.small h15a (by omega)
     have lenA:=tmApps_len (ss.take k) H (t.args.take k) (.nm (lname v)) (fitBs_take HQ.out.2.1 k) HP.out.small (fun x hx=>arg_small HQ.out.2.2.2.2.2.1 x (List.mem_of_mem_take hx)) (by have:=sizeBs_take_le ss k;omega)
     have hst:=sizeBs_take_le ss k
     have lenN:=lname_len (v:=v) (by omega)
     rw [nm_text] at lenA
     have lenT:(textTm (tmL H a s)).length≤1900*sizeB s+900:=by
      have h1:=tmB_len s (H++a.args) hf (fun x hx=>by
       rcases List.mem_append.1 hx with hx | hx
       ·exact HP.out.small x hx
       ·exact arg_small h15a x hx) (by have:=arg_count h15a;rw [List.length_append];omega)
      have h3:=headTx_len a.args H.length (arg_small h15a) (by have:=arg_count h15a;omega)
      have h4:=arg_count h15a
      unfold tmL
      rw [lams_text,List.length_append,List.length_append,closeTx_length]
      omega
     have hstep:textTm (tmApps H (.nm (lname v)) (t.args.take (k+1)) (ss.take (k+1)))=[40,97,112,112,32]++textTm (tmApps H (.nm (lname v)) (t.args.take k) (ss.take k))++[32]++textTm (tmL H a s)++[41]:=by
      have e1:t.args.take (k+1)=t.args.take k++[a]:=by rw [List.take_add_one,ha];rfl
      have e2:ss.take (k+1)=ss.take k++[s]:=by rw [List.take_add_one,hs];rfl
      rw [e1,e2,tmApps_snoc _ _ _ _ _ _ (by rw [List.length_take,List.length_take];omega),apps_text]
     obtain ⟨A,hA⟩:∃ x,x=textTm (tmApps H (.nm (lname v)) (t.args.take k) (ss.take k)):=⟨_,rfl⟩
     obtain ⟨T,hT⟩:∃ x,x=textTm (tmL H a s):=⟨_,rfl⟩
     rw [← hA] at lenA hstep ⊢
     rw [← hT] at lenT hstep C1
     obtain ⟨O1,h1⟩:∃ x,x=[40,97,112,112,32]++A:=⟨_,rfl⟩
     obtain ⟨O2,h2⟩:∃ x,x=O1++[32]:=⟨_,rfl⟩
     obtain ⟨O3,h3⟩:∃ x,x=O2++T:=⟨_,rfl⟩
     obtain ⟨O4,h4⟩:∃ x,x=O3++[41]:=⟨_,rfl⟩
     have m1:O1.length=A.length+5:=by rw [h1];simp
     have m2:O2.length=O1.length+1:=by rw [h2];simp
     have m3:O3.length=O2.length+T.length:=by rw [h3];simp
     have a1:=fun w0=>add_str (P:=Tryz.prog) [40,97,112,112,32] A (by simp;omega) w0
     have a2:=fun w0=>add_str (P:=Tryz.prog) O1 [32] (by simp;omega) w0
     have a3:=fun w0=>add_str (P:=Tryz.prog) O2 T (by omega) w0
     have a4:=fun w0=>add_str (P:=Tryz.prog) O3 [41] (by simp;omega) w0
     rw [← h1] at a1;rw [← h2] at a2;rw [← h3] at a3;rw [← h4] at a4
     have HST:=Lib.hid (show textTm (tmApps H (.nm (lname v)) (t.args.take (k+1)) (ss.take (k+1)))=O4 by rw [hstep,h4,h3,h2,h1])
     have HC1:=Lib.hid C1
     clear C1 hstep h1 h2 h3 h4 m1 m2 m3 lenA lenT lenN hA hT hsr har hs ha hsc hac hf hszs h15a hst
     go_wp2_with fail
     (with_reducible refine HC1.out.mono ?_)
     rintro en w4 ⟨rfl,hb4⟩
     have HB4:=Lib.hid (HB.out.trans (hb4.mono HB.out.size));clear hb4
     go_wp2_with fail
     go_roundw
     case rel=>exact ⟨k+1,by omega,by go_num,by rw [HST.out],HB4.out⟩
     case measure=>simp [intOf];omega
    ·obtain rfl:k=ss.length:=by omega
     have q3:=(HB.out.cell (p:=⟨a0,3,none⟩) ha0).trans r3
     have q4:=(HB.out.cell (p:=⟨a0,4,none⟩) ha0).trans r4
     have CY:∀ wz,Below w.heap.size w wz→Calls Tryz.prog 67 #[.pointer (some ⟨yb,0,none⟩),.slice (some ⟨hb,ho,none⟩) H.length lc] wz fun en w'=>en=.returned (str (textTm (tmB H y)))∧Below wz.heap.size wz w':=fun wz h =>
      IB.out F y H _ _ wz (by omega) ⟨HP.out.glob.below h,Rep.below h (fun _ h=>h) HYN.out.1,Rep.below h (fun _ h=>h) HP.out.rl,HQ.out.2.2.1,HQ.out.2.2.2.2.1.2.1,HP.out.small,by omega⟩
     have CN2:∀ wz,Below w.heap.size w wz→Calls Tryz.prog 67 #[.pointer (some ⟨nb,0,none⟩),.slice (some ⟨hb,ho,none⟩) H.length lc] wz fun en w'=>en=.returned (str (textTm (tmB H no)))∧Below wz.heap.size wz w':=fun wz h =>
      IB.out F no H _ _ wz (by omega) ⟨HP.out.glob.below h,Rep.below h (fun _ h=>h) HYN.out.2,Rep.below h (fun _ h=>h) HP.out.rl,HQ.out.2.2.2.1,HQ.out.2.2.2.2.1.2.2,HP.out.small,by omega⟩
     have lenA:=tmApps_len ss H t.args (.nm (lname v)) HQ.out.2.1 HP.out.small (arg_small HQ.out.2.2.2.2.2.1) (by omega)
     have lenY:=tmB_len y H HQ.out.2.2.1 HP.out.small (by omega)
     have lenZ:=tmB_len no H HQ.out.2.2.2.1 HP.out.small (by omega)
     have lenN:=lname_len (v:=v) (by omega)
     rw [nm_text] at lenA
     have htext:textTm (tmB H (.ask v ss y no))=[40,105,102,32]++textTm (tmApps H (.nm (lname v)) t.args ss)++[32]++textTm (tmB H y)++[32]++textTm (tmB H no)++[41]:=by
      have e:(H[v]?.map Ty.args).getD []=t.args:=by rw [HQ.out.1];rfl
      rw [tmB,ite_text,e]
     have htk:t.args.take ss.length=t.args:=List.take_of_length_le (by omega)
     rw [htk,List.take_length]
     obtain ⟨A,hA⟩:∃ x,x=textTm (tmApps H (.nm (lname v)) t.args ss):=⟨_,rfl⟩
     obtain ⟨Y,hY⟩:∃ x,x=textTm (tmB H y):=⟨_,rfl⟩
     obtain ⟨Z,hZ⟩:∃ x,x=textTm (tmB H no):=⟨_,rfl⟩
     rw [← hA,← hY,← hZ] at htext
     rw [← hA] at lenA ⊢
     rw [← hY] at lenY CY
     rw [← hZ] at lenZ CN2
     obtain ⟨O1,h1⟩:∃ x,x=[40,105,102,32]++A:=⟨_,rfl⟩
     obtain ⟨O2,h2⟩:∃ x,x=O1++[32]:=⟨_,rfl⟩
     obtain ⟨O3,h3⟩:∃ x,x=O2++Y:=⟨_,rfl⟩
     obtain ⟨O4,h4⟩:∃ x,x=O3++[32]:=⟨_,rfl⟩
     obtain ⟨O5,h5⟩:∃ x,x=O4++Z:=⟨_,rfl⟩
     obtain ⟨O6,h6⟩:∃ x,x=O5++[41]:=⟨_,rfl⟩
     have m1:O1.length=A.length+4:=by rw [h1];simp
     have m2:O2.length=O1.length+1:=by rw [h2];simp
     have m3:O3.length=O2.length+Y.length:=by rw [h3];simp
     have m4:O4.length=O3.length+1:=by rw [h4];simp
     have m5:O5.length=O4.length+Z.length:=by rw [h5];simp
     have a1:=fun w0=>add_str (P:=Tryz.prog) [40,105,102,32] A (by simp;omega) w0
     have a2:=fun w0=>add_str (P:=Tryz.prog) O1 [32] (by simp;omega) w0
     have a3:=fun w0=>add_str (P:=Tryz.prog) O2 Y (by omega) w0
     have a4:=fun w0=>add_str (P:=Tryz.prog) O3 [32] (by simp;omega) w0
     have a5:=fun w0=>add_str (P:=Tryz.prog) O4 Z (by omega) w0
     have a6:=fun w0=>add_str (P:=Tryz.prog) O5 [41] (by simp;omega) w0
     rw [← h1] at a1;rw [← h2] at a2;rw [← h3] at a3;rw [← h4] at a4;rw [← h5] at a5;rw [← h6] at a6
     have HT:=Lib.hid (show textTm (tmB H (.ask v ss y no))=O6 by rw [htext,h6,h5,h4,h3,h2,h1])
     have HCY:=Lib.hid (CY wr.drew HB.out.drew);have HCN:=Lib.hid CN2
     have SX:Hid (∀ w',Below wr.heap.size wr w'→w'.cell? ⟨a0,3,none⟩=some (.pointer (some ⟨yb,0,none⟩))∧w'.cell? ⟨a0,4,none⟩=some (.pointer (some ⟨nb,0,none⟩))):=by
      show ∀ w',_→_
      intro w' hb'
      exact ⟨(hb'.cell (World.block_lt_of_cell? wr _ q3)).trans q3,(hb'.cell (World.block_lt_of_cell? wr _ q4)).trans q4⟩
     clear CY CN2 htext htk h1 h2 h3 h4 h5 h6 m1 m2 m3 m4 m5 lenA lenY lenZ lenN hA hY hZ r1 r2 r3 r4
     go_upto_region 9 with (fail)
     refine wp_region_noPanic ?_
     refine wp_region_S (fun w'=>Below wr.heap.size wr w') (fun _=>false) (by kernel_rfl) ?_
     have hSd:(fun w'=>Below wr.heap.size wr w') wr.drew:=Below.drew (Below.refl _ _)
     refine tk [0,1,2,3,4,5,6,7,11,12,13,14,15] hSd ?_
     (intro d hd;simp [tkD] at hd;subst hd;simp only [tks,pQ,pZ,pS])
     iterate 13 (refine ⟨?_,?_,?_⟩;rotate_left;· (intro oi ho;simp at ho;subst ho;refine Or.inl ⟨by rfl,fun w' hw'=>?_⟩;obtain ⟨e0,e1⟩:=SX.out w' hw';go_simp;try with_reducible rfl))
     (refine on 8 ?_;intro o ho K' hK;simp at ho;subst ho;go_simp)
     go_at_call 67
     (with_reducible refine HCY.out.mono ?_)
     rintro en6 w6 ⟨rfl,hb6⟩
     have HB6:Hid (Below wr.heap.size wr w6):=hSd.trans hb6
     have CN6:=Lib.hid (HCN.out w6 (HB.out.trans (HB6.out.mono HB.out.size)))
     clear hb6
     (refine hK.out _ _ (fun _=>HB6.out) ?_;clear hK K';try simp only [pQ,pN,pZ,pS])
     have hS8:=HB6.out
     refine tk [9,10] hS8 ?_
     (intro d hd;simp [tkD] at hd;subst hd;simp only [tks,pQ,pZ,pS])
     iterate 2 (refine ⟨?_,?_,?_⟩;rotate_left;· (intro oi ho;simp at ho;subst ho;refine Or.inl ⟨by rfl,fun w' hw'=>?_⟩;go_simp;try with_reducible rfl))
     (refine on 16 ?_;intro o ho K' hK;simp at ho;subst ho;go_simp)
     go_at_call 67
     (with_reducible refine CN6.out.mono ?_)
     rintro en7 w7 ⟨rfl,hb7⟩
     have HB7:Hid (Below wr.heap.size wr w7):=HB6.out.trans (hb7.mono HB6.out.size)
     clear hb7
     (refine hK.out _ _ (fun _=>HB7.out) ?_;clear hK K';try simp only [pQ,pN,pZ,pS])
     have hS16:=HB7.out
     refine tk [17,18] hS16 ?_
     (intro d hd;simp [tkD] at hd;subst hd;simp only [tks,pQ,pZ,pS])
     iterate 2 (refine ⟨?_,?_,?_⟩;rotate_left;· (intro oi ho;simp at ho;subst ho;refine Or.inl ⟨by rfl,fun w' hw'=>?_⟩;go_simp;try with_reducible rfl))
     (refine on 19 ?_;intro o ho K' hK;simp at ho;subst ho;go_simp)
     (refine hK.out _ _ (fun _=>HB7.out) ?_;clear hK K';try simp only [pQ,pN,pZ,pS])
     refine wpAnyS_done (by kernel_rfl) (NoPanic.normal ?_) _
     go_wp2_with fail
     go_ret
     exact ⟨by rw [HT.out];rfl,HB.out.trans (HB7.out.mono HB.out.size)⟩
theorem tm_any (N:Nat):BodyTm N:=by
 induction N with
 | zero=>exact fun F b H bv lv w h=>by have:=sizeB_pos b;omega
 | succ N ih=>exact bodyTm_step N ih (kindTm_step N ih)
theorem kindTm_any (N:Nat):KindTm N:=kindTm_step N (tm_any N)
end Go.Proofs.YtllmjhbopmkpoaaGreatDoor

import Derived.Test.YtapjaflnmklmeaaGreatDoorW24
import Derived.Test.YtapjaflnmklmeaaGreatDoorP36
import Derived.Test.YtapjaflnmklmeaaGreatDoorC1
/- The walks of impl's means, meant, meaningOf, TermStrategy and TermAlike. -/
set_option linter.unusedVariables false
set_option linter.unusedSimpArgs false
namespace Go.Proofs.YtapjaflnmklmeaaGreatDoor
open Go.RowKit
structure MnPre (F:Nat→Prop) (t:Tm) (ns:List Nm) (k:Ty) (tv lv:Value) (w:World):Prop where
 glob:GlobE w
 rt:Rep F w (encTm t) tv
 rl:Rep F w (.sl 105 2 ns.length (encNms ns)) lv
 ok:okTm t
 n15:∀ a∈kinds ns,atomsT a≤15
 room:ns.length+sizeTm t≤100
 ty:typeOf ns t=some k
def MeansSaid (N:Nat):Prop:=∀ (F:Nat→Prop) (t:Tm) (ns:List Nm) (k:Ty) (tv lv:Value) (w:World),sizeTm t≤N→MnPre F t ns k tv lv w→Calls Tryz.prog 32 #[tv,lv] w (BecPost F w (meanOf ns t))
def MeantSaid (N:Nat):Prop:=∀ (F:Nat→Prop) (t:Tm) (ns:List Nm) (k:Ty) (tv lv:Value) (w:World),sizeTm t≤N→MnPre F t ns k tv lv w→Calls Tryz.prog 52 #[tv,lv] w (BecPost F w (meantOf ns t))
theorem BecPost.no {F:Nat→Prop} {w w':World} {o:Option Bd} (ho:o=none) (hb:Below w.heap.size w w'):BecPost F w o (.returned (.pointer none)) w' :=
 ⟨_,rfl,hb,fun _=>rfl,fun k h=>by rw [ho] at h;simp at h⟩
theorem BecPost.yes {F:Nat→Prop} {w w':World} {o:Option Bd} {k:Bd} {v:Value} (ho:o=some k) (hb:Below w.heap.size w w') (hr:Rep (fun i=>F i∨w.heap.size≤i) w' (encB k) v):BecPost F w o (.returned v) w' :=
 ⟨_,rfl,hb,fun h=>by rw [ho] at h;simp at h,fun k' h=>by rw [ho] at h;obtain rfl:=Option.some.inj h;exact hr⟩
set_option maxRecDepth 100000 in
set_option maxHeartbeats 4000000 in
theorem means_step (N:Nat) (ih:MeantSaid N):MeansSaid N:=by
 intro F t ns k tv lv w hN hp
 have C0:=Lib.hid (ih F t ns k tv lv w hN hp)
 have HM:=Lib.hid (mean_meant t ns)
 have HP:=Lib.hid hp.n15
 obtain ⟨tb,rfl⟩:=encTm_ptr hp.rt
 obtain ⟨la,lc,rfl,_,_⟩:=AtNms.of hp.rl
 clear hp ih
 go_enter Tryz.func32,Tryz.ntmps32
 go_wp2_with fail
 (with_reducible refine C0.out.mono ?_)
 rintro en w1 ⟨v,rfl,hb1,hn1,hy1⟩
 cases hq:meantOf ns t with
 | none =>
   obtain rfl:=hn1 hq
   have HQ:=Lib.hid (show meanOf ns t=none by rw [HM.out,hq];rfl)
   have HB:=Lib.hid hb1
   clear hq hn1 hy1 hb1
   go_wp2_with fail
   go_ret
   exact BecPost.no HQ.out HB.out
 | some b =>
   have hrb:=hy1 b hq
   obtain ⟨bb,rfl⟩:=encB_ptr hrb
   have hsz:=meant_size t ns b HP.out hq
   have CF:=Lib.hid (fits2_any _ w1 b _ hrb hsz)
   have HR:=Lib.hid hrb
   have HB:=Lib.hid hb1
   have HQ:=Lib.hid (show meanOf ns t=smallB b by rw [HM.out,hq];rfl)
   clear hq hn1 hy1 hb1 hrb hsz
   rw [small_fits] at CF
   by_cases h2:sizeB b≤200
   ·have HE:=Lib.hid (show meanOf ns t=some b by rw [HQ.out,small_of h2])
    rw [decide_eq_true h2] at CF
    clear h2
    go_wp2_with fail
    (with_reducible refine CF.out.mono ?_)
    rintro en w2 ⟨rfl,hb2⟩
    have HB2:=Lib.hid (HB.out.trans (hb2.mono HB.out.size))
    have HR2:=Lib.hid (Rep.below (F':=fun i=>F i∨w.heap.size≤i) hb2 (fun _ h=>h) HR.out)
    clear hb2
    go_wp2_with fail
    go_ret
    exact BecPost.yes HE.out HB2.out HR2.out
   ·have HE:=Lib.hid (show meanOf ns t=none by rw [HQ.out];unfold smallB;rw [if_neg h2])
    rw [decide_eq_false h2] at CF
    clear h2
    go_wp2_with fail
    (with_reducible refine CF.out.mono ?_)
    rintro en w2 ⟨rfl,hb2⟩
    have HB2:=Lib.hid (HB.out.trans (hb2.mono HB.out.size))
    clear hb2
    go_wp2_with fail
    go_ret
    exact BecPost.no HE.out HB2.out
set_option maxRecDepth 100000 in
set_option maxHeartbeats 4000000 in
theorem meant_nm (F:Nat→Prop) (x:Bs) (ns:List Nm) (k:Ty) (tv lv:Value) (w:World) (hp:MnPre F (.nm x) ns k tv lv w):Calls Tryz.prog 52 #[tv,lv] w (BecPost F w (meantOf ns (.nm x))):=by
 obtain ⟨tb,kv,slv,rfl,_,hblk,_,_,_⟩:=encTm_open hp.rt
 simp only [tmWord,tmName] at hblk
 have t0:w.cell? ⟨tb,0,none⟩=some (str []):=by simp [World.cell?,hblk]
 have t1:w.cell? ⟨tb,1,none⟩=some (str x):=by simp [World.cell?,hblk]
 have hn:ns.length≤100:=by have:=hp.room;omega
 have CF:=find_any F ns x lv w (by omega) hp.rl
 obtain ⟨la,lc,rfl,hlc,hat⟩:=AtNms.of hp.rl
 have hty:=hp.ty
 rw [typeOf,Option.bind_eq_some_iff] at hty
 obtain ⟨i,hi,hik⟩:=hty
 rw [Option.map_eq_some_iff] at hik
 obtain ⟨⟨y0,k0⟩,hk0,_⟩:=hik
 have hlt:i<ns.length:=(List.getElem?_eq_some_iff.1 hk0).1
 obtain ⟨b,o,y,t,kb,e,hb,hp',h1,h2,hrk⟩:=hat i hlt
 subst e
 have h15:=hp.n15 t (List.mem_of_getElem? (kinds_at hp'))
 have HT:=Lib.hid (show meantOf ns (.nm x)=some (eta t i ns.length) by rw [meantOf,hi,Option.bind_some,hp'];rfl)
 have CC:=Lib.hid (copyOf_any 15 t h15 h15 F _ i ns.length w hrk (by omega) (by omega))
 rw [hi] at CF
 simp only [levelOf] at CF
 have CF':=Lib.hid CF
 have hiI:(i:Int)<(ns.length:Int):=by omega
 clear hp hat hblk hi CF hlc hk0 hp' h1 hrk hb
 go_enter Tryz.func52,Tryz.ntmps52
 go_wp2_with fail
 (with_reducible refine CF'.out.mono ?_)
 rintro en w1 ⟨rfl,e⟩
 subst w1
 go_wp2_with fail
 (with_reducible refine CC.out.mono ?_)
 rintro en w1 ⟨p,rfl,hb1,hr1⟩
 have HB:=Lib.hid (And.intro hb1 hr1)
 clear hb1 hr1
 go_wp2_with fail
 go_ret
 exact BecPost.yes HT.out HB.out.1 (HB.out.2.weak fun _ h=>.inr h)
set_option maxRecDepth 100000 in
set_option maxHeartbeats 4000000 in
theorem meant_wd (F:Nat→Prop) (u:Bs) (ns:List Nm) (k:Ty) (tv lv:Value) (w:World) (hp:MnPre F (.wd u) ns k tv lv w):Calls Tryz.prog 52 #[tv,lv] w (BecPost F w (meantOf ns (.wd u))):=by
 obtain ⟨tb,kv,slv,rfl,_,hblk,_,_,_⟩:=encTm_open hp.rt
 simp only [tmWord,tmName] at hblk
 have t0:w.cell? ⟨tb,0,none⟩=some (str u):=by simp [World.cell?,hblk]
 have hok:leafW u=true:=hp.ok
 simp only [leafW,Bool.or_eq_true,beq_iff_eq] at hok
 obtain ⟨la,lc,rfl,_,_⟩:=AtNms.of hp.rl
 clear hp hblk
 rcases hok with (rfl | rfl) | rfl
 ·go_enter Tryz.func52,Tryz.ntmps52
  go_wp2_with fail
  go_ret
  exact BecPost.yes (by rw [meantOf];rfl) ((Below.refl _ _).alloc (Nat.le_refl _) _) ((leaf_new (heap_new _ _) (Nat.le_refl _)).weak fun _ h=>.inr h)
 ·go_enter Tryz.func52,Tryz.ntmps52
  go_wp2_with fail
  go_ret
  exact BecPost.yes (by rw [meantOf];rfl) ((Below.refl _ _).alloc (Nat.le_refl _) _) ((leaf_new (heap_new _ _) (Nat.le_refl _)).weak fun _ h=>.inr h)
 ·go_enter Tryz.func52,Tryz.ntmps52
  go_wp2_with fail
  go_ret
  exact BecPost.yes (by rw [meantOf];rfl) ((Below.refl _ _).alloc (Nat.le_refl _) _) ((leaf_new (heap_new _ _) (Nat.le_refl _)).weak fun _ h=>.inr h)
set_option maxRecDepth 100000 in
set_option maxHeartbeats 4000000 in
theorem meant_lam (N:Nat) (ih:MeansSaid N) (F:Nat→Prop) (x:Bs) (k:Ty) (t:Tm) (ns:List Nm) (kt:Ty) (tv lv:Value) (w:World) (hN:sizeTm (.lam x k t)≤N+1) (hp:MnPre F (.lam x k t) ns kt tv lv w):Calls Tryz.prog 52 #[tv,lv] w (BecPost F w (meantOf ns (.lam x k t))):=by
 obtain ⟨tb,kv,slv,rfl,_,hblk,_,hkd,hps⟩:=encTm_open hp.rt
 have hk:=hkd k rfl
 obtain ⟨kb,_,e,_⟩:=encK_open hk
 subst e
 obtain ⟨pa,pc,rfl,_,_,hat⟩:=Rep_sl1_open hps
 simp only [tmWord,tmName,lamW] at hblk
 obtain ⟨pb0,po0,pu0,pd0,pe0,_,pw0,pq0,pc0,pr0⟩:=hat 0 (by simp [tmParts])
 simp only [tmParts,List.map_cons,List.map_nil,List.getElem?_cons_zero,List.getElem?_cons_succ,Option.some.injEq] at pq0
 subst pq0
 obtain ⟨ub0,e0⟩:=encTm_ptr pr0
 subst e0
 subst pe0
 have t0:w.cell? ⟨tb,0,none⟩=some (str [108,97,109]):=by simp [World.cell?,hblk]
 have t1:w.cell? ⟨tb,1,none⟩=some (str x):=by simp [World.cell?,hblk]
 have t2:w.cell? ⟨tb,2,none⟩=some (.pointer (some ⟨kb,0,none⟩)):=by simp [World.cell?,hblk]
 have t3:w.cell? ⟨tb,3,none⟩=some (.slice (some ⟨pb0,po0,none⟩) 1 pc):=by simp [World.cell?,hblk,tmParts]
 have hroom:=hp.room
 have hok:=hp.ok
 rw [sizeTm] at hroom hN
 have hak:=atomsT_pos k
 have hlen:ns.length≤99:=by omega
 obtain ⟨h15,kb2,hkb2,_⟩:=type_lam hp.ty
 obtain ⟨xs,hxs,hfull⟩:∃ xs,Reps F w (encNms ns) xs∧∃ a c,lv=.slice a ns.length c∧FullSl 2 (.slice a ns.length ns.length) ns.length xs w:=by
  obtain ⟨a,c,e,_,_⟩:=AtNms.of hp.rl
  have hr:=hp.rl
  rw [e] at hr
  obtain ⟨xs,h1,h2⟩:=FullSl.ofRep hr (oneNm ns)
  exact ⟨xs,h1,a,c,e,h2⟩
 obtain ⟨la,lc,rfl,hfull⟩:=hfull
 have hlc:ns.length≤lc:=by obtain ⟨a,c,e,h,_⟩:=AtNms.of hp.rl;simp only [Value.slice.injEq] at e;obtain ⟨_,_,rfl⟩:=e;exact h
 have SX:Hid (∀ w',Below w.heap.size w w'→w'.cell? ⟨tb,1,none⟩=some (str x)∧w'.cell? ⟨tb,2,none⟩=some (.pointer (some ⟨kb,0,none⟩))∧w'.cell? ⟨tb,3,none⟩=some (.slice (some ⟨pb0,po0,none⟩) 1 pc)∧w'.cell? ⟨pb0,po0,none⟩=some (.pointer (some ⟨ub0,0,none⟩))):=by
  show ∀ w',_→_
  intro w' hb'
  exact ⟨(hb'.cell (World.block_lt_of_cell? w _ t1)).trans t1,(hb'.cell (World.block_lt_of_cell? w _ t2)).trans t2,(hb'.cell (World.block_lt_of_cell? w _ t3)).trans t3,(hb'.cell pw0).trans pc0⟩
 have HX:=Lib.hid (And.intro hxs hfull)
 have HP:=Lib.hid (And.intro hp (And.intro hk (And.intro pr0 hkb2)))
 have IH:=Lib.hid ih
 have HK:=Lib.hid (And.intro h15 (And.intro hok hN))
 have h63:ns.length+1≤maxLen:=by unfold maxLen;omega
 have hby:(ns.length+1)*24≤140737488355328:=by omega
 clear hp hat hps hk hkd hblk h15 pr0 hxs hfull hok ih hN hkb2
 go_enter Tryz.func52,Tryz.ntmps52
 go_wp2_with fail
 refine wp_region_noPanic ?_
 refine wp_region_S (fun w'=>Below w.heap.size w w') (fun _=>false) (by kernel_rfl) ?_
 have hSd:(fun w'=>Below w.heap.size w w') w.drew:=Below.drew (Below.refl _ _)
 refine tk [0,1,2,3,4,5,6,7,8,9,10,11,12,13,14,15,16,17,18,19,20] hSd ?_
 (intro d hd;simp [tkD] at hd;subst hd;simp only [tks,pQ,pZ,pS])
 iterate 21 (refine ⟨?_,?_,?_⟩;rotate_left;· (intro oi ho;simp at ho;subst ho;refine Or.inl ⟨by rfl,fun w' hw'=>?_⟩;obtain ⟨e0,e1,e2,e3⟩:=SX.out w' hw';go_simp;try with_reducible rfl))
 (refine on 21 ?_;intro o ho K' hK;simp at ho;subst ho;go_simp)
 (refine hK.out _ _ (fun _=>hSd.alloc (Nat.le_refl _) _) ?_;clear hK K';try simp only [pQ,pN,pZ,pS])
 (refine on 22 ?_;intro o ho K' hK;simp at ho;subst ho)
 have hs8:SrcSl 2 (.slice (some ⟨w.heap.size,0,none⟩) 1 1) 1 [str x,.pointer (some ⟨kb,0,none⟩)] (w.drew.alloc (.cells #[str x,.pointer (some ⟨kb,0,none⟩)] 105)):=SrcSl.lit1 #[str x,.pointer (some ⟨kb,0,none⟩)] rfl (by simp [str,Value.oneCell']) _ (by rfl)
 have hf8:FullSl 2 (.slice la ns.length ns.length) ns.length xs (w.drew.alloc (.cells #[str x,.pointer (some ⟨kb,0,none⟩)] 105)):=HX.out.2.drew.alloc _
 refine step_append_full (by rfl) _ _ _ (by rfl) 105 (.agg #[str [],.pointer none]) 2 24 Tryz.underlying99 Tryz.infoBound rfl (.slice la ns.length ns.length) ns.length xs (by rfl) hf8 _ 1 _ (by rfl) hs8 (by omega) h63 hby ?_
 intro c7 w7 ho7 hb7
 have e8:(w.alloc (.cells #[str x,.pointer (some ⟨kb,0,none⟩)] 105)).drew.heap.size=w.heap.size+1:=by simp
 rw [e8] at ho7
 have hB7:Below w.heap.size w w7:=(hSd.alloc (Nat.le_refl _) _).trans (hb7.mono (hSd.alloc (Nat.le_refl _) _).size)
 (refine hK.out _ _ (fun _=>hB7) ?_;clear hK K';try simp only [pQ,pN,pZ,pS])
 (refine on 23 ?_;intro o ho K' hK;simp at ho;subst ho)
 have hr7:Rep (fun i=>F i∨w.heap.size≤i) w7 (.sl 105 2 (ns++[(x,k)]).length (encNms (ns++[(x,k)]))) (.slice (some ⟨w.heap.size+1,0,none⟩) (ns.length+1) c7):=by
  rw [List.length_append,encNms_append]
  refine ho7.rep (fun g hg=>.inr (by simp [Value.ownBlock] at hg;subst hg;exact Nat.le_succ _)) ?_
  exact (Reps.below hB7 (fun _ h=>.inl h) HX.out.1).append (Reps_cons.2 ⟨_,_,rfl,Rep_val.2 rfl,Reps_cons.2 ⟨_,_,rfl,Rep.below hB7 (fun _ h=>.inl h) HP.out.2.1,Reps_nil.2 rfl⟩⟩)
 have CT:=Lib.hid (IH.out (fun i=>F i∨w.heap.size≤i) t (ns++[(x,k)]) kb2 (.pointer (some ⟨ub0,0,none⟩)) _ w7 (by have:=HK.out.2.2;omega) ⟨HP.out.1.glob.below hB7,Rep.below hB7 (fun _ h=>.inl h) HP.out.2.2.1,hr7,HK.out.2.1.2,(fun a ha=>by
  rw [kinds_snoc] at ha
  rcases List.mem_append.1 ha with ha | ha
  ·exact HP.out.1.n15 a ha
  ·simp at ha;subst ha;exact HK.out.1),by rw [List.length_append];simp;omega,HP.out.2.2.2⟩)
 have HB7:=Lib.hid hB7
 clear hr7 ho7 hb7 hB7
 go_simp
 go_at_call 32
 (with_reducible refine CT.out.mono ?_)
 rintro en w9 ⟨bv,rfl,hb9,hn9,hy9⟩
 have HB9:=Lib.hid (HB7.out.trans (hb9.mono HB7.out.size))
 have HY:=Lib.hid (And.intro hn9 hy9)
 have z7:=HB7.out.size
 clear hb9 hn9 hy9
 (refine hK.out _ _ (fun _=>HB9.out) ?_;clear hK K';try simp only [pQ,pN,pZ,pS])
 (refine on 24 ?_;intro o ho K' hK;simp at ho;subst ho;go_simp)
 (refine hK.out _ _ (fun _=>HB9.out) ?_;clear hK K';try simp only [pQ,pN,pZ,pS])
 refine wpAnyS_done (by kernel_rfl) (NoPanic.normal ?_) _
 go_wp2_with fail
 go_ret
 rw [meantOf]
 exact ⟨bv,rfl,HB9.out,HY.out.1,fun b h=>(HY.out.2 b h).weak fun i h=>by rcases h with h | h;exact h;exact .inr (by omega)⟩
set_option maxRecDepth 100000 in
set_option maxHeartbeats 4000000 in
theorem meant_app (N:Nat) (ih:MeansSaid N) (F:Nat→Prop) (m n:Tm) (ns:List Nm) (kt:Ty) (tv lv:Value) (w:World) (hN:sizeTm (.app m n)≤N+1) (hp:MnPre F (.app m n) ns kt tv lv w):Calls Tryz.prog 52 #[tv,lv] w (BecPost F w (meantOf ns (.app m n))):=by
 obtain ⟨tb,kv,slv,rfl,_,hblk,_,_,hps⟩:=encTm_open hp.rt
 obtain ⟨pa,pc,rfl,_,_,hat⟩:=Rep_sl1_open hps
 simp only [tmWord,tmName,appW] at hblk
 obtain ⟨pb0,po0,pu0,pd0,pe0,_,pw0,pq0,pc0,pr0⟩:=hat 0 (by simp [tmParts])
 simp only [tmParts,List.map_cons,List.map_nil,List.getElem?_cons_zero,List.getElem?_cons_succ,Option.some.injEq] at pq0
 subst pq0
 obtain ⟨ub0,e0⟩:=encTm_ptr pr0
 subst e0
 subst pe0
 obtain ⟨pb1,po1,pu1,pd1,pe1,_,pw1,pq1,pc1,pr1⟩:=hat 1 (by simp [tmParts])
 simp only [tmParts,List.map_cons,List.map_nil,List.getElem?_cons_zero,List.getElem?_cons_succ,Option.some.injEq] at pq1
 subst pq1
 obtain ⟨ub1,e1⟩:=encTm_ptr pr1
 subst e1
 simp only [Option.some.injEq,Addr.mk.injEq,and_true] at pe1
 obtain ⟨rfl,rfl⟩:=pe1
 have t0:w.cell? ⟨tb,0,none⟩=some (str [97,112,112]):=by simp [World.cell?,hblk]
 have t3:w.cell? ⟨tb,3,none⟩=some (.slice (some ⟨pb0,po0,none⟩) 2 pc):=by simp [World.cell?,hblk,tmParts]
 have hroom:=hp.room
 have hok:=hp.ok
 have hty:=hp.ty
 have CT:=Lib.hid (fun wz (hz:Below w.heap.size w wz)=>typed_any (sizeTm (.app m n)) F (.app m n) ns _ _ wz (Nat.le_refl _) ⟨Rep.below hz (fun _ h=>h) hp.rt,Rep.below hz (fun _ h=>h) hp.rl,hp.ok,hp.n15,by omega⟩)
 rw [sizeTm] at hroom hN
 obtain ⟨a,c,rest,ha1,ha2,hts,rfl⟩:=type_app hty
 obtain ⟨la,lc,rfl,_,_⟩:=AtNms.of hp.rl
 have SX:Hid (∀ w',Below w.heap.size w w'→w'.cell? ⟨tb,3,none⟩=some (.slice (some ⟨pb0,po0,none⟩) 2 pc)∧w'.cell? ⟨pb0,po0,none⟩=some (.pointer (some ⟨ub0,0,none⟩))∧w'.cell? ⟨pb0,po0+1,none⟩=some (.pointer (some ⟨ub1,0,none⟩))):=by
  show ∀ w',_→_
  intro w' hb'
  exact ⟨(hb'.cell (World.block_lt_of_cell? w _ t3)).trans t3,(hb'.cell pw0).trans pc0,(hb'.cell pw1).trans pc1⟩
 have C0:=Lib.hid (fun wz (hz:Below w.heap.size w wz)=>ih F m ns _ (.pointer (some ⟨ub0,0,none⟩)) (.slice la ns.length lc) wz (by omega) ⟨hp.glob.below hz,Rep.below hz (fun _ h=>h) pr0,Rep.below hz (fun _ h=>h) hp.rl,hok.1,hp.n15,by omega,ha1⟩)
 have C1:=Lib.hid (fun wz (hz:Below w.heap.size w wz)=>ih F n ns _ (.pointer (some ⟨ub1,0,none⟩)) (.slice la ns.length lc) wz (by omega) ⟨hp.glob.below hz,Rep.below hz (fun _ h=>h) pr1,Rep.below hz (fun _ h=>h) hp.rl,hok.2,hp.n15,by omega,ha2⟩)
 have HP:=Lib.hid (And.intro hp hok)
 clear hp hat hps hblk hok hN ih pr0 pc0 pw0 pr1 pc1 pw1
 go_enter Tryz.func52,Tryz.ntmps52
 go_wp2_with fail
 refine wp_region_noPanic ?_
 refine wp_region_S (fun w'=>Below w.heap.size w w') (fun _=>false) (by kernel_rfl) ?_
 have hSd:(fun w'=>Below w.heap.size w w') w.drew:=Below.drew (Below.refl _ _)
 refine tk [0,1,2,3,4,5,6,8,9,10,11,12,13,14] hSd ?_
 (intro d hd;simp [tkD] at hd;subst hd;simp only [tks,pQ,pZ,pS])
 iterate 14 (refine ⟨?_,?_,?_⟩;rotate_left;· (intro oi ho;simp at ho;subst ho;refine Or.inl ⟨by rfl,fun w' hw'=>?_⟩;obtain ⟨e0,e1,e2⟩:=SX.out w' hw';go_simp;try with_reducible rfl))
 (refine on 7 ?_;intro o ho K' hK;simp at ho;subst ho;go_simp)
 go_at_call 32
 (with_reducible refine (C0.out _ hSd).mono ?_)
 rintro en v0 ⟨x0,rfl,hb0,hn0,hy0⟩
 have HB0:Hid (Below w.heap.size w v0):=hSd.trans hb0
 have HY0:Hid ((meanOf ns m=none→x0=.pointer none)∧(∀ k,meanOf ns m=some k→Rep (fun i=>F i∨w.heap.size≤i) v0 (encB k) x0)):=⟨hn0,fun k h=>(hy0 k h).weak fun i h=>by rcases h with h | h;exact .inl h;exact .inr (h)⟩
 have HC0:=Lib.hid hb0
 clear hb0 hn0 hy0
 (refine hK.out _ _ (fun _=>HB0.out) ?_;clear hK K';try simp only [pQ,pN,pZ,pS])
 have hS7:=HB0.out
 (refine on 15 ?_;intro o ho K' hK;simp at ho;subst ho;go_simp)
 go_at_call 32
 (with_reducible refine (C1.out _ HB0.out).mono ?_)
 rintro en v1 ⟨x1,rfl,hb1,hn1,hy1⟩
 have HB1:Hid (Below w.heap.size w v1):=HB0.out.trans (hb1.mono HB0.out.size)
 have HY1:Hid ((meanOf ns n=none→x1=.pointer none)∧(∀ k,meanOf ns n=some k→Rep (fun i=>F i∨w.heap.size≤i) v1 (encB k) x1)):=⟨hn1,fun k h=>(hy1 k h).weak fun i h=>by rcases h with h | h;exact .inl h;exact .inr (Nat.le_trans HB0.out.size h)⟩
 have HC1:=Lib.hid hb1
 clear hb1 hn1 hy1
 (refine hK.out _ _ (fun _=>HB1.out) ?_;clear hK K';try simp only [pQ,pN,pZ,pS])
 have hS15:=HB1.out
 refine tk [16,17] hS15 ?_
 (intro d hd;simp [tkD] at hd;subst hd;simp only [tks,pQ,pZ,pS])
 iterate 2 (refine ⟨?_,?_,?_⟩;rotate_left;· (intro oi ho;simp at ho;subst ho;refine Or.inl ⟨by rfl,fun w' hw'=>?_⟩;go_simp;try with_reducible rfl))
 refine wpAnyS_done (by kernel_rfl) (NoPanic.normal ?_) _
 clear t3 C0 C1
 cases hm:meanOf ns m with
 | none =>
   obtain rfl:=HY0.out.1 hm
   have HQ:=Lib.hid (show meantOf ns (.app m n)=none by rw [meantOf,meanOf,hm];rfl)
   clear hm
   go_wp2_with fail
   go_ret
   exact BecPost.no HQ.out HB1.out
 | some p =>
   have hrp:=Rep.below (F':=fun i=>F i∨w.heap.size≤i) HC1.out (fun _ h=>h) (HY0.out.2 p hm)
   obtain ⟨pp,rfl⟩:=encB_ptr hrp
   cases hn:meanOf ns n with
   | none =>
     obtain rfl:=HY1.out.1 hn
     have HQ:=Lib.hid (show meantOf ns (.app m n)=none by rw [meantOf,meanOf,hm,hn];rfl)
     clear hm hn hrp
     go_wp2_with fail
     go_ret
     exact BecPost.no HQ.out HB1.out
   | some q =>
     have hrq:=HY1.out.2 q hn
     obtain ⟨qp,rfl⟩:=encB_ptr hrq
     obtain ⟨f1,w1,s1⟩:=mean_good m ns a p HP.out.2.1 HP.out.1.n15 ha1 hm
     obtain ⟨f2,w2,s2⟩:=mean_good n ns c q HP.out.2.2 HP.out.1.n15 ha2 hn
     rw [hts] at f1
     have hfit:=between_fit f2 f1
     have ha15:=type_small m ns a HP.out.1.n15 ha1
     have hc15:=type_small n ns c HP.out.1.n15 ha2
     have hr15:∀ t∈rest,atomsT t≤15:=fun t ht=>arg_small ha15 t (by rw [hts];simp [ht])
     have hrl:rest.length≤100:=by have:=arg_count ha15;rw [hts] at this;simp at this;omega
     have HT:=Lib.hid (show meantOf ns (.app m n)=become p (betweenEnv (kinds ns) c q rest) ((kinds ns).length+rest.length) by
      rw [meantOf,meanOf,hm,hn,Option.bind_some,Option.bind_some,ha1,Option.bind_some,hts,kinds_length])
     have CK:=Lib.hid (kindsOf_any F ns _ v1 (by omega) (Rep.below HB1.out (fun _ h=>h) HP.out.1.rl))
     have HA:=Lib.hid (And.intro hrp (And.intro hrq (And.intro hfit (And.intro hc15 hr15))))
     have hnl:ns.length≤100:=by omega
     clear hm hn hrp hrq f1 f2 w1 w2 s1 s2 hts hfit ha15 hc15 hr15 ha1 ha2
     go_wp2_with fail
     (with_reducible refine CK.out.mono ?_)
     rintro en v2 ⟨ka,kc,rfl,hb2,hr2⟩
     have HB2:=Lib.hid (HB1.out.trans (hb2.mono HB1.out.size))
     have HK2:=Lib.hid (And.intro hb2 hr2)
     have CT2:=Lib.hid (CT.out v2 HB2.out)
     clear hb2 hr2 CK
     go_wp2_with fail
     (with_reducible refine CT2.out.mono ?_)
     rintro en v3 ⟨tv3,rfl,hb3,hn3,hy3⟩
     have hr3:=hy3 _ hty
     obtain ⟨rb,rk,rfl,_,hrb,hrr⟩:=encK_open hr3
     have hrr:Rep (fun i=>F i∨v2.heap.size≤i) v3 (.sl 43 1 rest.length (encKs rest)) rk:=hrr
     have q0:v3.cell? ⟨rb,0,none⟩=some rk:=by simp [World.cell?,hrb]
     obtain ⟨ra,rc,rfl,_,_,_⟩:=Rep_sl1_open hrr
     have HB3:=Lib.hid (HB2.out.trans (hb3.mono HB2.out.size))
     have z1:=HB1.out.size
     have z2:=HB2.out.size
     have CA:Hid (Calls Tryz.prog 71 #[.pointer (some ⟨pp,0,none⟩),.pointer (some ⟨qp,0,none⟩),.slice ka ns.length kc,.slice ra rest.length rc] v3 (BecPost (fun i=>F i∨w.heap.size≤i) v3 (become p (betweenEnv (kinds ns) c q rest) ((kinds ns).length+rest.length)))):=by
      have hb23:=HK2.out.1.trans (hb3.mono HK2.out.1.size)
      have e:ns.length=(kinds ns).length:=(kinds_length ns).symm
      have hrb3:Rep (fun i=>F i∨w.heap.size≤i) v3 (.sl 43 1 ns.length (encKs (kinds ns))) (.slice ka ns.length kc):=(Rep.below hb3 (fun _ h=>h) HK2.out.2).weak fun i h=>by rcases h with h | h;exact .inl h;exact .inr (by omega)
      have hrr3:Rep (fun i=>F i∨w.heap.size≤i) v3 (.sl 43 1 rest.length (encKs rest)) (.slice ra rest.length rc):=hrr.weak fun i h=>by rcases h with h | h;exact .inl h;exact .inr (by omega)
      rw [e] at hrb3 ⊢
      exact apply_any _ (kinds ns) rest c p q _ _ _ _ v3 ⟨HP.out.1.glob.below HB3.out,HA.out.2.2.1,HA.out.2.2.2.1,by rw [kinds_length];exact hnl,hrl,HP.out.1.n15,HA.out.2.2.2.2,Rep.below hb23 (fun _ h=>h) HA.out.1,Rep.below hb23 (fun _ h=>h) HA.out.2.1,hrb3,hrr3⟩
     clear hr3 hrb hrr hn3 hy3 hb3 CT2
     go_wp2_with fail
     (with_reducible refine CA.out.mono ?_)
     rintro en v4 ⟨bv,rfl,hb4,hn4,hy4⟩
     have HB4:=Lib.hid (And.intro (HB3.out.trans (hb4.mono HB3.out.size)) (And.intro hn4 hy4))
     have z3:=HB3.out.size
     clear hb4 hn4 hy4
     go_wp2_with fail
     go_ret
     rw [HT.out]
     exact ⟨bv,rfl,HB4.out.1,HB4.out.2.1,fun b h=>(HB4.out.2.2 b h).weak fun i h=>by rcases h with h | h;exact h;exact .inr (by omega)⟩
set_option maxRecDepth 100000 in
set_option maxHeartbeats 4000000 in
theorem meant_ite (N:Nat) (ih:MeansSaid N) (F:Nat→Prop) (l m n:Tm) (ns:List Nm) (kt:Ty) (tv lv:Value) (w:World) (hN:sizeTm (.ite l m n)≤N+1) (hp:MnPre F (.ite l m n) ns kt tv lv w):Calls Tryz.prog 52 #[tv,lv] w (BecPost F w (meantOf ns (.ite l m n))):=by
 obtain ⟨tb,kv,slv,rfl,_,hblk,_,_,hps⟩:=encTm_open hp.rt
 obtain ⟨pa,pc,rfl,_,_,hat⟩:=Rep_sl1_open hps
 simp only [tmWord,tmName,ifW] at hblk
 obtain ⟨pb0,po0,pu0,pd0,pe0,_,pw0,pq0,pc0,pr0⟩:=hat 0 (by simp [tmParts])
 simp only [tmParts,List.map_cons,List.map_nil,List.getElem?_cons_zero,List.getElem?_cons_succ,Option.some.injEq] at pq0
 subst pq0
 obtain ⟨ub0,e0⟩:=encTm_ptr pr0
 subst e0
 subst pe0
 obtain ⟨pb1,po1,pu1,pd1,pe1,_,pw1,pq1,pc1,pr1⟩:=hat 1 (by simp [tmParts])
 simp only [tmParts,List.map_cons,List.map_nil,List.getElem?_cons_zero,List.getElem?_cons_succ,Option.some.injEq] at pq1
 subst pq1
 obtain ⟨ub1,e1⟩:=encTm_ptr pr1
 subst e1
 simp only [Option.some.injEq,Addr.mk.injEq,and_true] at pe1
 obtain ⟨rfl,rfl⟩:=pe1
 obtain ⟨pb2,po2,pu2,pd2,pe2,_,pw2,pq2,pc2,pr2⟩:=hat 2 (by simp [tmParts])
 simp only [tmParts,List.map_cons,List.map_nil,List.getElem?_cons_zero,List.getElem?_cons_succ,Option.some.injEq] at pq2
 subst pq2
 obtain ⟨ub2,e2⟩:=encTm_ptr pr2
 subst e2
 simp only [Option.some.injEq,Addr.mk.injEq,and_true] at pe2
 obtain ⟨rfl,rfl⟩:=pe2
 have t0:w.cell? ⟨tb,0,none⟩=some (str [105,102]):=by simp [World.cell?,hblk]
 have t3:w.cell? ⟨tb,3,none⟩=some (.slice (some ⟨pb0,po0,none⟩) 3 pc):=by simp [World.cell?,hblk,tmParts]
 have hroom:=hp.room
 have hok:=hp.ok
 have hty:=hp.ty
 have CT:=Lib.hid (fun wz (hz:Below w.heap.size w wz)=>typed_any (sizeTm (.ite l m n)) F (.ite l m n) ns _ _ wz (Nat.le_refl _) ⟨Rep.below hz (fun _ h=>h) hp.rt,Rep.below hz (fun _ h=>h) hp.rl,hp.ok,hp.n15,by omega⟩)
 rw [sizeTm] at hroom hN
 obtain ⟨ha1,ha2,ha3⟩:=type_ite hty
 obtain ⟨la,lc,rfl,_,_⟩:=AtNms.of hp.rl
 have SX:Hid (∀ w',Below w.heap.size w w'→w'.cell? ⟨tb,3,none⟩=some (.slice (some ⟨pb0,po0,none⟩) 3 pc)∧w'.cell? ⟨pb0,po0,none⟩=some (.pointer (some ⟨ub0,0,none⟩))∧w'.cell? ⟨pb0,po0+1,none⟩=some (.pointer (some ⟨ub1,0,none⟩))∧w'.cell? ⟨pb0,po0+2,none⟩=some (.pointer (some ⟨ub2,0,none⟩))):=by
  show ∀ w',_→_
  intro w' hb'
  exact ⟨(hb'.cell (World.block_lt_of_cell? w _ t3)).trans t3,(hb'.cell pw0).trans pc0,(hb'.cell pw1).trans pc1,(hb'.cell pw2).trans pc2⟩
 have C0:=Lib.hid (fun wz (hz:Below w.heap.size w wz)=>ih F l ns _ (.pointer (some ⟨ub0,0,none⟩)) (.slice la ns.length lc) wz (by omega) ⟨hp.glob.below hz,Rep.below hz (fun _ h=>h) pr0,Rep.below hz (fun _ h=>h) hp.rl,hok.1,hp.n15,by omega,ha1⟩)
 have C1:=Lib.hid (fun wz (hz:Below w.heap.size w wz)=>ih F m ns _ (.pointer (some ⟨ub1,0,none⟩)) (.slice la ns.length lc) wz (by omega) ⟨hp.glob.below hz,Rep.below hz (fun _ h=>h) pr1,Rep.below hz (fun _ h=>h) hp.rl,hok.2.1,hp.n15,by omega,ha2⟩)
 have C2:=Lib.hid (fun wz (hz:Below w.heap.size w wz)=>ih F n ns _ (.pointer (some ⟨ub2,0,none⟩)) (.slice la ns.length lc) wz (by omega) ⟨hp.glob.below hz,Rep.below hz (fun _ h=>h) pr2,Rep.below hz (fun _ h=>h) hp.rl,hok.2.2,hp.n15,by omega,ha3⟩)
 have HP:=Lib.hid (And.intro hp hok)
 clear hp hat hps hblk hok hN ih pr0 pc0 pw0 pr1 pc1 pw1 pr2 pc2 pw2
 go_enter Tryz.func52,Tryz.ntmps52
 go_wp2_with fail
 refine wp_region_noPanic ?_
 refine wp_region_S (fun w'=>Below w.heap.size w w') (fun _=>false) (by kernel_rfl) ?_
 have hSd:(fun w'=>Below w.heap.size w w') w.drew:=Below.drew (Below.refl _ _)
 refine tk [0,1,2,3,4,5,6,8,9,10,11,12,13,14,16,17,18,19,20,21,22] hSd ?_
 (intro d hd;simp [tkD] at hd;subst hd;simp only [tks,pQ,pZ,pS])
 iterate 21 (refine ⟨?_,?_,?_⟩;rotate_left;· (intro oi ho;simp at ho;subst ho;refine Or.inl ⟨by rfl,fun w' hw'=>?_⟩;obtain ⟨e0,e1,e2,e3⟩:=SX.out w' hw';go_simp;try with_reducible rfl))
 (refine on 7 ?_;intro o ho K' hK;simp at ho;subst ho;go_simp)
 go_at_call 32
 (with_reducible refine (C0.out _ hSd).mono ?_)
 rintro en v0 ⟨x0,rfl,hb0,hn0,hy0⟩
 have HB0:Hid (Below w.heap.size w v0):=hSd.trans hb0
 have HY0:Hid ((meanOf ns l=none→x0=.pointer none)∧(∀ k,meanOf ns l=some k→Rep (fun i=>F i∨w.heap.size≤i) v0 (encB k) x0)):=⟨hn0,fun k h=>(hy0 k h).weak fun i h=>by rcases h with h | h;exact .inl h;exact .inr (h)⟩
 have HC0:=Lib.hid hb0
 clear hb0 hn0 hy0
 (refine hK.out _ _ (fun _=>HB0.out) ?_;clear hK K';try simp only [pQ,pN,pZ,pS])
 have hS7:=HB0.out
 (refine on 15 ?_;intro o ho K' hK;simp at ho;subst ho;go_simp)
 go_at_call 32
 (with_reducible refine (C1.out _ HB0.out).mono ?_)
 rintro en v1 ⟨x1,rfl,hb1,hn1,hy1⟩
 have HB1:Hid (Below w.heap.size w v1):=HB0.out.trans (hb1.mono HB0.out.size)
 have HY1:Hid ((meanOf ns m=none→x1=.pointer none)∧(∀ k,meanOf ns m=some k→Rep (fun i=>F i∨w.heap.size≤i) v1 (encB k) x1)):=⟨hn1,fun k h=>(hy1 k h).weak fun i h=>by rcases h with h | h;exact .inl h;exact .inr (Nat.le_trans HB0.out.size h)⟩
 have HC1:=Lib.hid hb1
 clear hb1 hn1 hy1
 (refine hK.out _ _ (fun _=>HB1.out) ?_;clear hK K';try simp only [pQ,pN,pZ,pS])
 have hS15:=HB1.out
 (refine on 23 ?_;intro o ho K' hK;simp at ho;subst ho;go_simp)
 go_at_call 32
 (with_reducible refine (C2.out _ HB1.out).mono ?_)
 rintro en v2 ⟨x2,rfl,hb2,hn2,hy2⟩
 have HB2:Hid (Below w.heap.size w v2):=HB1.out.trans (hb2.mono HB1.out.size)
 have HY2:Hid ((meanOf ns n=none→x2=.pointer none)∧(∀ k,meanOf ns n=some k→Rep (fun i=>F i∨w.heap.size≤i) v2 (encB k) x2)):=⟨hn2,fun k h=>(hy2 k h).weak fun i h=>by rcases h with h | h;exact .inl h;exact .inr (Nat.le_trans HB1.out.size h)⟩
 have HC2:=Lib.hid hb2
 clear hb2 hn2 hy2
 (refine hK.out _ _ (fun _=>HB2.out) ?_;clear hK K';try simp only [pQ,pN,pZ,pS])
 have hS23:=HB2.out
 refine tk [24,25,26] hS23 ?_
 (intro d hd;simp [tkD] at hd;subst hd;simp only [tks,pQ,pZ,pS])
 iterate 3 (refine ⟨?_,?_,?_⟩;rotate_left;· (intro oi ho;simp at ho;subst ho;refine Or.inl ⟨by rfl,fun w' hw'=>?_⟩;go_simp;try with_reducible rfl))
 refine wpAnyS_done (by kernel_rfl) (NoPanic.normal ?_) _
 clear t3 C0 C1 C2
 cases hl:meanOf ns l with
 | none =>
   obtain rfl:=HY0.out.1 hl
   have HQ:=Lib.hid (show meantOf ns (.ite l m n)=none by rw [meantOf,hl];rfl)
   clear hl
   go_wp2_with fail
   go_ret
   exact BecPost.no HQ.out HB2.out
 | some p =>
   have hrp:=Rep.below (F':=fun i=>F i∨w.heap.size≤i) HC2.out (fun _ h=>h) (Rep.below (F':=fun i=>F i∨w.heap.size≤i) HC1.out (fun _ h=>h) (HY0.out.2 p hl))
   obtain ⟨pp,rfl⟩:=encB_ptr hrp
   cases hm:meanOf ns m with
   | none =>
     obtain rfl:=HY1.out.1 hm
     have HQ:=Lib.hid (show meantOf ns (.ite l m n)=none by rw [meantOf,hl,hm];rfl)
     clear hl hm hrp
     go_wp2_with fail
     go_ret
     exact BecPost.no HQ.out HB2.out
   | some q =>
     have hrq:=Rep.below (F':=fun i=>F i∨w.heap.size≤i) HC2.out (fun _ h=>h) (HY1.out.2 q hm)
     obtain ⟨qp,rfl⟩:=encB_ptr hrq
     cases hn:meanOf ns n with
     | none =>
       obtain rfl:=HY2.out.1 hn
       have HQ:=Lib.hid (show meantOf ns (.ite l m n)=none by rw [meantOf,hl,hm,hn];rfl)
       clear hl hm hn hrp hrq
       go_wp2_with fail
       go_ret
       exact BecPost.no HQ.out HB2.out
     | some r =>
       have hrr:=HY2.out.2 r hn
       obtain ⟨rp,rfl⟩:=encB_ptr hrr
       obtain ⟨f1,w1,s1⟩:=mean_good l ns _ p HP.out.2.1 HP.out.1.n15 ha1 hl
       have hk15:=type_small m ns kt HP.out.1.n15 ha2
       have hkl:=arg_count hk15
       have hlv:lvB p:=fit_lv 200 p (kinds ns++(Ty.mk []).args) s1 f1 (fun t ht=>by
        rcases List.mem_append.1 ht with ht | ht
        ·exact HP.out.1.n15 t ht
        ·simp [Ty.args] at ht) (by rw [List.length_append,kinds_length];simp [Ty.args];omega)
       have HT:=Lib.hid (show meantOf ns (.ite l m n)=some (graftB (shiftB p ns.length kt.args.length) q r) by
        rw [meantOf,hl,hm,hn,Option.bind_some,Option.bind_some,Option.bind_some,ha2,Option.bind_some])
       have CT2:=Lib.hid (CT.out v2 HB2.out)
       have HA:=Lib.hid (And.intro hrp (And.intro hrq (And.intro hrr (And.intro hlv (And.intro s1 w1)))))
       have hnl:ns.length≤100:=by omega
       clear hl hm hn hrp hrq hrr f1 w1 s1 hk15 ha1 ha2 ha3 hlv
       go_wp2_with fail
       (with_reducible refine CT2.out.mono ?_)
       rintro en v3 ⟨tv3,rfl,hb3,hn3,hy3⟩
       have hr3:=hy3 _ hty
       obtain ⟨rb,rk,rfl,_,hrb,hrr⟩:=encK_open hr3
       have q0:v3.cell? ⟨rb,0,none⟩=some rk:=by simp [World.cell?,hrb]
       obtain ⟨ra,rc,rfl,_,_,_⟩:=Rep_sl1_open hrr
       have HB3:=Lib.hid (HB2.out.trans (hb3.mono HB2.out.size))
       have z2:=HB2.out.size
       have CR:=Lib.hid (raised_any (sizeB p) (fun i=>F i∨w.heap.size≤i) p ns.length kt.args.length _ v3 (Nat.le_refl _) (by have:=HA.out.2.2.2.2.1;omega) HA.out.2.2.2.1 (by omega) (by omega) (Rep.below hb3 (fun _ h=>h) HA.out.1))
       have HQ3:=Lib.hid (And.intro (Rep.below (F':=fun i=>F i∨w.heap.size≤i) hb3 (fun _ h=>h) HA.out.2.1) (Rep.below (F':=fun i=>F i∨w.heap.size≤i) hb3 (fun _ h=>h) HA.out.2.2.1))
       clear hr3 hrb hrr hn3 hy3 hb3 CT2
       go_wp2_with fail
       (with_reducible refine CR.out.mono ?_)
       rintro en v4 ⟨sp,rfl,hb4,hr4⟩
       have z3:=HB3.out.size
       have HB4:=Lib.hid (HB3.out.trans (hb4.mono HB3.out.size))
       have hr4':Rep (fun i=>F i∨w.heap.size≤i) v4 (encB (shiftB p ns.length kt.args.length)) (.pointer (some ⟨sp,0,none⟩)):=hr4.weak fun i h=>by rcases h with h | h;exact h;exact .inr (by omega)
       have CG:=Lib.hid (answered_any _ (fun i=>F i∨w.heap.size≤i) (shiftB p ns.length kt.args.length) q r _ _ _ v4 (Nat.le_refl _) (shift_wf _ _ _ HA.out.2.2.2.2.2) hr4' (Rep.below hb4 (fun _ h=>h) HQ3.out.1) (Rep.below hb4 (fun _ h=>h) HQ3.out.2))
       clear hr4 hr4' hb4 q0 CR
       go_wp2_with fail
       (with_reducible refine CG.out.mono ?_)
       rintro en v5 ⟨gp,rfl,hb5,hr5⟩
       have z4:=HB4.out.size
       have HB5:=Lib.hid (And.intro (HB4.out.trans (hb5.mono HB4.out.size)) hr5)
       clear hb5 hr5
       go_wp2_with fail
       go_ret
       exact BecPost.yes HT.out HB5.out.1 (HB5.out.2.weak fun i h=>by rcases h with h | h;exact h;exact .inr (by omega))
theorem meant_step (N:Nat) (ih:MeansSaid N):MeantSaid (N+1):=by
 intro F t ns k tv lv w h hp
 cases t with
 | nm x=>exact meant_nm F x ns k tv lv w hp
 | wd u=>exact meant_wd F u ns k tv lv w hp
 | lam x k1 t=>exact meant_lam N ih F x k1 t ns k tv lv w h hp
 | app m n=>exact meant_app N ih F m n ns k tv lv w h hp
 | ite l m n=>exact meant_ite N ih F l m n ns k tv lv w h hp
theorem meant_any (N:Nat):MeantSaid N:=by
 induction N with
 | zero=>exact fun F t ns k tv lv w h=>by have:=sizeTm_pos t;omega
 | succ N ih=>exact meant_step N (means_step N ih)
theorem means_any (N:Nat):MeansSaid N:=means_step N (meant_any N)
end Go.Proofs.YtapjaflnmklmeaaGreatDoor
namespace Go.Proofs.YtapjaflnmklmeaaGreatDoor
open Go.RowKit
def MofPost (w:World) (o:Option (Ty×Bd)) (en:Ending) (w':World):Prop :=
 ∃ kv bv,en=.returned (.tuple #[kv,bv])∧Below w.heap.size w w'∧(o=none→bv=.pointer none)∧∀ x,o=some x→Rep (w.heap.size≤·) w' (encK x.1) kv∧Rep (w.heap.size≤·) w' (encB x.2) bv
theorem nil_names (F:Nat→Prop) (w:World):Rep F w (.sl 105 2 ([]:List Nm).length (encNms [])) (.slice none 0 0) :=
 Rep_sl.2 ⟨rfl,none,0,rfl,Nat.le_refl _,fun _=>rfl,.inl rfl⟩
set_option maxHeartbeats 1000000 in
theorem meaningOf_any (s:Bs) (w:World) (he:GlobE w) (hs:Lim s.length) :
 Calls Tryz.prog 12 #[str s] w (MofPost w (meaning s)):=by
 have C0:=Lib.hid (readTerm_any s w hs)
 have HE:=Lib.hid he
 clear he hs
 go_enter Tryz.func12,Tryz.ntmps12
 go_wp2_with fail
 (with_reducible refine C0.out.mono ?_)
 rintro en w1 ⟨v,rfl,hb1,hn1,hy1⟩
 cases ht:implTerm s with
 | none =>
   obtain rfl:=hn1 ht
   have HM:=Lib.hid (show meaning s=none by unfold meaning;rw [ht];rfl)
   have HB:=Lib.hid hb1
   clear ht hn1 hy1 hb1
   go_wp2_with fail
   go_ret2
   exact ⟨_,_,rfl,HB.out,fun _=>rfl,fun x h=>by rw [HM.out] at h;simp at h⟩
 | some t =>
   have hr:=hy1 t ht
   obtain ⟨tb,rfl⟩:=encTm_ptr hr
   obtain ⟨_,hok,h60⟩:=implTerm_some ht
   have CT:=Lib.hid (typed_any (sizeTm t) (w.heap.size≤·) t [] _ _ w1 (Nat.le_refl _) ⟨hr,nil_names _ _,hok,by simp [kinds],by simp;omega⟩)
   have HT:=Lib.hid (And.intro hr (And.intro hok h60))
   have HB:=Lib.hid hb1
   have HM:=Lib.hid (show meaning s=(typeOf [] t).bind fun k=>(meanOf [] t).map fun b=>(k,b) by unfold meaning;rw [ht];rfl)
   clear ht hn1 hy1 hb1 hr hok h60
   go_wp2_with fail
   (with_reducible refine CT.out.mono ?_)
   rintro en w2 ⟨kv,rfl,hb2,hn2,hy2⟩
   have HB2:=Lib.hid (HB.out.trans (hb2.mono HB.out.size))
   cases hk:typeOf [] t with
   | none =>
     obtain rfl:=hn2 hk
     have HM2:=Lib.hid (show meaning s=none by rw [HM.out,hk];rfl)
     clear hk hn2 hy2 hb2
     go_wp2_with fail
     go_ret2
     exact ⟨_,_,rfl,HB2.out,fun _=>rfl,fun x h=>by rw [HM2.out] at h;simp at h⟩
   | some k =>
     have hrk:Rep (w.heap.size≤·) w2 (encK k) kv:=(hy2 k hk).weak fun i h=>by rcases h with h | h;exact h;exact Nat.le_trans HB.out.size h
     obtain ⟨kb,_,e,_⟩:=encK_open hrk
     subst e
     have CM:=Lib.hid (means_any (sizeTm t) (w.heap.size≤·) t [] k _ _ w2 (Nat.le_refl _) ⟨HE.out.below HB2.out,Rep.below hb2 (fun _ h=>h) HT.out.1,nil_names _ _,HT.out.2.1,by simp [kinds],by have:=HT.out.2.2;simp;omega,hk⟩)
     have HK:=Lib.hid hrk
     have HM2:=Lib.hid (show meaning s=(meanOf [] t).map fun b=>(k,b) by rw [HM.out,hk];rfl)
     clear hk hn2 hy2 hb2 hrk
     go_wp2_with fail
     (with_reducible refine CM.out.mono ?_)
     rintro en w3 ⟨bv,rfl,hb3,hn3,hy3⟩
     have HB3:=Lib.hid (And.intro (HB2.out.trans (hb3.mono HB2.out.size)) (And.intro (Rep.below (F':=(w.heap.size≤·)) hb3 (fun _ h=>h) HK.out) (And.intro hn3 hy3)))
     have z2:=HB2.out.size
     clear hb3 hn3 hy3
     go_wp2_with fail
     go_ret2
     refine ⟨_,_,rfl,HB3.out.1,fun h=>?_,fun x h=>?_⟩
     ·rw [HM2.out,Option.map_eq_none_iff] at h
      exact HB3.out.2.2.1 h
     ·rw [HM2.out,Option.map_eq_some_iff] at h
      obtain ⟨b,hb,rfl⟩:=h
      exact ⟨HB3.out.2.1,(HB3.out.2.2.2 b hb).weak fun i h=>by rcases h with h | h;exact h;exact Nat.le_trans z2 h⟩
def strat (s:Bs):Option Bs:=(meaning s).map fun x=>textB x.2
set_option maxHeartbeats 1000000 in
theorem implTermStrategy_any (s:Bs) (w:World) (hg:Glob w) (he:GlobE w) (hs:Lim s.length) :
 Calls Tryz.prog 6 #[str s] w fun en w'=>en=.returned (.tuple #[str ((strat s).getD []),.bool (strat s).isSome])∧Below w.heap.size w w':=by
 have C0:=Lib.hid (meaningOf_any s w he hs)
 have HG:=Lib.hid hg
 clear hg he hs
 go_enter Tryz.func6,Tryz.ntmps6
 go_wp2_with fail
 (with_reducible refine C0.out.mono ?_)
 rintro en w1 ⟨kv,bv,rfl,hb1,hn1,hy1⟩
 cases hq:meaning s with
 | none =>
   obtain rfl:=hn1 hq
   have HM:=Lib.hid (show strat s=none by unfold strat;rw [hq];rfl)
   have HB:=Lib.hid hb1
   clear hq hn1 hy1 hb1
   go_wp2_with fail
   go_ret2
   exact ⟨by rw [HM.out];rfl,HB.out⟩
 | some x =>
   obtain ⟨k,b⟩:=x
   obtain ⟨rk,rb⟩:=hy1 _ hq
   obtain ⟨_,hgood⟩:=meaning_good hq
   obtain ⟨bb,rfl⟩:=encB_ptr rb
   have CT:=Lib.hid (text_any (sizeB b) b (Nat.le_refl _) (by have:=hgood.size;omega) hgood.lv _ w1 _ (HG.out.below hb1) rb)
   have HM:=Lib.hid (show strat s=some (textB b) by unfold strat;rw [hq];rfl)
   have HB:=Lib.hid hb1
   clear hq hn1 hy1 hb1 rk rb hgood
   go_wp2_with fail
   (with_reducible refine CT.out.mono ?_)
   rintro en w2 ⟨rfl,hb2⟩
   have HB2:=Lib.hid (HB.out.trans (hb2.mono HB.out.size))
   clear hb2
   go_wp2_with fail
   go_ret2
   exact ⟨by rw [HM.out];rfl,HB2.out⟩
end Go.Proofs.YtapjaflnmklmeaaGreatDoor
namespace Go.Proofs.YtapjaflnmklmeaaGreatDoor
open Go.RowKit
def alikeI (a b:Bs):Bool:=match meaning a,meaning b with
 | some x,some y=>(textT x.1 == textT y.1) && (textB x.2 == textB y.2)
 | _,_=>false
set_option maxRecDepth 20000 in
set_option maxHeartbeats 2000000 in
theorem implTermAlike_any (a b:Bs) (w:World) (hg:Glob w) (he:GlobE w) (ha:Lim a.length) (hb:Lim b.length) :
 Calls Tryz.prog 8 #[str a,str b] w fun en w'=>en=.returned (.bool (alikeI a b))∧Below w.heap.size w w':=by
 have C0:=Lib.hid (meaningOf_any a w he ha)
 have C1:=Lib.hid (fun wz (h:Below w.heap.size w wz)=>meaningOf_any b wz (he.below h) hb)
 have HG:=Lib.hid hg
 clear hg he ha hb
 go_enter Tryz.func8,Tryz.ntmps8
 go_wp2_with fail
 (with_reducible refine C0.out.mono ?_)
 rintro en w1 ⟨kv,bv,rfl,hb1,hn1,hy1⟩
 have CB:=Lib.hid (C1.out w1 hb1)
 have HB1:=Lib.hid hb1
 have HY1:=Lib.hid (And.intro hn1 hy1)
 clear hb1 hn1 hy1 C0 C1
 go_wp2_with fail
 (with_reducible refine CB.out.mono ?_)
 rintro en w2 ⟨lv,yv,rfl,hb2,hn2,hy2⟩
 have HB2:=Lib.hid (HB1.out.trans (hb2.mono HB1.out.size))
 cases hm:meaning a with
 | none =>
   obtain rfl:=HY1.out.1 hm
   have HM:=Lib.hid (show alikeI a b=false by unfold alikeI;rw [hm])
   clear hb2 hn2 hy2 hm CB
   go_wp2_with fail
   go_ret
   exact ⟨by rw [HM.out];rfl,HB2.out⟩
 | some x =>
 cases hl:meaning b with
 | none =>
   obtain rfl:=hn2 hl
   have hrx:=(HY1.out.2 x hm).2
   obtain ⟨xb,rfl⟩:=encB_ptr hrx
   have HM:=Lib.hid (show alikeI a b=false by unfold alikeI;rw [hm,hl])
   clear hb2 hn2 hy2 hm hl CB hrx
   go_wp2_with fail
   go_ret
   exact ⟨by rw [HM.out];rfl,HB2.out⟩
 | some y =>
 obtain ⟨ka,ba⟩:=x
 obtain ⟨kb,bb⟩:=y
 obtain ⟨rka,rba⟩:=HY1.out.2 _ hm
 obtain ⟨rkb,rbb⟩:=hy2 _ hl
 obtain ⟨_,ga⟩:=meaning_good hm
 obtain ⟨_,gb⟩:=meaning_good hl
 have rka2:=Rep.below (F':=(w.heap.size≤·)) hb2 (fun _ h=>h) rka
 have rba2:=Rep.below (F':=(w.heap.size≤·)) hb2 (fun _ h=>h) rba
 have rkb2:Rep (w.heap.size≤·) w2 (encK kb) lv:=rkb.weak fun i h=>Nat.le_trans HB1.out.size h
 have rbb2:Rep (w.heap.size≤·) w2 (encB bb) yv:=rbb.weak fun i h=>Nat.le_trans HB1.out.size h
 have CS:=Lib.hid (same_any _ ka kb _ _ w2 rka2 rkb2 ga.atoms gb.atoms)
 obtain ⟨xb,rfl⟩:=encB_ptr rba2
 obtain ⟨yb,rfl⟩:=encB_ptr rbb2
 obtain ⟨ta,hta⟩:∃ t,textB ba=t:=⟨_,rfl⟩
 obtain ⟨tb,htb⟩:∃ t,textB bb=t:=⟨_,rfl⟩
 obtain ⟨tk,htk⟩:∃ t,(textT ka == textT kb)=t:=⟨_,rfl⟩
 have CA:Hid (∀ wz,Below w2.heap.size w2 wz→Calls Tryz.prog 13 #[.pointer (some ⟨xb,0,none⟩)] wz (fun en w'=>en=.returned (str ta)∧Below wz.heap.size wz w')):=by
  show ∀ _,_
  intro wz hz
  have h:=text_any (sizeB ba) ba (Nat.le_refl _) (by have:=ga.size;omega) ga.lv _ wz _ (HG.out.below (HB2.out.trans (hz.mono HB2.out.size))) (Rep.below (F':=(w.heap.size≤·)) hz (fun _ h=>h) rba2)
  rw [hta] at h;exact h
 have CC:Hid (∀ wz,Below w2.heap.size w2 wz→Calls Tryz.prog 13 #[.pointer (some ⟨yb,0,none⟩)] wz (fun en w'=>en=.returned (str tb)∧Below wz.heap.size wz w')):=by
  show ∀ _,_
  intro wz hz
  have h:=text_any (sizeB bb) bb (Nat.le_refl _) (by have:=gb.size;omega) gb.lv _ wz _ (HG.out.below (HB2.out.trans (hz.mono HB2.out.size))) (Rep.below (F':=(w.heap.size≤·)) hz (fun _ h=>h) rbb2)
  rw [htb] at h;exact h
 have HM:=Lib.hid (show alikeI a b=(tk && (ta == tb)) by unfold alikeI;rw [hm,hl];simp only;rw [hta,htb,htk])
 rw [htk] at CS
 clear hb2 hn2 hy2 hm hl CB rka rba rkb rbb ga gb rka2 rba2 rkb2 rbb2 hta htb htk HY1
 go_wp2_with fail
 (with_reducible refine CS.out.mono ?_)
 rintro en w3 ⟨rfl,hb3⟩
 have HB3:=Lib.hid (HB2.out.trans (hb3.mono HB2.out.size))
 have HZ3:=Lib.hid hb3
 clear hb3 CS
 cases tk with
 | false =>
   go_wp2_with fail
   go_ret
   exact ⟨by rw [HM.out];rfl,HB3.out⟩
 | true =>
   go_wp2_with fail
   (with_reducible refine (CA.out w3 HZ3.out).mono ?_)
   rintro en w4 ⟨rfl,hb4⟩
   have HZ4:=Lib.hid (HZ3.out.trans (hb4.mono HZ3.out.size))
   clear hb4
   go_wp2_with fail
   (with_reducible refine (CC.out w4 HZ4.out).mono ?_)
   rintro en w5 ⟨rfl,hb5⟩
   have HB5:=Lib.hid (HB2.out.trans ((HZ4.out.trans (hb5.mono HZ4.out.size)).mono HB2.out.size))
   clear hb5
   cases ht:ta == tb with
   | false =>
     have HT:=Lib.hid ht
     go_wp2_with fail
     go_ret
     exact ⟨by rw [HM.out,HT.out];rfl,HB5.out⟩
   | true =>
     have HT:=Lib.hid ht
     go_wp2_with fail
     go_ret
     exact ⟨by rw [HM.out,HT.out];rfl,HB5.out⟩
end Go.Proofs.YtapjaflnmklmeaaGreatDoor

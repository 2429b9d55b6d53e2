/- The walks of the reference's l4Eta and CopyOf. -/
import Derived.Test.YtapjaflnmklmeaaGreatDoorK1
import Derived.Test.YtapjaflnmklmeaaGreatDoorB14
namespace Go.Proofs.YtapjaflnmklmeaaGreatDoor
open Go.RowKit
def etaObj (v:Nat) (sv:Value):Obj:=.cells #[str [],.int .i64 (v:Nat),sv,.slice none 0 0] 36 (0,0)
def EtaPost (b:Bd) (w:World) (en:Ending) (w':World):Prop :=
 ∃ (s:Bs) (v:Int) (a2:Option Addr) (n2 c2:Nat) (a3:Option Addr) (n3 c3:Nat),en=.returned (.agg #[str s,.int .i64 v,.slice a2 n2 c2,.slice a3 n3 c3])∧Below w.heap.size w w'∧Reps (fun i=>w.heap.size≤i) w' (encN b) [str s,.int .i64 v,.slice a2 n2 c2,.slice a3 n3 c3]
set_option maxRecDepth 100000 in
set_option maxHeartbeats 4000000 in
theorem l4Eta_any (m:Nat):∀ (t:Ty),atomsT t≤m→atomsT t≤15→∀ (F:Nat→Prop) (tv:Value) (v n:Nat) (w:World),Rep F w (encS t) tv→v≤1000000→n+16*atomsT t≤1000000 →
 Calls Tryz.prog 18 #[.agg #[tv],.int .i64 (v:Nat),.int .i64 (n:Nat)] w (EtaPost (eta t v n) w):=by
 induction m with
 | zero=>intro t h;cases t;rw [atomsT] at h;omega
 | succ m ih =>
 intro t hm h15 F tv v n w hk hv hn
 have IH:=Lib.hid ih
 have hk2:=hk
 rw [encS_eq] at hk2
 obtain ⟨ta,tc,e,_,_,hta⟩:=Rep_sl1_open hk2
 subst e
 have hl16:=(args_atoms h15).2
 have hat:=Lib.hid (args_atoms h15).1
 have HA:=Lib.hid hta
 obtain ⟨W,hW⟩:∃ W,((w.alloc (.cells #[.slice ta t.args.length tc] 31)).alloc (.cells #[str [],.int .i64 0,.slice none 0 0,.slice none 0 0] 36)).alloc (.cells #[str [],.int .i64 (v:Nat),.slice none 0 0,.slice none 0 0] 36)=W:=⟨_,rfl⟩
 have hzW:W.heap.size=w.heap.size+3:=by rw [← hW];simp only [size_alloc]
 have hbW:Below w.heap.size w W:=by rw [← hW];exact (((Below.refl _ _).alloc (Nat.le_refl _) _).alloc (by simp only [size_alloc];omega) _).alloc (by simp only [size_alloc];omega) _
 have bT:W.heap[w.heap.size]? = some (.cells #[.slice ta t.args.length tc] 31 (0,0)):=by rw [← hW];exact heap_past (heap_past (heap_new _ _))
 have bR:NewN (w.heap.size+1) 0 (.slice none 0 0) (.slice none 0 0) W:=by
  unfold NewN
  rw [← hW];refine heap_past ?_
  have:=heap_new (w.alloc (.cells #[.slice ta t.args.length tc] 31)) (.cells #[str [],.int .i64 0,.slice none 0 0,.slice none 0 0] 36)
  rwa [size_alloc] at this
 have bO:W.heap[w.heap.size+2]? = some (etaObj v (.slice none 0 0)):=by
  rw [← hW]
  have:=heap_new ((w.alloc (.cells #[.slice ta t.args.length tc] 31)).alloc (.cells #[str [],.int .i64 0,.slice none 0 0,.slice none 0 0] 36)) (.cells #[str [],.int .i64 (v:Nat),.slice none 0 0,.slice none 0 0] 36)
  simp only [size_alloc] at this
  exact this
 have HW:=Lib.hid (And.intro hW (And.intro hzW (And.intro hbW (And.intro bT (And.intro bR bO)))))
 clear hW hzW hbW bT bR bO hta hk hk2 ih
 go_enter Tryz.func18,Tryz.ntmps18
 go_upto_region 2 with (fail)
 rw [HW.out.1]
 go_wp2_with fail
 go_loopw [8] (fun i wr=>∃ (k:Nat) (sv:Value) (us:List Value),k≤t.args.length∧i=.int .i64 k∧Grow W (w.heap.size+2) (etaObj v) 36 4 k (encNs (etas (t.args.take k) n (n+t.args.length))) sv us wr) (fun i _=>t.args.length-(intOf i).toNat)
 case atStart=>exact ⟨0,_,_,Nat.zero_le _,rfl,by simpa [etas,encNs] using Grow.start HW.out.2.2.2.2.2⟩
 case round =>
  rename_i wr
  obtain ⟨k,sv,us,hk,rfl,hinv⟩:=hrel
  obtain ⟨sa,sc,e⟩:=hinv.slice
  subst e
  have hblk:NewN (w.heap.size+2) v (.slice sa k sc) (.slice none 0 0) wr:=hinv.blk
  have hzW:=HW.out.2.1
  have hbw:Below w.heap.size w wr:=HW.out.2.2.1.trans (hinv.below.mono (by omega))
  obtain ⟨y0,y1,y2,y3,ylt,yf⟩:=hblk.cells
  have hkr:wr.cell? ⟨w.heap.size,0,none⟩=some (.slice ta t.args.length tc):=by
   have:=(hinv.below.block w.heap.size (by omega)).trans HW.out.2.2.2.1
   simp [World.cell?,this]
  have HI:=Lib.hid (And.intro hinv (And.intro hblk hbw));clear hinv hblk hbw
  by_cases hlt:k<t.args.length
  ·have hlt':(k:Int)<(t.args.length:Int):=by omega
   obtain ⟨kb2,ko2,u2,d2,e,hF2,hw2,hd2,hc2,hrk⟩:=HA.out k hlt
   subst e
   rw [encSs_at,Option.map_eq_some_iff] at hd2
   obtain ⟨a,ha,rfl⟩:=hd2
   obtain ⟨ua,uc,rfl⟩:=encS_slice hrk
   have haa:atomsT a≤15:=hat.out a (List.mem_of_getElem? ha)
   have hal:1+atomsT a≤atomsT t:=arg_atoms ha
   have q2:wr.cell? ⟨kb2,ko2+k,none⟩=some (.slice ua a.args.length uc):=(HI.out.2.2.cell hw2).trans hc2
   have CC:=IH.out a (by omega) haa F (.slice ua a.args.length uc) (n+k) (n+t.args.length) wr.drew ((Rep.below HI.out.2.2 (fun _ h=>h) hrk).drew) (by omega) (by omega)
   rw [Int.natCast_add,Int.natCast_add] at CC
   have CC:=Lib.hid CC
   have htk:=etas_take ha n (n+t.args.length)
   have HK:=Lib.hid (And.intro ha htk);clear ha hrk htk hc2
   have HWR:=Lib.hid (And.intro (show IntKind.i64.wrap ((n:Int)+(k:Int))=(n:Int)+(k:Int) from IntWalk.i64_in _ (by omega)) (show IntKind.i64.wrap ((n:Int)+(t.args.length:Int))=(n:Int)+(t.args.length:Int) from IntWalk.i64_in _ (by omega)))
   have SX:Hid (∀ w',But (fun i=>(Value.slice sa k sc).ownBlock=some i) wr w'→w'.cell? ⟨w.heap.size+2,2,none⟩=some (.slice sa k sc)∧w'.cell? ⟨w.heap.size,0,none⟩=some (.slice (some ⟨kb2,ko2,none⟩) t.args.length tc)∧w'.cell? ⟨kb2,ko2+k,none⟩=some (.slice ua a.args.length uc)):=by
    show ∀ w',_→_
    intro w' hb'
    have key:∀ {p:Addr} {u:Value},p.block<w.heap.size+2→wr.cell? p=some u→w'.cell? p=some u:=fun hp hu=>(hb'.cell (World.block_lt_of_cell? wr _ hu) (fun e=>by have h1:=HI.out.1.fr _ e;omega)).trans hu
    exact ⟨(hb'.cell (World.block_lt_of_cell? wr _ y2) HI.out.1.not).trans y2,key (by show w.heap.size<_;omega) hkr,key (by show kb2<_;omega) q2⟩
   have hmx:k+1≤maxLen:=by unfold maxLen;omega
   have hby:(k+1)*72≤140737488355328:=by omega
   clear y0 y1 y3 yf
   go_wp2_with fail
   refine wp_region_noPanic ?_
   refine wp_region_S (fun w'=>But (fun i=>(Value.slice sa k sc).ownBlock=some i) wr w') (fun i=>i == 19) (by kernel_rfl) ?_
   have hSd:(fun w'=>But (fun i=>(Value.slice sa k sc).ownBlock=some i) wr w') wr.drew:=(But.refl _ wr).drew
   refine tk [0,1,2,3,4,5,6,7,8,9,10,11,12,13] hSd ?_
   (intro d hd;simp [tkD] at hd;subst hd;simp only [tks,pQ,pZ,pS])
   iterate 14 (refine ⟨?_,?_,?_⟩;rotate_left;· (intro oi ho;simp at ho;subst ho;refine Or.inl ⟨by rfl,fun w' hw'=>?_⟩;obtain ⟨e0,e1,e2⟩:=SX.out w' hw';have hw1:=HWR.out.1;go_simp;try with_reducible rfl))
   refine tk [14] hSd ?_
   (intro d hd;simp [tkD] at hd;subst hd;simp only [tks,pQ,pZ,pS])
   (refine ⟨?_,?_,?_⟩;rotate_left;· (intro oi ho;simp at ho;subst ho;refine Or.inl ⟨by rfl,fun w' hw'=>?_⟩;have hw1:=HWR.out.2;go_simp;try with_reducible rfl))
   (refine on 15 ?_;intro o ho K' hK;simp at ho;subst ho;go_simp)
   go_at_call 18
   (with_reducible refine CC.out.mono ?_)
   rintro en6 w6 ⟨s6,v6,b1,m1,d1,b2,m2,d2,rfl,hb6,hr6⟩
   have hB6:Below wr.heap.size wr w6:=(Below.drew (Below.refl _ _)).trans hb6
   have HB6:Hid (But (fun i=>(Value.slice sa k sc).ownBlock=some i) wr w6):=But.ofBelow hB6
   have OWN6:=HI.out.1.own6 hB6 (.cells #[str s6,.int .i64 v6,.slice b1 m1 d1,.slice b2 m2 d2] 36)
   have H6:=Lib.hid (And.intro hB6 hr6);clear hb6 hr6 hB6
   (refine hK.out _ _ (fun _=>HB6.out) ?_;clear hK K';try simp only [pQ,pN,pZ,pS])
   (refine on 16 ?_;intro o ho K' hK;simp at ho;subst ho;go_simp)
   (refine hK.out _ _ (fun _=>HB6.out.alloc _) ?_;clear hK K';try simp only [pQ,pN,pZ,pS])
   (refine on 17 ?_;intro o ho K' hK;simp at ho;subst ho)
   refine step_append_gen (by rfl) _ _ _ (by rfl) 36 (.agg #[str [],.int .i64 0,.slice none 0 0,.slice none 0 0]) 4 72 Tryz.underlying34 Tryz.infoN rfl (by decide) (.slice sa k sc) k us (by rfl) OWN6 _ 1 [str s6,.int .i64 v6,.slice b1 m1 d1,.slice b2 m2 d2] (by rfl) (SrcSl.lit4 #[str s6,.int .i64 v6,.slice b1 m1 d1,.slice b2 m2 d2] rfl (by simp [str,Value.oneCell']) _ rfl) hmx hby ?_
   intro a' c' w7 ho7 hb7 hg7
   (refine hK.out _ _ (fun _=>(HB6.out.alloc _).trans hb7) ?_;clear hK K';try simp only [pQ,pN,pZ,pS])
   have hc7:=HI.out.1.cell7 H6.out.1 hb7
   have hc7':w7.cell? ⟨w.heap.size+2,2,none⟩=some (.slice sa k sc)∧w7.frozen? ⟨w.heap.size+2,2,none⟩=false:=by rw [etaObj] at hc7;exact ⟨by simp [World.cell?,hc7],by simp [World.frozen?,hc7]⟩
   obtain ⟨hc8,hf8⟩:=hc7'
   have HC7:=Lib.hid hc7;clear hc7
   (refine on 18 ?_;intro o ho K' hK;simp at ho;subst ho;go_simp)
   (refine hK.out _ _ (fun _=>(HB6.out.alloc _).trans hb7) ?_;clear hK K';try simp only [pQ,pN,pZ,pS])
   (refine on 19 ?_;intro o ho K' hK;simp at ho;subst ho;go_simp)
   (refine hK.out _ _ (fun h=>by simp at h) ?_;clear hK K';try simp only [pQ,pN,pZ,pS])
   refine wpAnyS_done (by kernel_rfl) (NoPanic.normal ?_) _
   have hX:=HI.out.1.next (w8:=w7.setCell ⟨w.heap.size+2,2,none⟩ (.slice a' (k+1) c')) H6.out.1 H6.out.2 ho7 hb7 hg7 (by rw [setCell_at HC7.out];rfl) (but_set _ _ _ _)
   have hX2:encNs (etas (t.args.take k) n (n+t.args.length))++encN (eta a (n+k) (n+t.args.length))=encNs (etas (t.args.take (k+1)) n (n+t.args.length)):=by rw [HK.out.2,encNs_append];simp [encNs]
   rw [hX2] at hX
   have HN:=Lib.hid hX
   clear hX hX2 ho7 hb7 hg7 hSd OWN6 hc8 hf8
   go_wp2_with fail
   go_roundw
   case rel=>exact ⟨k+1,_,_,by omega,by go_num,HN.out⟩
   case measure=>simp [intOf];omega
  ·obtain rfl:k=t.args.length:=by omega
   have yf3:=yf 3
   clear y0 y1 y2 yf
   go_upto_region 7 with (fail)
   obtain ⟨Y,hY⟩:∃ Y,(wr.setCell ⟨w.heap.size+1+1,3,none⟩ (.slice (some ⟨wr.heap.size,0,none⟩) 2 2)).alloc (.cells #[str [116],.int .i64 0,.slice none 0 0,.slice none 0 0,str [102],.int .i64 0,.slice none 0 0,.slice none 0 0] 36)=Y:=⟨_,rfl⟩
   have hzs:(wr.setCell ⟨w.heap.size+1+1,3,none⟩ (.slice (some ⟨wr.heap.size,0,none⟩) 2 2)).heap.size=wr.heap.size:=by simp [World.setCell]
   have bN:NewN (w.heap.size+2) v (.slice sa t.args.length sc) (.slice (some ⟨wr.heap.size,0,none⟩) 2 2) Y:=by rw [← hY];exact heap_past HI.out.2.1.put3
   have kY:∀ (i:Nat) (x:Obj),i≠w.heap.size+2→wr.heap[i]? = some x→Y.heap[i]? = some x:=fun i x hi hx=>by
    rw [← hY];refine heap_past ?_
    rw [Below.heap_setCell _ _ _ _ (by show i≠w.heap.size+1+1;omega)];exact hx
   have bR:NewN (w.heap.size+1) 0 (.slice none 0 0) (.slice none 0 0) Y:=kY _ _ (by omega) ((HI.out.1.below.block _ (by omega)).trans HW.out.2.2.2.2.1)
   have bY:Y.heap[wr.heap.size]? = some (.cells #[str [116],.int .i64 0,.slice none 0 0,.slice none 0 0,str [102],.int .i64 0,.slice none 0 0,.slice none 0 0] 36 (0,0)):=by
    rw [← hY]
    have:=heap_new (wr.setCell ⟨w.heap.size+1+1,3,none⟩ (.slice (some ⟨wr.heap.size,0,none⟩) 2 2)) (.cells #[str [116],.int .i64 0,.slice none 0 0,.slice none 0 0,str [102],.int .i64 0,.slice none 0 0,.slice none 0 0] 36)
    rwa [hzs] at this
   have hbY:Below w.heap.size w Y:=by
    rw [← hY]
    exact (HI.out.2.2.setCell (p:=⟨w.heap.size+1+1,3,none⟩) (by show w.heap.size≤w.heap.size+1+1;omega) _).alloc (by rw [hzs];exact HI.out.2.2.size) _
   obtain ⟨n0,n1,n2,n3,nlt,_⟩:=bN.cells
   obtain ⟨r0,r1,r2,r3,rlt,rf⟩:=bR.cells
   have rf0:=rf 0;have rf1:=rf 1;have rf2:=rf 2;have rf3:=rf 3
   have hsl:=HI.out.1.sl
   have hwrz:=lt_of_heap HI.out.2.1
   rw [List.take_length] at hsl
   have HY:=Lib.hid (And.intro hY (And.intro bR (And.intro bY (And.intro hbY (And.intro kY hsl)))))
   clear hY hzs bN kY bR bY hbY hsl rf yf3 ylt
   rw [HY.out.1]
   go_wp2_with fail
   obtain ⟨Z,hZ,s0,s1,s2,s3,hbZ,hkZ⟩:=HY.out.2.1.store (str []) (.int .i64 (v:Nat)) (.slice sa t.args.length sc) (.slice (some ⟨wr.heap.size,0,none⟩) 2 2)
   rw [← hZ]
   refine bodyPost_ret (v:=.agg #[str [],.int .i64 (v:Nat),.slice sa t.args.length sc,.slice (some ⟨wr.heap.size,0,none⟩) 2 2]) (by simp [results,Tryz.results18,go_sem,s0,s1,s2,s3]) rfl ?_
   refine ⟨[],v,_,_,_,_,_,_,rfl,hbZ _ _ HY.out.2.2.2.1 (by omega),?_⟩
   rw [eta_eq,encN_ask,etas_length]
   refine Reps_cons.2 ⟨_,_,rfl,Rep_val.2 rfl,Reps_cons.2 ⟨_,_,rfl,Rep_val.2 rfl,Reps_cons.2 ⟨_,_,rfl,?_,Reps_cons.2 ⟨_,_,rfl,?_,Reps_nil.2 rfl⟩⟩⟩⟩
   ·exact (Rep.keep fun i x (hi:w.heap.size+2<i) hx=>⟨by show w.heap.size≤i;omega,hkZ i x (by omega) (HY.out.2.2.2.2.1 i x (by omega) hx)⟩).1 _ _ HY.out.2.2.2.2.2
   ·refine Rep_sl.2 ⟨rfl,_,_,rfl,Nat.le_refl _,fun h=>by simp at h,.inr ⟨wr.heap.size,0,_,_,rfl,?_,hkZ _ _ (by omega) HY.out.2.2.1,?_⟩⟩
    ·show w.heap.size≤wr.heap.size;omega
    ·have hnil:Rep (fun i=>w.heap.size≤i) Z (.sl 36 4 0 []) (.slice none 0 0):=Rep_sl.2 ⟨rfl,none,0,rfl,Nat.le_refl _,fun _=>rfl,.inl rfl⟩
     simp only [encNs,encN,List.append_nil,List.cons_append,List.nil_append]
     exact Reps_cons.2 ⟨_,_,rfl,Rep_val.2 rfl,Reps_cons.2 ⟨_,_,rfl,Rep_val.2 rfl,Reps_cons.2 ⟨_,_,rfl,hnil,Reps_cons.2 ⟨_,_,rfl,hnil,Reps_cons.2 ⟨_,_,rfl,Rep_val.2 rfl,Reps_cons.2 ⟨_,_,rfl,Rep_val.2 rfl,Reps_cons.2 ⟨_,_,rfl,hnil,Reps_cons.2 ⟨_,_,rfl,hnil,Reps_nil.2 rfl⟩⟩⟩⟩⟩⟩⟩⟩
end Go.Proofs.YtapjaflnmklmeaaGreatDoor

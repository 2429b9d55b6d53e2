/- Walks of functions that the statement reaches, and plain words. No conditions. -/
import Derived.Test.YthoimoenbccflaaDoorQ16
set_option linter.unusedVariables false
set_option linter.unusedSimpArgs false
set_option maxHeartbeats 8000000
namespace Go.Proofs.YthoimoenbccflaaDoor
open Go.RowKit
theorem AtD_openA {F:Nat->Prop} {w:World} {l:Nat} {ss:List Bd} {y n:Bd} {begun args:List Nat} {opens:Nat} {vs:List Value} (h:Reps F w (AtD (.ask l ss y n) begun args opens) vs) :
 ∃ a2 c2 a3 c3 ba bc aa ac,vs=[str [],.int .i64 (l:Nat),.slice a2 ss.length c2,.slice a3 2 c3,.slice ba begun.length bc,.slice aa args.length ac,.int .i64 (opens:Nat)] /\
   Rep F w (.sl 33 4 ss.length (encNs ss)) (.slice a2 ss.length c2)/\Rep F w (.sl 33 4 2 (encNs [y,n])) (.slice a3 2 c3):=by
 obtain ⟨a2,c2,a3,c3,ba,bc,aa,ac,e,h1,_⟩:=AtD_open h
 obtain ⟨v,a2',c2',a3',c3',e',h2,h3⟩:=encN_open h1
 simp only [List.cons.injEq,and_true,Value.slice.injEq] at e'
 obtain ⟨_,_,⟨rfl,_,rfl⟩,⟨rfl,_,rfl⟩⟩:=e'
 exact ⟨a2,c2,a3,c3,ba,bc,aa,ac,e,h2,h3⟩
theorem l1At_back (F:Nat->Prop) (t a:Ty) (p:Bs) (tv:Value) (w x:World) (h:Rep F w (encS t) tv) (ht:atomsT t<=15) (hp:Lim p.length) (hat:atT t p=some a) (hx:Below w.heap.size w x) :
 Calls Tryd.prog 26 #[.agg #[tv],str p] x fun en w'=>∃ ka kc,en=.returned (.tuple #[.agg #[.slice ka a.args.length kc],.bool true])/\Below x.heap.size x w'/\Rep F w (encS a) (.slice ka a.args.length kc):=by
 have h1:Rep (fun b=>F b/\b<w.heap.size) x (encS t) tv:=(Rep.keep fun b o hf ho=>⟨⟨hf,lt_of_heap ho⟩,by rw [hx.block _ (lt_of_heap ho)];exact ho⟩).1 _ _ h
 refine (l1At_any _ t p tv x h1 ht hp).mono ?_
 rintro en w' ⟨v,rfl,hb,hv⟩
 have h2:=hv a hat
 obtain ⟨ka,kc,rfl⟩:=encS_slice h2
 refine ⟨ka,kc,by rw [hat];rfl,hb,(Rep.keep fun b o hf ho=>⟨hf.1,by rw [<- hx.block _ hf.2];exact ho⟩).1 _ _ h2⟩
theorem viewsAll_kid {t:Ty} {ss:List Bd} {y n:Bd} {p:Bs} {k:Nat} {lv:List Place} {bg:Place} {asked:Pl} {j:Nat} {s:Bd} (hs:ss[j]? = some s) :
 (viewsAll t ss y n p k lv bg asked)[j]? = some (viewsB t s (lv++placesOf (argsAt t (p++dec j)) (k+1) (p++dec j)) (k+1,p++dec j) (asked++[(113::(p++dec j),(k:Int))]))/\(szAll ss y n)[j]? = some (sizeB s):=by
 have hj:=(List.getElem?_eq_some_iff.1 hs).1
 refine ⟨?_,by rw [szAll,List.getElem?_append_left (by rw [List.length_map];exact hj),List.getElem?_map,hs];rfl⟩
 rw [viewsAll,List.getElem?_append_left (by rw [viewsKs_length];exact hj),viewsKs_at t ss 0 p k lv asked j _ hs,Nat.zero_add];rfl
theorem viewsAll_two {t:Ty} {ss:List Bd} {y n:Bd} {p:Bs} {k:Nat} {lv:List Place} {bg:Place} {asked:Pl} {i:Nat} (hi:i<2) :
 (viewsAll t ss y n p k lv bg asked)[ss.length+i]? = some (viewsB t (if i=0 then y else n) lv bg (asked++[((if i=0 then 116 else 102)::p,(k:Int))]))/\(szAll ss y n)[ss.length+i]? = some (sizeB (if i=0 then y else n)):=by
 have:i=0\/i=1:=by omega
 rcases this with rfl | rfl
 ·exact ⟨by rw [viewsAll,List.getElem?_append_right (by rw [viewsKs_length];omega),viewsKs_length,Nat.add_sub_cancel_left];rfl,by rw [szAll,List.getElem?_append_right (by rw [List.length_map];omega),List.length_map,Nat.add_sub_cancel_left];rfl⟩
 ·exact ⟨by rw [viewsAll,List.getElem?_append_right (by rw [viewsKs_length];omega),viewsKs_length,Nat.add_sub_cancel_left];rfl,by rw [szAll,List.getElem?_append_right (by rw [List.length_map];omega),List.length_map,Nat.add_sub_cancel_left];rfl⟩
structure TvL (vw1:Value) (w w5:World) (all:List (Option (List Pl))) (sz:List Nat) (L3:List Pl) (us3:List (Value×Value)) (k:Nat) (ov:Value) (wr:World) (av:List Pl) (usk:List (Value×Value)):Prop where
 jo:joinO (all.take k)=some av
 ko:Ko vw1 w5 ov wr
 pls:PlsAt wr (L3++av) ov (us3++usk)
 new:∀ u∈usk,∀ g,u.1.ownBlock=some g\/u.2.ownBlock=some g->w.heap.size<=g
 len:av.length<=(sz.take k).sum
theorem TvL.next {vw1:Value} {w w5:World} {all:List (Option (List Pl))} {sz:List Nat} {L3:List Pl} {us3:List (Value×Value)} {k:Nat} {ov:Value} {wr:World} {av:List Pl} {usk:List (Value×Value)} (h:TvL vw1 w w5 all sz L3 us3 k ov wr av usk)
 {wz w':World} (hz:Below wr.heap.size wr wz) (hw:w.heap.size<=wz.heap.size) {out:List Pl} {z:Nat} {a:Option Addr} {n c:Nat} {us':List (Value×Value)} (ho:all[k]? = some (some out)) (hs:sz[k]? = some z) (hoz:out.length<=z) (hb:But (fun i=>ov.ownBlock=some i) wz w')
 (hp:PlsAt w' (L3++av++out) (.slice a n c) (us3++usk++us')) (hr:∀ g,(Value.slice a n c).ownBlock=some g->ov.ownBlock=some g\/wz.heap.size<=g) (hn:∀ u∈us',∀ g,u.1.ownBlock=some g\/u.2.ownBlock=some g->wz.heap.size<=g) :
 TvL vw1 w w5 all sz L3 us3 (k+1) (.slice a n c) w' (av++out) (usk++us'):=by
 refine ⟨by rw [joinO_next ho,h.jo];rfl,(h.ko.trans (Ko.below hz)).trans ⟨hb,hr⟩,by rw [<- List.append_assoc,<- List.append_assoc];exact hp,fun u hu g hg=>?_,?_⟩
 ·rcases List.mem_append.1 hu with hu | hu
  ·exact h.new u hu g hg
  ·exact Nat.le_trans hw (hn u hu g hg)
 ·rw [sum_take_succ hs,List.length_append];have:=h.len;omega
set_option maxRecDepth 100000 in
theorem tv_ask (t:Ty) (l:Nat) (ss:List Bd) (y n:Bd) (ihs:∀ s∈ss,TvSaid t s) (ihy:TvSaid t y) (ihn:TvSaid t n):TvSaid t (.ask l ss y n):=by
 intro hand lv bg v tv mv pt x0 x1 x2 x3 x4 x5 x6 vw us L w h
 obtain ⟨⟨pb,p⟩,a,hlv,hat,hfs,hfy,hfn,hlen,hp7,ha7,hpb⟩:=AskC.of' h.t15 h.fit h.pf h.bgl h.v1 h.ll
 obtain ⟨begun,args,opens,hsp,hr⟩:=h.ra
 obtain ⟨a2,c2,a3,c3,ba,bc,aa,ac,e,_,_⟩:=AtD_openA hr
 simp only [List.cons.injEq,and_true] at e
 obtain ⟨rfl,rfl,rfl,rfl,rfl,rfl,rfl⟩:=e
 obtain ⟨ta,tc,rfl⟩:=encS_slice h.rt
 obtain ⟨a1,c1,rfl⟩:=h.rm.src.slice
 obtain ⟨p1,q1,rfl⟩:=h.rp.src.slice
 obtain ⟨va2,vc,rfl⟩:=h.pls.own.slice
 have hv60:=h.v60
 have hp7':p.length<=7:=hp7
 obtain ⟨W,hW,hbW,hz,b0,b1,b2⟩:=boxes_3 w (.cells #[.slice ta t.args.length tc] 30) (.cells #[str [],.int .i64 (l:Nat),.slice a2 ss.length c2,.slice a3 2 c3,.slice ba begun.length bc,.slice aa args.length ac,.int .i64 (opens:Nat)] 42) (.cells #[.slice a1 v.length c1,.slice p1 v.length q1] 39)
 have CT:=Lib.hid (l3Tell_ask (Fo (.slice va2 us.length vc)) l ss y n lv bg (pb,p) v _ _ _ _ _ _ _ _ _ W (h.ra.below hbW) (h.rm.below hbW (fun _ h=>h)) (h.rp.below hbW (fun _ h=>h)) hlv (by show p.length<=_;omega) (by omega) (by have:=h.ll;omega))
 have CW:=Lib.hid (fun x (hx:Below W.heap.size W x)=>l2WithPl v _ _ (113::p) (pb:Int) x ((h.rm.src.below hbW).below hx) ((h.rp.src.below hbW).below hx) (by omega))
 obtain ⟨e0,e1,e2,e3,e4,e5,e6⟩:=cells_7 b1
 obtain ⟨m0,m1,_,_⟩:=cells_2 b2
 have H:=Lib.hid h
 have HP:=Lib.hid (And.intro hlv (And.intro hat (And.intro hfs (And.intro hfy (And.intro hfn (And.intro hlen (And.intro hp7' (And.intro (show a.args.length<=7 from ha7) (And.intro hsp hr)))))))))
 have HW:=Lib.hid (And.intro hW (And.intro hbW (And.intro hz (And.intro b0 (And.intro b1 b2)))))
 have husl:us.length<=1000:=by have h1:=h.cnt;have h2:=PlsAt.length h.pls;omega
 clear h hW hbW hz b0 b1 b2 hr hsp hlv hat hfs hfy hfn hlen hp7 hp7' ha7 hpb
 by_cases hv:60<=v.length
 ·have hvI:(60:Int)<=(v.length:Int):=by omega
  have E:=Lib.hid (show viewsB t (.ask l ss y n) lv bg v=none by rw [viewsB,if_pos (by omega)])
  clear hv hv60
  go_enter Tryd.func10,Tryd.ntmps10
  go_upto_region 1 with (fail)
  rw [HW.out.1]
  go_wp2_with fail
  refine CT.out.mono ?_
  rintro en w1 ⟨rfl,hb1⟩
  have n0:=(hb1.cell (World.block_lt_of_cell? _ _ m0)).trans m0
  have HB:=Lib.hid (HW.out.2.1.trans (hb1.mono HW.out.2.1.size))
  clear hb1
  go_wp2_with fail
  go_ret2
  exact TvOut.no (But.ofBelow HB.out) E.out
 ·have hvI:¬ (60:Int)<=(v.length:Int):=by omega
  obtain ⟨M,hM⟩:∃ M,M=113::p:=⟨_,rfl⟩
  have hM0:0<M.length:=by rw [hM];simp
  have B0:((((⟨M.toArray⟩:ByteArray)[0]'(lt_str hM0)).toNat:Int))=113:=by rw [byte_int hM0];subst hM;rfl
  have hM0I:(0:Int)<(M.length:Int):=by omega
  have CT':Hid (Calls Tryd.prog 23 #[.agg #[.slice a1 v.length c1,.slice p1 v.length q1],.agg #[str [],.int .i64 (l:Nat),.slice a2 ss.length c2,.slice a3 2 c3,.slice ba begun.length bc,.slice aa args.length ac,.int .i64 (opens:Nat)]] W (STellP M pb true W)):=by rw [hM];exact CT
  rw [<- hM] at CW
  have HM:=Lib.hid hM
  clear hM CT
  go_enter Tryd.func10,Tryd.ntmps10
  go_upto_region 1 with (fail)
  rw [HW.out.1]
  go_wp2_with fail
  refine CT'.out.mono ?_
  rintro en w1 ⟨rfl,hb1⟩
  obtain ⟨n0,n1,_,_⟩:=cells_2 ((hb1.block _ (lt_of_heap HW.out.2.2.2.2.2)).trans HW.out.2.2.2.2.2)
  have HB:=Lib.hid (And.intro hb1 (HW.out.2.1.trans (hb1.mono HW.out.2.1.size)))
  clear hb1 CT' e0 e1 e2 e3 e4 e5 e6 m0 m1
  go_wp2_with fail
  (with_reducible refine (CW.out w1 HB.out.1).mono ?_)
  rintro en w2 ⟨mv2,pt2,rfl,hp2,hb2,hf2⟩
  obtain ⟨l3,hl3⟩:∃ l3,v++[(M,(pb:Int))]=l3:=⟨_,rfl⟩
  rw [hl3] at hp2
  obtain ⟨n3,hn3⟩:∃ n3,l3.length=n3:=⟨_,rfl⟩
  have hn3v:n3=v.length+1:=by rw [<- hn3,<- hl3];simp
  have HL3:=Lib.hid (And.intro hl3 (And.intro hn3 hn3v))
  obtain ⟨a3',c3',e3'⟩:=hp2.1.slice
  obtain ⟨a4',c4',e4'⟩:=hp2.2.slice
  rw [hn3] at e3' e4'
  subst e3';subst e4'
  have hw2:Below w.heap.size w w2:=HB.out.2.trans (hb2.mono HB.out.2.size)
  obtain ⟨W3,hW3,hbW3,hz3,bx3⟩:=box_1 w2 (.cells #[.slice a3' n3 c3',.slice a4' n3 c4'] 39)
  obtain ⟨k0,k1,_,_⟩:=cells_2 bx3
  have hb13:Below w1.heap.size w1 W3:=hb2.trans (hbW3.mono hb2.size)
  have hbW3':Below W.heap.size W W3:=HB.out.1.trans (hb13.mono HB.out.1.size)
  obtain ⟨BA,hBA⟩:∃ x,w2.heap.size=x:=⟨_,rfl⟩
  have hBAw:w.heap.size+3<=BA:=by have h1:=HW.out.2.2.1;have h2:=HB.out.1.size;have h3:=hb2.size;omega
  rw [hBA] at bx3 k0 k1
  have HQ:=Lib.hid (And.intro hW3 (And.intro (hw2.trans (hbW3.mono hw2.size)) (And.intro (hp2.below hbW3) (And.intro (fun g hg=>Nat.le_trans HB.out.2.size (hf2 g hg)) (And.intro bx3 (And.intro hbW3' (And.intro hBA hBAw)))))))
  clear hW3 hbW3 hz3 bx3 hp2 hb2 hf2 hl3 hn3 hw2 hb13 hbW3' hn3v hBA hBAw
  go_upto_region 7 with (fail)
  rw [HQ.out.1,HQ.out.2.2.2.2.2.2.1]
  go_wp2_with (at_builtin;refine wpList_append_gen rfl _ _ 22 rfl 39 (.agg #[.slice none 0 0,.slice none 0 0]) 2 48 Tryd.underlying22 Tryd.infoPlay rfl (by decide) (.slice va2 us.length vc) us.length (plC us) rfl ?c1 _ 1 [.slice a3' n3 c3',.slice a4' n3 c4'] rfl ?c2 ?c3 ?c4 ?_)
  case c1=>exact (PlsG.below H.out.pls HQ.out.2.1).own.alloc _
  case c2=>exact SrcSl.litk #[.slice a3' n3 c3',.slice a4' n3 c4'] rfl (by simp [Value.oneCell']) _ (by rfl)
  case c3=>unfold maxLen;omega
  case c4=>omega
  intro a5 c5 w5 ho5 hb5 hg5
  have hB3:=HQ.out.2.1
  have hz3:=hB3.size
  have hpA:PlsAt w5 (L++[l3]) (.slice a5 (us.length+1) c5) (us++[(.slice a3' n3 c3',.slice a4' n3 c4')]):=pls_add H.out.pls (hB3.alloc hz3 _) (HQ.out.2.2.1.below ((Below.refl _ _).alloc (Nat.le_refl _) _)) HQ.out.2.2.2.1 ho5 hb5
  have hbt:But (fun b=>(Value.slice va2 us.length vc).ownBlock=some b) W3 w5:=(But.ofBelow ((Below.refl _ _).alloc (Nat.le_refl _) _)).trans hb5
  have hko:Ko (.slice va2 us.length vc) W3 (.slice a5 (us.length+1) c5) w5:=⟨hbt,fun g hg=>(hg5 g hg).imp id fun e=>by rw [e];omega⟩
  have hF0:∀ g,w.heap.size<=g->Fo (.slice va2 us.length vc) g:=fun g hg e=>by have:=H.out.pls.lt (.inl e);omega
  have hV3:TvV t l ss y n lv bg l3 begun args opens (.slice ta t.args.length tc) (.slice a3' n3 c3') (.slice a4' n3 c4') [str [],.int .i64 (l:Nat),.slice a2 ss.length c2,.slice a3 2 c3,.slice ba begun.length bc,.slice aa args.length ac,.int .i64 (opens:Nat)] w.heap.size (w.heap.size+1) BA (.slice va2 us.length vc) W3:=by
   have hmv:=HQ.out.2.2.1.mv (F:=Fo (.slice va2 us.length vc)) (fun g hg=>hF0 g (HQ.out.2.2.2.1 g hg))
   have hbb:=HQ.out.2.2.2.2.2.1
   refine ⟨H.out.rt.below hB3 (fun _ h=>h),by rw [<- HL3.out.1];exact HP.out.2.2.2.2.2.2.2.2.1.more _,HP.out.2.2.2.2.2.2.2.2.2.below hB3 (fun _ h=>h),hmv.1,hmv.2,hF0 _ (Nat.le_refl _),(hbb.block _ (lt_of_heap HW.out.2.2.2.1)).trans HW.out.2.2.2.1,hF0 _ (Nat.le_succ _),(hbb.block _ (lt_of_heap HW.out.2.2.2.2.1)).trans HW.out.2.2.2.2.1,hF0 _ (by have:=HQ.out.2.2.2.2.2.2.2;omega),HQ.out.2.2.2.2.1⟩
  have hV5:=hV3.keep hko
  have hpo:=hko.obj (hF0 (w.heap.size+2) (by omega)) ((HQ.out.2.2.2.2.2.1.block _ (lt_of_heap HW.out.2.2.2.2.2)).trans HW.out.2.2.2.2.2)
  have HF:=Lib.hid (And.intro hpA (And.intro ((Ko.below hB3).trans hko) (And.intro hV5 hpo)))
  obtain ⟨g0,g1,_,_⟩:=cells_2 hpo.2
  obtain ⟨k0,k1,_,_⟩:=cells_2 hV5.b2
  clear hpA hbt hko hV3 hV5 hpo hF0 ho5 hb5 hg5 hB3 hz3 n0 n1
  have hM:=HM.out
  by_cases h59:v.length=59
  ·have hn3I:(60:Int)<=(n3:Int):=by rw [HL3.out.2.2];omega
   have E:=Lib.hid (show viewsB t (.ask l ss y n) lv bg v=none by rw [viewsB,if_pos (by omega)])
   clear hM h59
   go_wp2_with fail
   go_ret2
   exact TvOut.no HF.out.2.1.but E.out
  ·have hn3I:¬ (60:Int)<=(n3:Int):=by rw [HL3.out.2.2];omega
   have hv58:v.length<=58:=by omega
   have HC:=Lib.hid (show TvC t hand lv bg ss y n v (pb,p) a from { t15:=H.out.t15,hat:=HP.out.2.1,pf:=H.out.pf,fs:=HP.out.2.2.1,fy:=HP.out.2.2.2.1,fn:=HP.out.2.2.2.2.1,ws:=(fun s hs=>by obtain ⟨i,hi⟩:=List.mem_iff_getElem?.1 hs;have hw:=H.out.wf;rw [wfB] at hw;exact wfBs_at _ hw.1 i s hi),wy:=by have hw:=H.out.wf;rw [wfB] at hw;exact hw.2.1,wn:=by have hw:=H.out.wf;rw [wfB] at hw;exact hw.2.2,len:=HP.out.2.2.2.2.2.1,p7:=HP.out.2.2.2.2.2.2.1,a7:=HP.out.2.2.2.2.2.2.2.1,bgl:=H.out.bgl,v1:=H.out.v1,v58:=hv58,ll:=H.out.ll })
   subst hM
   have ex:(⟨(113::p).toArray⟩:ByteArray).extract 1 (p.length+1)=⟨p.toArray⟩:=ext_tail 113 p
   clear h59 hv hvI hv60
   go_wp2_with fail
   have hml:ss.length<=7:=by have h1:=HC.out.len;have h2:=HC.out.a7;omega
   clear k0 k1 g0 g1
   go_loopw [3,15] (fun ov i wr=>∃ k:Nat,k<=ss.length/\i=.int .i64 k/\∃ a6 n6 c6 av usk,ov=.slice a6 n6 c6/\TvL (.slice a5 (us.length+1) c5) w w5 (viewsAll t ss y n p v.length lv bg l3) (szAll ss y n) (L++[l3]) (us++[(.slice a3' n3 c3',.slice a4' n3 c4')]) k (.slice a6 n6 c6) wr av usk) (fun _ i _=>ss.length-(intOf i).toNat)
   case atStart=>exact ⟨0,Nat.zero_le _,rfl,a5,us.length+1,c5,[],[],rfl,⟨rfl,Ko.below (Below.refl _ _),by rw [List.append_nil,List.append_nil];exact HF.out.1,fun u hu=>by simp at hu,by simp⟩⟩
   case round =>
    rename_i wr
    obtain ⟨k,hk,rfl,a6,n6,c6,av,usk,rfl,hL⟩:=hrel
    have hVr:=HF.out.2.2.1.keep hL.ko
    obtain ⟨q0,q1,q2,q3,q4,q5,q6⟩:=cells_7 hVr.b1
    have HL:=Lib.hid hL;have HVR:=Lib.hid hVr
    clear hL hVr
    by_cases hlt:k<ss.length
    ·have hlt':(k:Int)<(ss.length:Int):=by omega
     obtain ⟨s,hs⟩:∃ s,ss[k]? = some s:=⟨_,List.getElem?_eq_getElem hlt⟩
     obtain ⟨aj,haj⟩:∃ aj,a.args[k]? = some aj:=⟨_,List.getElem?_eq_getElem (by have:=HC.out.len;omega)⟩
     obtain ⟨hvo,hsz⟩:=viewsAll_kid (t:=t) (y:=y) (n:=n) (p:=p) (k:=v.length) (lv:=lv) (bg:=bg) (asked:=l3) hs
     obtain ⟨o,ho⟩:∃ o,o=viewsB t s (lv++placesOf (argsAt t (p++dec k)) (v.length+1) (p++dec k)) (v.length+1,p++dec k) (l3++[(113::(p++dec k),(v.length:Int))]):=⟨_,rfl⟩
     rw [<- ho] at hvo
     have hoz:∀ out,o=some out->out.length<=sizeB s:=fun out h=>viewsB_count t s _ _ _ out (ho ▸ h)
     have hdk:dec k=[digit k]:=dec_small (by omega)
     have hat:atT t (p++dec k)=some aj:=by rw [atT_append,HC.out.hat,Option.bind_some,hdk,atT_digit _ (by omega)];exact haj
     have hp7:p.length<=7:=HC.out.p7
     have a1':=fun w0=>add_str (P:=Tryd.prog) (113::p) (dec k) (by rw [hdk];simp;omega) w0
     have a2':=fun w0=>add_str (P:=Tryd.prog) p (dec k) (by rw [hdk];simp;omega) w0
     obtain ⟨R,hR⟩:∃ R,R=113::(p++dec k):=⟨_,rfl⟩
     obtain ⟨R2,hR2⟩:∃ R2,R2=p++dec k:=⟨_,rfl⟩
     rw [List.cons_append,<- hR] at a1'
     rw [<- hR2] at a2'
     have HR:=Lib.hid (And.intro hR hR2)
     have HS:=Lib.hid (And.intro hs (And.intro haj (And.intro hvo (And.intro hsz (And.intro ho (And.intro hoz hat))))))
     have CD:=Lib.hid (fun x=>l6Dec_any k (by omega) x)
     have CW2:=Lib.hid (fun x (hx:Below wr.heap.size wr x)=>l2WithPl l3 (.slice a3' n3 c3') (.slice a4' n3 c4') R (v.length:Int) x (HVR.out.rm.src.below hx) (HVR.out.rp.src.below hx) (by have h1:=HL3.out.2.1;have h2:=HL3.out.2.2;omega))
     have HLN:=Lib.hid (show ∀ (r:Bs) (i:Int),(l3++[(r,i)]).length=v.length+2 from fun r i=>by rw [List.length_append,HL3.out.2.1,HL3.out.2.2];simp)
     have KEY16:Hid (∀ x,Below wr.heap.size wr x->x.cell? ⟨BA,0,none⟩=some (.slice a3' n3 c3')/\x.cell? ⟨BA,1,none⟩=some (.slice a4' n3 c4')):=Lib.hid (fun x hx=>by
      obtain ⟨k0,k1,_,_⟩:=cells_2 HVR.out.b2
      exact ⟨(hx.cell (World.block_lt_of_cell? _ _ k0)).trans k0,(hx.cell (World.block_lt_of_cell? _ _ k1)).trans k1⟩)
     clear hs haj hvo hsz ho hoz hat hR hR2 hdk hp7 q0 q1 q3 q4 q5 q6
     go_upto_region 16 with (fail)
     refine cut_code (X:=Option Addr×Nat×Option Addr×Nat×Nat) (fun zz x=>((((((((zz.put (some 69) (.agg #[.slice a3' n3 c3',.slice a4' n3 c4'])).put (some 70) (str (113::p))).put (some 71) (.int .i64 (k:Nat))).put (some 72) (str (dec k))).put (some 73) (str R)).put (some 74) (.int .i64 (v.length:Nat))).put (some 75) (.agg #[.slice x.1 (v.length+2) x.2.1,.slice x.2.2.1 (v.length+2) x.2.2.2.1])).put (some 16) (.pointer (some ⟨x.2.2.2.2,0,none⟩)))) (fun x w7=>Below wr.heap.size wr w7/\w7.heap[x.2.2.2.2]? = some (.cells #[.slice x.1 (v.length+2) x.2.1,.slice x.2.2.1 (v.length+2) x.2.2.2.1] 39 (0,0))/\wr.heap.size<=x.2.2.2.2/\PlayAt w7 (l3++[(R,(v.length:Int))]) (.slice x.1 (v.length+2) x.2.1) (.slice x.2.2.1 (v.length+2) x.2.2.2.1)/\∀ g,(Value.slice x.1 (v.length+2) x.2.1).ownBlock=some g\/(Value.slice x.2.2.1 (v.length+2) x.2.2.2.1).ownBlock=some g->wr.heap.size<=g) ?_ ?_
     ·refine wp_region_noPanic ?_
      refine wp_region_S (fun w'=>Below wr.heap.size wr w') (fun _=>false) (by kernel_rfl) ?_
      obtain ⟨y0,hy0⟩:∃ x,wr.drew=x:=⟨_,rfl⟩
      rw [hy0]
      have hBy0:Below wr.heap.size wr y0:=by rw [<- hy0];exact Below.drew (Below.refl _ _)
      obtain ⟨tg0,htg0⟩:∃ x:Nat->Nat,x=fun _=>0:=⟨_,rfl⟩
      clear hy0 htg0
      refine wpAnyS_take 0 (v:=?_) (by kernel_rfl) (by kernel_rfl) (by kernel_rfl) (by kernel_rfl) (fun _ _ _ _ h=>h) hBy0 ?_ ?_
      rotate_left
      ·(intro oi ho;simp at ho;subst ho;refine Or.inl ⟨by rfl,fun w' hw'=>?_⟩;obtain ⟨e0,e1⟩:=KEY16.out w' hw';go_simp;try with_reducible rfl)
      (intro d hd;simp at hd;subst hd;simp only [Act.put,List.setIfInBounds_toArray,List.set_cons_zero,List.set_cons_succ])
      refine wpAnyS_take 1 (v:=?_) (by kernel_rfl) (by kernel_rfl) (by kernel_rfl) (by kernel_rfl) (fun _ _ _ _ h=>h) hBy0 ?_ ?_
      rotate_left
      ·(intro oi ho;simp at ho;subst ho;refine Or.inl ⟨by rfl,fun w' hw'=>?_⟩;go_simp;try with_reducible rfl)
      (intro d hd;simp at hd;subst hd;simp only [Act.put,List.setIfInBounds_toArray,List.set_cons_zero,List.set_cons_succ])
      refine wpAnyS_take 2 (v:=?_) (by kernel_rfl) (by kernel_rfl) (by kernel_rfl) (by kernel_rfl) (fun _ _ _ _ h=>h) hBy0 ?_ ?_
      rotate_left
      ·(intro oi ho;simp at ho;subst ho;refine Or.inl ⟨by rfl,fun w' hw'=>?_⟩;go_simp;try with_reducible rfl)
      (intro d hd;simp at hd;subst hd;simp only [Act.put,List.setIfInBounds_toArray,List.set_cons_zero,List.set_cons_succ])
      refine wpAnyS_take 5 (v:=?_) (by kernel_rfl) (by kernel_rfl) (by kernel_rfl) (by kernel_rfl) (fun _ _ _ _ h=>h) hBy0 ?_ ?_
      rotate_left
      ·(intro oi ho;simp at ho;subst ho;refine Or.inl ⟨by rfl,fun w' hw'=>?_⟩;go_simp;try with_reducible rfl)
      (intro d hd;simp at hd;subst hd;simp only [Act.put,List.setIfInBounds_toArray,List.set_cons_zero,List.set_cons_succ])
      refine wpAnyS_two 3 7 (by kernel_rfl) ?_ ?_
      ·(intro o3 ho K' hK;simp at ho;subst ho)
       go_simp
       go_at_call 25
       (with_reducible refine (CD.out _).mono ?_)
       rintro en y1 ⟨rfl,hb⟩
       have hBy1:Below wr.heap.size wr y1:=hBy0.trans (hb.mono hBy0.size)
       have hby1:=Lib.hid hb;clear hb
       refine hK.out _ _ (fun _=>?_) ?_
       ·exact hBy1
       clear hK K'
       (try simp only [Act.put,List.setIfInBounds_toArray,List.set_cons_zero,List.set_cons_succ])
       refine wpAnyS_take 4 (v:=?_) (by kernel_rfl) (by kernel_rfl) (by kernel_rfl) (by kernel_rfl) (fun _ _ _ _ h=>h) hBy1 ?_ ?_
       rotate_left
       ·(intro oi ho;simp at ho;subst ho;refine Or.inl ⟨by rfl,fun w' hw'=>?_⟩;go_simp;try with_reducible rfl)
       (intro d hd;simp at hd;subst hd;simp only [Act.put,List.setIfInBounds_toArray,List.set_cons_zero,List.set_cons_succ])
       refine wpAnyS_two 6 7 (by kernel_rfl) ?_ ?_
       ·(intro o6 ho K' hK;simp at ho;subst ho)
        go_simp
        go_at_call 24
        (with_reducible refine (CW2.out _ hBy1).mono ?_)
        rintro en y2 ⟨mvn,ptn,rfl,hpn,hb,hfn⟩
        obtain ⟨a8,c8,e8⟩:=hpn.1.slice
        obtain ⟨a9,c9,e9⟩:=hpn.2.slice
        rw [HLN.out] at e8 e9
        subst e8;subst e9
        have CP:Hid (PlayAt y2 (l3++[(R,(v.length:Int))]) (.slice a8 (v.length+2) c8) (.slice a9 (v.length+2) c9)):=hpn
        have CF:Hid (∀ g,(Value.slice a8 (v.length+2) c8).ownBlock=some g\/(Value.slice a9 (v.length+2) c9).ownBlock=some g->wr.heap.size<=g):=Lib.hid (fun g hg=>Nat.le_trans hBy1.size (hfn g hg))
        clear hpn hfn
        have hBy2:Below wr.heap.size wr y2:=hBy1.trans (hb.mono hBy1.size)
        have hby2:=Lib.hid hb;clear hb
        refine hK.out _ _ (fun _=>?_) ?_
        ·exact hBy2
        clear hK K'
        (try simp only [Act.put,List.setIfInBounds_toArray,List.set_cons_zero,List.set_cons_succ])
        refine wpAnyS_one 7 (by kernel_rfl) ?_
        (intro o7 ho K' hK;simp at ho;subst ho)
        go_simp
        refine hK.out _ _ (fun _=>?_) ?_
        ·exact hBy2.alloc hBy2.size _
        clear hK K'
        (try simp only [Act.put,List.setIfInBounds_toArray,List.set_cons_zero,List.set_cons_succ])
        obtain ⟨y3,hnew⟩:∃ x,y2.alloc (.cells #[.slice none 0 0,.slice none 0 0] 39)=x:=⟨_,rfl⟩
        obtain ⟨gN,hgN⟩:∃ g,y2.heap.size=g:=⟨_,rfl⟩
        rw [hnew,hgN]
        have hBy3:Below wr.heap.size wr y3:=by rw [<- hnew];exact hBy2.alloc hBy2.size _
        obtain ⟨tg3,htg⟩:∃ x,retag tg0 gN 3=x:=⟨_,rfl⟩
        have CP:Hid (PlayAt y3 (l3++[(R,(v.length:Int))]) (.slice a8 (v.length+2) c8) (.slice a9 (v.length+2) c9)):=by rw [<- hnew];exact CP.out.below ((Below.refl _ _).alloc (Nat.le_refl _) _)
        have EN:Hid (y3.heap[gN]? = some (.cells #[.slice none 0 0,.slice none 0 0] 39 (0,0))/\tg3 gN=3/\wr.heap.size<=gN):=by rw [<- hnew,<- htg,<- hgN];exact ⟨heap_new _ _,by unfold retag;rw [if_pos rfl],hBy2.size⟩
        clear hnew hgN htg
        refine wpAnyS_one 8 (by kernel_rfl) ?_
        (intro o8 ho K' hK;simp at ho;subst ho)
        obtain ⟨uN0,cN0⟩:∃ u,y3.cell? ⟨gN,0,none⟩=some u:=⟨_,by simp [World.cell?,EN.out.1];rfl⟩
        have fN0:y3.frozen? ⟨gN,0,none⟩=false:=by simp [World.frozen?,EN.out.1]
        obtain ⟨uN1,cN1⟩:∃ u,y3.cell? ⟨gN,1,none⟩=some u:=⟨_,by simp [World.cell?,EN.out.1];rfl⟩
        have fN1:y3.frozen? ⟨gN,1,none⟩=false:=by simp [World.frozen?,EN.out.1]
        go_simp
        refine hK.out _ _ (fun _=>?_) ?_
        ·exact ((hBy3.setCell (p:=⟨gN,0,none⟩) EN.out.2.2 _).setCell (p:=⟨gN,1,none⟩) EN.out.2.2 _)
        clear hK K'
        (try simp only [Act.put,List.setIfInBounds_toArray,List.set_cons_zero,List.set_cons_succ])
        obtain ⟨y4,hnew⟩:∃ x,((y3.setCell ⟨gN,0,none⟩ (.slice a8 (v.length+2) c8)).setCell ⟨gN,1,none⟩ (.slice a9 (v.length+2) c9))=x:=⟨_,rfl⟩
        rw [hnew]
        have hBy4:Below wr.heap.size wr y4:=by rw [<- hnew];exact ((hBy3.setCell (p:=⟨gN,0,none⟩) EN.out.2.2 _).setCell (p:=⟨gN,1,none⟩) EN.out.2.2 _)
        have hbt:But (fun i=>i=gN) y3 y4:=by rw [<- hnew];exact (((But.refl (fun i=>i=gN) y3).setCell (p:=⟨gN,0,none⟩) (.inl rfl) _).setCell (p:=⟨gN,1,none⟩) (.inl rfl) _)
        have htg:∀ g,g=gN->tg3 g=3:=fun g e=>by rw [e];exact EN.out.2.1
        have CP:Hid (PlayAt y4 (l3++[(R,(v.length:Int))]) (.slice a8 (v.length+2) c8) (.slice a9 (v.length+2) c9)):=CP.out.but hbt (CP.out.notBox EN.out.1 (by decide) (by decide))
        have EN:Hid (y4.heap[gN]? = some (.cells #[.slice a8 (v.length+2) c8,.slice a9 (v.length+2) c9] 39 (0,0))/\tg3 gN=3/\wr.heap.size<=gN):=⟨by rw [<- hnew];exact (setCell_at' (setCell_at' EN.out.1)),EN.out.2⟩
        clear hnew hbt htg cN0 fN0 cN1 fN1
        refine wpAnyS_done (by kernel_rfl) (NoPanic.normal ?_) _
        exact ⟨rfl,⟨a8,c8,a9,c9,gN⟩,by rfl,hBy4,EN.out.1,EN.out.2.2,CP.out,CF.out⟩
       ·(intro o7 ho K' hK;simp at ho;subst ho)
        go_simp
        refine hK.out _ _ (fun _=>?_) ?_
        ·exact hBy1.alloc hBy1.size _
        clear hK K'
        (try simp only [Act.put,List.setIfInBounds_toArray,List.set_cons_zero,List.set_cons_succ])
        obtain ⟨y5,hnew⟩:∃ x,y1.alloc (.cells #[.slice none 0 0,.slice none 0 0] 39)=x:=⟨_,rfl⟩
        obtain ⟨gN,hgN⟩:∃ g,y1.heap.size=g:=⟨_,rfl⟩
        rw [hnew,hgN]
        have hBy5:Below wr.heap.size wr y5:=by rw [<- hnew];exact hBy1.alloc hBy1.size _
        obtain ⟨tg5,htg⟩:∃ x,retag tg0 gN 3=x:=⟨_,rfl⟩
        have EN:Hid (y5.heap[gN]? = some (.cells #[.slice none 0 0,.slice none 0 0] 39 (0,0))/\tg5 gN=3/\wr.heap.size<=gN):=by rw [<- hnew,<- htg,<- hgN];exact ⟨heap_new _ _,by unfold retag;rw [if_pos rfl],hBy1.size⟩
        clear hnew hgN htg
        refine wpAnyS_one 6 (by kernel_rfl) ?_
        (intro o6 ho K' hK;simp at ho;subst ho)
        go_simp
        go_at_call 24
        (with_reducible refine (CW2.out _ hBy5).mono ?_)
        rintro en y6 ⟨mvn,ptn,rfl,hpn,hb,hfn⟩
        obtain ⟨a8,c8,e8⟩:=hpn.1.slice
        obtain ⟨a9,c9,e9⟩:=hpn.2.slice
        rw [HLN.out] at e8 e9
        subst e8;subst e9
        have CP:Hid (PlayAt y6 (l3++[(R,(v.length:Int))]) (.slice a8 (v.length+2) c8) (.slice a9 (v.length+2) c9)):=hpn
        have CF:Hid (∀ g,(Value.slice a8 (v.length+2) c8).ownBlock=some g\/(Value.slice a9 (v.length+2) c9).ownBlock=some g->wr.heap.size<=g):=Lib.hid (fun g hg=>Nat.le_trans hBy5.size (hfn g hg))
        clear hpn hfn
        have hBy6:Below wr.heap.size wr y6:=hBy5.trans (hb.mono hBy5.size)
        have EN:Hid (y6.heap[gN]? = some (.cells #[.slice none 0 0,.slice none 0 0] 39 (0,0))/\tg5 gN=3/\wr.heap.size<=gN):=⟨(hb.block _ (lt_of_heap EN.out.1)).trans EN.out.1,EN.out.2⟩
        have hby6:=Lib.hid hb;clear hb
        refine hK.out _ _ (fun _=>?_) ?_
        ·exact hBy6
        clear hK K'
        (try simp only [Act.put,List.setIfInBounds_toArray,List.set_cons_zero,List.set_cons_succ])
        refine wpAnyS_one 8 (by kernel_rfl) ?_
        (intro o8 ho K' hK;simp at ho;subst ho)
        obtain ⟨uN0,cN0⟩:∃ u,y6.cell? ⟨gN,0,none⟩=some u:=⟨_,by simp [World.cell?,EN.out.1];rfl⟩
        have fN0:y6.frozen? ⟨gN,0,none⟩=false:=by simp [World.frozen?,EN.out.1]
        obtain ⟨uN1,cN1⟩:∃ u,y6.cell? ⟨gN,1,none⟩=some u:=⟨_,by simp [World.cell?,EN.out.1];rfl⟩
        have fN1:y6.frozen? ⟨gN,1,none⟩=false:=by simp [World.frozen?,EN.out.1]
        go_simp
        refine hK.out _ _ (fun _=>?_) ?_
        ·exact ((hBy6.setCell (p:=⟨gN,0,none⟩) EN.out.2.2 _).setCell (p:=⟨gN,1,none⟩) EN.out.2.2 _)
        clear hK K'
        (try simp only [Act.put,List.setIfInBounds_toArray,List.set_cons_zero,List.set_cons_succ])
        obtain ⟨y7,hnew⟩:∃ x,((y6.setCell ⟨gN,0,none⟩ (.slice a8 (v.length+2) c8)).setCell ⟨gN,1,none⟩ (.slice a9 (v.length+2) c9))=x:=⟨_,rfl⟩
        rw [hnew]
        have hBy7:Below wr.heap.size wr y7:=by rw [<- hnew];exact ((hBy6.setCell (p:=⟨gN,0,none⟩) EN.out.2.2 _).setCell (p:=⟨gN,1,none⟩) EN.out.2.2 _)
        have hbt:But (fun i=>i=gN) y6 y7:=by rw [<- hnew];exact (((But.refl (fun i=>i=gN) y6).setCell (p:=⟨gN,0,none⟩) (.inl rfl) _).setCell (p:=⟨gN,1,none⟩) (.inl rfl) _)
        have htg:∀ g,g=gN->tg5 g=3:=fun g e=>by rw [e];exact EN.out.2.1
        have CP:Hid (PlayAt y7 (l3++[(R,(v.length:Int))]) (.slice a8 (v.length+2) c8) (.slice a9 (v.length+2) c9)):=CP.out.but hbt (CP.out.notBox EN.out.1 (by decide) (by decide))
        have EN:Hid (y7.heap[gN]? = some (.cells #[.slice a8 (v.length+2) c8,.slice a9 (v.length+2) c9] 39 (0,0))/\tg5 gN=3/\wr.heap.size<=gN):=⟨by rw [<- hnew];exact (setCell_at' (setCell_at' EN.out.1)),EN.out.2⟩
        clear hnew hbt htg cN0 fN0 cN1 fN1
        refine wpAnyS_done (by kernel_rfl) (NoPanic.normal ?_) _
        exact ⟨rfl,⟨a8,c8,a9,c9,gN⟩,by rfl,hBy7,EN.out.1,EN.out.2.2,CP.out,CF.out⟩
      ·(intro o7 ho K' hK;simp at ho;subst ho)
       go_simp
       refine hK.out _ _ (fun _=>?_) ?_
       ·exact hBy0.alloc hBy0.size _
       clear hK K'
       (try simp only [Act.put,List.setIfInBounds_toArray,List.set_cons_zero,List.set_cons_succ])
       obtain ⟨y8,hnew⟩:∃ x,y0.alloc (.cells #[.slice none 0 0,.slice none 0 0] 39)=x:=⟨_,rfl⟩
       obtain ⟨gN,hgN⟩:∃ g,y0.heap.size=g:=⟨_,rfl⟩
       rw [hnew,hgN]
       have hBy8:Below wr.heap.size wr y8:=by rw [<- hnew];exact hBy0.alloc hBy0.size _
       obtain ⟨tg8,htg⟩:∃ x,retag tg0 gN 3=x:=⟨_,rfl⟩
       have EN:Hid (y8.heap[gN]? = some (.cells #[.slice none 0 0,.slice none 0 0] 39 (0,0))/\tg8 gN=3/\wr.heap.size<=gN):=by rw [<- hnew,<- htg,<- hgN];exact ⟨heap_new _ _,by unfold retag;rw [if_pos rfl],hBy0.size⟩
       clear hnew hgN htg
       refine wpAnyS_one 3 (by kernel_rfl) ?_
       (intro o3 ho K' hK;simp at ho;subst ho)
       go_simp
       go_at_call 25
       (with_reducible refine (CD.out _).mono ?_)
       rintro en y9 ⟨rfl,hb⟩
       have hBy9:Below wr.heap.size wr y9:=hBy8.trans (hb.mono hBy8.size)
       have EN:Hid (y9.heap[gN]? = some (.cells #[.slice none 0 0,.slice none 0 0] 39 (0,0))/\tg8 gN=3/\wr.heap.size<=gN):=⟨(hb.block _ (lt_of_heap EN.out.1)).trans EN.out.1,EN.out.2⟩
       have hby9:=Lib.hid hb;clear hb
       refine hK.out _ _ (fun _=>?_) ?_
       ·exact hBy9
       clear hK K'
       (try simp only [Act.put,List.setIfInBounds_toArray,List.set_cons_zero,List.set_cons_succ])
       refine wpAnyS_take 4 (v:=?_) (by kernel_rfl) (by kernel_rfl) (by kernel_rfl) (by kernel_rfl) (fun _ _ _ _ h=>h) hBy9 ?_ ?_
       rotate_left
       ·(intro oi ho;simp at ho;subst ho;refine Or.inl ⟨by rfl,fun w' hw'=>?_⟩;go_simp;try with_reducible rfl)
       (intro d hd;simp at hd;subst hd;simp only [Act.put,List.setIfInBounds_toArray,List.set_cons_zero,List.set_cons_succ])
       refine wpAnyS_one 6 (by kernel_rfl) ?_
       (intro o6 ho K' hK;simp at ho;subst ho)
       go_simp
       go_at_call 24
       (with_reducible refine (CW2.out _ hBy9).mono ?_)
       rintro en y10 ⟨mvn,ptn,rfl,hpn,hb,hfn⟩
       obtain ⟨a8,c8,e8⟩:=hpn.1.slice
       obtain ⟨a9,c9,e9⟩:=hpn.2.slice
       rw [HLN.out] at e8 e9
       subst e8;subst e9
       have CP:Hid (PlayAt y10 (l3++[(R,(v.length:Int))]) (.slice a8 (v.length+2) c8) (.slice a9 (v.length+2) c9)):=hpn
       have CF:Hid (∀ g,(Value.slice a8 (v.length+2) c8).ownBlock=some g\/(Value.slice a9 (v.length+2) c9).ownBlock=some g->wr.heap.size<=g):=Lib.hid (fun g hg=>Nat.le_trans hBy9.size (hfn g hg))
       clear hpn hfn
       have hBy10:Below wr.heap.size wr y10:=hBy9.trans (hb.mono hBy9.size)
       have EN:Hid (y10.heap[gN]? = some (.cells #[.slice none 0 0,.slice none 0 0] 39 (0,0))/\tg8 gN=3/\wr.heap.size<=gN):=⟨(hb.block _ (lt_of_heap EN.out.1)).trans EN.out.1,EN.out.2⟩
       have hby10:=Lib.hid hb;clear hb
       refine hK.out _ _ (fun _=>?_) ?_
       ·exact hBy10
       clear hK K'
       (try simp only [Act.put,List.setIfInBounds_toArray,List.set_cons_zero,List.set_cons_succ])
       refine wpAnyS_one 8 (by kernel_rfl) ?_
       (intro o8 ho K' hK;simp at ho;subst ho)
       obtain ⟨uN0,cN0⟩:∃ u,y10.cell? ⟨gN,0,none⟩=some u:=⟨_,by simp [World.cell?,EN.out.1];rfl⟩
       have fN0:y10.frozen? ⟨gN,0,none⟩=false:=by simp [World.frozen?,EN.out.1]
       obtain ⟨uN1,cN1⟩:∃ u,y10.cell? ⟨gN,1,none⟩=some u:=⟨_,by simp [World.cell?,EN.out.1];rfl⟩
       have fN1:y10.frozen? ⟨gN,1,none⟩=false:=by simp [World.frozen?,EN.out.1]
       go_simp
       refine hK.out _ _ (fun _=>?_) ?_
       ·exact ((hBy10.setCell (p:=⟨gN,0,none⟩) EN.out.2.2 _).setCell (p:=⟨gN,1,none⟩) EN.out.2.2 _)
       clear hK K'
       (try simp only [Act.put,List.setIfInBounds_toArray,List.set_cons_zero,List.set_cons_succ])
       obtain ⟨y11,hnew⟩:∃ x,((y10.setCell ⟨gN,0,none⟩ (.slice a8 (v.length+2) c8)).setCell ⟨gN,1,none⟩ (.slice a9 (v.length+2) c9))=x:=⟨_,rfl⟩
       rw [hnew]
       have hBy11:Below wr.heap.size wr y11:=by rw [<- hnew];exact ((hBy10.setCell (p:=⟨gN,0,none⟩) EN.out.2.2 _).setCell (p:=⟨gN,1,none⟩) EN.out.2.2 _)
       have hbt:But (fun i=>i=gN) y10 y11:=by rw [<- hnew];exact (((But.refl (fun i=>i=gN) y10).setCell (p:=⟨gN,0,none⟩) (.inl rfl) _).setCell (p:=⟨gN,1,none⟩) (.inl rfl) _)
       have htg:∀ g,g=gN->tg8 g=3:=fun g e=>by rw [e];exact EN.out.2.1
       have CP:Hid (PlayAt y11 (l3++[(R,(v.length:Int))]) (.slice a8 (v.length+2) c8) (.slice a9 (v.length+2) c9)):=CP.out.but hbt (CP.out.notBox EN.out.1 (by decide) (by decide))
       have EN:Hid (y11.heap[gN]? = some (.cells #[.slice a8 (v.length+2) c8,.slice a9 (v.length+2) c9] 39 (0,0))/\tg8 gN=3/\wr.heap.size<=gN):=⟨by rw [<- hnew];exact (setCell_at' (setCell_at' EN.out.1)),EN.out.2⟩
       clear hnew hbt htg cN0 fN0 cN1 fN1
       refine wpAnyS_done (by kernel_rfl) (NoPanic.normal ?_) _
       exact ⟨rfl,⟨a8,c8,a9,c9,gN⟩,by rfl,hBy11,EN.out.1,EN.out.2.2,CP.out,CF.out⟩
     rintro ⟨a8,c8,a9,c9,gN⟩ W7 ⟨hB7,hN7,hgN,hP7,hF7⟩
     dsimp only at hN7 hgN hP7 hF7
     simp only [pQ,pN,pZ,pS]
     have CAT:=Lib.hid (fun x (hx:Below W7.heap.size W7 x)=>l1At_back (Fo (.slice a6 n6 c6)) t aj R2 (.slice ta t.args.length tc) W7 x (HVR.out.rt.below hB7 (fun _ h=>h)) HC.out.t15 (by rw [HR.out.2,dec_small (show k<10 by omega)];have:p.length<=7:=HC.out.p7;show _<=_;simp;omega) (by rw [HR.out.2];exact HS.out.2.2.2.2.2.2) hx)
     have KEY17:Hid (∀ x,Below W7.heap.size W7 x->x.cell? ⟨w.heap.size,0,none⟩=some (.slice ta t.args.length tc)):=Lib.hid (fun x hx=>by
      have k0:=one_cell ((hB7.block _ (lt_of_heap HVR.out.b0)).trans HVR.out.b0)
      exact (hx.cell (World.block_lt_of_cell? _ _ k0)).trans k0)
     have H7:=Lib.hid (And.intro hB7 (And.intro hN7 (And.intro hgN (And.intro hP7 hF7))))
     clear hB7 hN7 hgN hP7 hF7 q2
     have h1p:(1:Int)<=(p.length:Int)+1:=by omega
     go_upto_region 17 with (fail)
     refine cut_code (X:=Option Addr×Nat×Nat) (fun zz x=>((((((((((((zz.put (some 77) (.agg #[.slice ta t.args.length tc])).put (some 78) (str (113::p))).put (some 79) (str p)).put (some 80) (.int .i64 (k:Nat))).put (some 81) (str (dec k))).put (some 82) (str R2)).put (some 83) (.tuple #[.agg #[.slice x.1 aj.args.length x.2.1],.bool true])).put (some 76) (.tuple #[.agg #[.slice x.1 aj.args.length x.2.1],.bool true])).put (some 84) (.agg #[.slice x.1 aj.args.length x.2.1])).put (some 85) (.bool true)).put (some 17) (.pointer (some ⟨x.2.2,0,none⟩))).put (some 18) (.bool true))) (fun x w7=>Below W7.heap.size W7 w7/\w7.heap[x.2.2]? = some (.cells #[.slice x.1 aj.args.length x.2.1] 30 (0,0))/\W7.heap.size<=x.2.2/\Rep (Fo (.slice a6 n6 c6)) W7 (encS aj) (.slice x.1 aj.args.length x.2.1)) ?_ ?_
     ·refine wp_region_noPanic ?_
      refine wp_region_S (fun w'=>Below W7.heap.size W7 w') (fun _=>false) (by kernel_rfl) ?_
      obtain ⟨z0,hz0⟩:∃ x,W7.drew=x:=⟨_,rfl⟩
      rw [hz0]
      have hBz0:Below W7.heap.size W7 z0:=by rw [<- hz0];exact Below.drew (Below.refl _ _)
      obtain ⟨tg0,htg0⟩:∃ x:Nat->Nat,x=fun _=>0:=⟨_,rfl⟩
      clear hz0 htg0
      refine wpAnyS_take 0 (v:=?_) (by kernel_rfl) (by kernel_rfl) (by kernel_rfl) (by kernel_rfl) (fun _ _ _ _ h=>h) hBz0 ?_ ?_
      rotate_left
      ·(intro oi ho;simp at ho;subst ho;refine Or.inl ⟨by rfl,fun w' hw'=>?_⟩;have e0:=KEY17.out w' hw';go_simp;try with_reducible rfl)
      (intro d hd;simp at hd;subst hd;simp only [Act.put,List.setIfInBounds_toArray,List.set_cons_zero,List.set_cons_succ])
      refine wpAnyS_take 1 (v:=?_) (by kernel_rfl) (by kernel_rfl) (by kernel_rfl) (by kernel_rfl) (fun _ _ _ _ h=>h) hBz0 ?_ ?_
      rotate_left
      ·(intro oi ho;simp at ho;subst ho;refine Or.inl ⟨by rfl,fun w' hw'=>?_⟩;go_simp;try with_reducible rfl)
      (intro d hd;simp at hd;subst hd;simp only [Act.put,List.setIfInBounds_toArray,List.set_cons_zero,List.set_cons_succ])
      refine wpAnyS_take 2 (v:=?_) (by kernel_rfl) (by kernel_rfl) (by kernel_rfl) (by kernel_rfl) (fun _ _ _ _ h=>h) hBz0 ?_ ?_
      rotate_left
      ·(intro oi ho;simp at ho;subst ho;refine Or.inl ⟨by rfl,fun w' hw'=>?_⟩;go_simp;try with_reducible rfl)
      (intro d hd;simp at hd;subst hd;simp only [Act.put,List.setIfInBounds_toArray,List.set_cons_zero,List.set_cons_succ])
      refine wpAnyS_take 3 (v:=?_) (by kernel_rfl) (by kernel_rfl) (by kernel_rfl) (by kernel_rfl) (fun _ _ _ _ h=>h) hBz0 ?_ ?_
      rotate_left
      ·(intro oi ho;simp at ho;subst ho;refine Or.inl ⟨by rfl,fun w' hw'=>?_⟩;go_simp;try with_reducible rfl)
      (intro d hd;simp at hd;subst hd;simp only [Act.put,List.setIfInBounds_toArray,List.set_cons_zero,List.set_cons_succ])
      refine wpAnyS_two 4 10 (by kernel_rfl) ?_ ?_
      ·(intro o4 ho K' hK;simp at ho;subst ho)
       go_simp
       go_at_call 25
       (with_reducible refine (CD.out _).mono ?_)
       rintro en z1 ⟨rfl,hb⟩
       have hBz1:Below W7.heap.size W7 z1:=hBz0.trans (hb.mono hBz0.size)
       have hbz1:=Lib.hid hb;clear hb
       refine hK.out _ _ (fun _=>?_) ?_
       ·exact hBz1
       clear hK K'
       (try simp only [Act.put,List.setIfInBounds_toArray,List.set_cons_zero,List.set_cons_succ])
       refine wpAnyS_take 5 (v:=?_) (by kernel_rfl) (by kernel_rfl) (by kernel_rfl) (by kernel_rfl) (fun _ _ _ _ h=>h) hBz1 ?_ ?_
       rotate_left
       ·(intro oi ho;simp at ho;subst ho;refine Or.inl ⟨by rfl,fun w' hw'=>?_⟩;go_simp;try with_reducible rfl)
       (intro d hd;simp at hd;subst hd;simp only [Act.put,List.setIfInBounds_toArray,List.set_cons_zero,List.set_cons_succ])
       refine wpAnyS_two 6 10 (by kernel_rfl) ?_ ?_
       ·(intro o6 ho K' hK;simp at ho;subst ho)
        go_simp
        go_at_call 26
        (with_reducible refine (CAT.out _ hBz1).mono ?_)
        rintro en z2 ⟨ka,kc,rfl,hb,hkr⟩
        have HKR:=Lib.hid hkr
        clear hkr
        have hBz2:Below W7.heap.size W7 z2:=hBz1.trans (hb.mono hBz1.size)
        have hbz2:=Lib.hid hb;clear hb
        refine hK.out _ _ (fun _=>?_) ?_
        ·exact hBz2
        clear hK K'
        (try simp only [Act.put,List.setIfInBounds_toArray,List.set_cons_zero,List.set_cons_succ])
        refine wpAnyS_take 7 (v:=?_) (by kernel_rfl) (by kernel_rfl) (by kernel_rfl) (by kernel_rfl) (fun _ _ _ _ h=>h) hBz2 ?_ ?_
        rotate_left
        ·(intro oi ho;simp at ho;subst ho;refine Or.inl ⟨by rfl,fun w' hw'=>?_⟩;go_simp;try with_reducible rfl)
        (intro d hd;simp at hd;subst hd;simp only [Act.put,List.setIfInBounds_toArray,List.set_cons_zero,List.set_cons_succ])
        refine wpAnyS_take 8 (v:=?_) (by kernel_rfl) (by kernel_rfl) (by kernel_rfl) (by kernel_rfl) (fun _ _ _ _ h=>h) hBz2 ?_ ?_
        rotate_left
        ·(intro oi ho;simp at ho;subst ho;refine Or.inl ⟨by rfl,fun w' hw'=>?_⟩;go_simp;try with_reducible rfl)
        (intro d hd;simp at hd;subst hd;simp only [Act.put,List.setIfInBounds_toArray,List.set_cons_zero,List.set_cons_succ])
        refine wpAnyS_take 9 (v:=?_) (by kernel_rfl) (by kernel_rfl) (by kernel_rfl) (by kernel_rfl) (fun _ _ _ _ h=>h) hBz2 ?_ ?_
        rotate_left
        ·(intro oi ho;simp at ho;subst ho;refine Or.inl ⟨by rfl,fun w' hw'=>?_⟩;go_simp;try with_reducible rfl)
        (intro d hd;simp at hd;subst hd;simp only [Act.put,List.setIfInBounds_toArray,List.set_cons_zero,List.set_cons_succ])
        refine wpAnyS_one 10 (by kernel_rfl) ?_
        (intro o10 ho K' hK;simp at ho;subst ho)
        go_simp
        refine hK.out _ _ (fun _=>?_) ?_
        ·exact hBz2.alloc hBz2.size _
        clear hK K'
        (try simp only [Act.put,List.setIfInBounds_toArray,List.set_cons_zero,List.set_cons_succ])
        obtain ⟨z3,hnew⟩:∃ x,z2.alloc (.cells #[.slice none 0 0] 30)=x:=⟨_,rfl⟩
        obtain ⟨gK,hgK⟩:∃ g,z2.heap.size=g:=⟨_,rfl⟩
        rw [hnew,hgK]
        have hBz3:Below W7.heap.size W7 z3:=by rw [<- hnew];exact hBz2.alloc hBz2.size _
        obtain ⟨tg3,htg⟩:∃ x,retag tg0 gK 4=x:=⟨_,rfl⟩
        have EK:Hid (z3.heap[gK]? = some (.cells #[.slice none 0 0] 30 (0,0))/\tg3 gK=4/\W7.heap.size<=gK):=by rw [<- hnew,<- htg,<- hgK];exact ⟨heap_new _ _,by unfold retag;rw [if_pos rfl],hBz2.size⟩
        clear hnew hgK htg
        refine wpAnyS_one 11 (by kernel_rfl) ?_
        (intro o11 ho K' hK;simp at ho;subst ho)
        obtain ⟨uK0,cK0⟩:∃ u,z3.cell? ⟨gK,0,none⟩=some u:=⟨_,by simp [World.cell?,EK.out.1];rfl⟩
        have fK0:z3.frozen? ⟨gK,0,none⟩=false:=by simp [World.frozen?,EK.out.1]
        go_simp
        refine hK.out _ _ (fun _=>?_) ?_
        ·exact (hBz3.setCell (p:=⟨gK,0,none⟩) EK.out.2.2 _)
        clear hK K'
        (try simp only [Act.put,List.setIfInBounds_toArray,List.set_cons_zero,List.set_cons_succ])
        obtain ⟨z4,hnew⟩:∃ x,(z3.setCell ⟨gK,0,none⟩ (.slice ka aj.args.length kc))=x:=⟨_,rfl⟩
        rw [hnew]
        have hBz4:Below W7.heap.size W7 z4:=by rw [<- hnew];exact (hBz3.setCell (p:=⟨gK,0,none⟩) EK.out.2.2 _)
        have hbt:But (fun i=>i=gK) z3 z4:=by rw [<- hnew];exact ((But.refl (fun i=>i=gK) z3).setCell (p:=⟨gK,0,none⟩) (.inl rfl) _)
        have htg:∀ g,g=gK->tg3 g=4:=fun g e=>by rw [e];exact EK.out.2.1
        have EK:Hid (z4.heap[gK]? = some (.cells #[.slice ka aj.args.length kc] 30 (0,0))/\tg3 gK=4/\W7.heap.size<=gK):=⟨by rw [<- hnew];exact (setCell_at' EK.out.1),EK.out.2⟩
        clear hnew hbt htg cK0 fK0
        refine wpAnyS_one 12 (by kernel_rfl) ?_
        (intro o12 ho K' hK;simp at ho;subst ho)
        go_simp
        refine hK.out _ _ (fun _=>?_) ?_
        ·exact hBz4
        clear hK K'
        (try simp only [Act.put,List.setIfInBounds_toArray,List.set_cons_zero,List.set_cons_succ])
        refine wpAnyS_done (by kernel_rfl) (NoPanic.normal ?_) _
        exact ⟨rfl,⟨ka,kc,gK⟩,by rfl,hBz4,EK.out.1,EK.out.2.2,HKR.out⟩
       ·(intro o10 ho K' hK;simp at ho;subst ho)
        go_simp
        refine hK.out _ _ (fun _=>?_) ?_
        ·exact hBz1.alloc hBz1.size _
        clear hK K'
        (try simp only [Act.put,List.setIfInBounds_toArray,List.set_cons_zero,List.set_cons_succ])
        obtain ⟨z6,hnew⟩:∃ x,z1.alloc (.cells #[.slice none 0 0] 30)=x:=⟨_,rfl⟩
        obtain ⟨gK,hgK⟩:∃ g,z1.heap.size=g:=⟨_,rfl⟩
        rw [hnew,hgK]
        have hBz6:Below W7.heap.size W7 z6:=by rw [<- hnew];exact hBz1.alloc hBz1.size _
        obtain ⟨tg6,htg⟩:∃ x,retag tg0 gK 4=x:=⟨_,rfl⟩
        have EK:Hid (z6.heap[gK]? = some (.cells #[.slice none 0 0] 30 (0,0))/\tg6 gK=4/\W7.heap.size<=gK):=by rw [<- hnew,<- htg,<- hgK];exact ⟨heap_new _ _,by unfold retag;rw [if_pos rfl],hBz1.size⟩
        clear hnew hgK htg
        refine wpAnyS_one 6 (by kernel_rfl) ?_
        (intro o6 ho K' hK;simp at ho;subst ho)
        go_simp
        go_at_call 26
        (with_reducible refine (CAT.out _ hBz6).mono ?_)
        rintro en z7 ⟨ka,kc,rfl,hb,hkr⟩
        have HKR:=Lib.hid hkr
        clear hkr
        have hBz7:Below W7.heap.size W7 z7:=hBz6.trans (hb.mono hBz6.size)
        have EK:Hid (z7.heap[gK]? = some (.cells #[.slice none 0 0] 30 (0,0))/\tg6 gK=4/\W7.heap.size<=gK):=⟨(hb.block _ (lt_of_heap EK.out.1)).trans EK.out.1,EK.out.2⟩
        have hbz7:=Lib.hid hb;clear hb
        refine hK.out _ _ (fun _=>?_) ?_
        ·exact hBz7
        clear hK K'
        (try simp only [Act.put,List.setIfInBounds_toArray,List.set_cons_zero,List.set_cons_succ])
        refine wpAnyS_take 7 (v:=?_) (by kernel_rfl) (by kernel_rfl) (by kernel_rfl) (by kernel_rfl) (fun _ _ _ _ h=>h) hBz7 ?_ ?_
        rotate_left
        ·(intro oi ho;simp at ho;subst ho;refine Or.inl ⟨by rfl,fun w' hw'=>?_⟩;go_simp;try with_reducible rfl)
        (intro d hd;simp at hd;subst hd;simp only [Act.put,List.setIfInBounds_toArray,List.set_cons_zero,List.set_cons_succ])
        refine wpAnyS_take 8 (v:=?_) (by kernel_rfl) (by kernel_rfl) (by kernel_rfl) (by kernel_rfl) (fun _ _ _ _ h=>h) hBz7 ?_ ?_
        rotate_left
        ·(intro oi ho;simp at ho;subst ho;refine Or.inl ⟨by rfl,fun w' hw'=>?_⟩;go_simp;try with_reducible rfl)
        (intro d hd;simp at hd;subst hd;simp only [Act.put,List.setIfInBounds_toArray,List.set_cons_zero,List.set_cons_succ])
        refine wpAnyS_take 9 (v:=?_) (by kernel_rfl) (by kernel_rfl) (by kernel_rfl) (by kernel_rfl) (fun _ _ _ _ h=>h) hBz7 ?_ ?_
        rotate_left
        ·(intro oi ho;simp at ho;subst ho;refine Or.inl ⟨by rfl,fun w' hw'=>?_⟩;go_simp;try with_reducible rfl)
        (intro d hd;simp at hd;subst hd;simp only [Act.put,List.setIfInBounds_toArray,List.set_cons_zero,List.set_cons_succ])
        refine wpAnyS_one 11 (by kernel_rfl) ?_
        (intro o11 ho K' hK;simp at ho;subst ho)
        obtain ⟨uK0,cK0⟩:∃ u,z7.cell? ⟨gK,0,none⟩=some u:=⟨_,by simp [World.cell?,EK.out.1];rfl⟩
        have fK0:z7.frozen? ⟨gK,0,none⟩=false:=by simp [World.frozen?,EK.out.1]
        go_simp
        refine hK.out _ _ (fun _=>?_) ?_
        ·exact (hBz7.setCell (p:=⟨gK,0,none⟩) EK.out.2.2 _)
        clear hK K'
        (try simp only [Act.put,List.setIfInBounds_toArray,List.set_cons_zero,List.set_cons_succ])
        obtain ⟨z8,hnew⟩:∃ x,(z7.setCell ⟨gK,0,none⟩ (.slice ka aj.args.length kc))=x:=⟨_,rfl⟩
        rw [hnew]
        have hBz8:Below W7.heap.size W7 z8:=by rw [<- hnew];exact (hBz7.setCell (p:=⟨gK,0,none⟩) EK.out.2.2 _)
        have hbt:But (fun i=>i=gK) z7 z8:=by rw [<- hnew];exact ((But.refl (fun i=>i=gK) z7).setCell (p:=⟨gK,0,none⟩) (.inl rfl) _)
        have htg:∀ g,g=gK->tg6 g=4:=fun g e=>by rw [e];exact EK.out.2.1
        have EK:Hid (z8.heap[gK]? = some (.cells #[.slice ka aj.args.length kc] 30 (0,0))/\tg6 gK=4/\W7.heap.size<=gK):=⟨by rw [<- hnew];exact (setCell_at' EK.out.1),EK.out.2⟩
        clear hnew hbt htg cK0 fK0
        refine wpAnyS_one 12 (by kernel_rfl) ?_
        (intro o12 ho K' hK;simp at ho;subst ho)
        go_simp
        refine hK.out _ _ (fun _=>?_) ?_
        ·exact hBz8
        clear hK K'
        (try simp only [Act.put,List.setIfInBounds_toArray,List.set_cons_zero,List.set_cons_succ])
        refine wpAnyS_done (by kernel_rfl) (NoPanic.normal ?_) _
        exact ⟨rfl,⟨ka,kc,gK⟩,by rfl,hBz8,EK.out.1,EK.out.2.2,HKR.out⟩
      ·(intro o10 ho K' hK;simp at ho;subst ho)
       go_simp
       refine hK.out _ _ (fun _=>?_) ?_
       ·exact hBz0.alloc hBz0.size _
       clear hK K'
       (try simp only [Act.put,List.setIfInBounds_toArray,List.set_cons_zero,List.set_cons_succ])
       obtain ⟨z10,hnew⟩:∃ x,z0.alloc (.cells #[.slice none 0 0] 30)=x:=⟨_,rfl⟩
       obtain ⟨gK,hgK⟩:∃ g,z0.heap.size=g:=⟨_,rfl⟩
       rw [hnew,hgK]
       have hBz10:Below W7.heap.size W7 z10:=by rw [<- hnew];exact hBz0.alloc hBz0.size _
       obtain ⟨tg10,htg⟩:∃ x,retag tg0 gK 4=x:=⟨_,rfl⟩
       have EK:Hid (z10.heap[gK]? = some (.cells #[.slice none 0 0] 30 (0,0))/\tg10 gK=4/\W7.heap.size<=gK):=by rw [<- hnew,<- htg,<- hgK];exact ⟨heap_new _ _,by unfold retag;rw [if_pos rfl],hBz0.size⟩
       clear hnew hgK htg
       refine wpAnyS_one 4 (by kernel_rfl) ?_
       (intro o4 ho K' hK;simp at ho;subst ho)
       go_simp
       go_at_call 25
       (with_reducible refine (CD.out _).mono ?_)
       rintro en z11 ⟨rfl,hb⟩
       have hBz11:Below W7.heap.size W7 z11:=hBz10.trans (hb.mono hBz10.size)
       have EK:Hid (z11.heap[gK]? = some (.cells #[.slice none 0 0] 30 (0,0))/\tg10 gK=4/\W7.heap.size<=gK):=⟨(hb.block _ (lt_of_heap EK.out.1)).trans EK.out.1,EK.out.2⟩
       have hbz11:=Lib.hid hb;clear hb
       refine hK.out _ _ (fun _=>?_) ?_
       ·exact hBz11
       clear hK K'
       (try simp only [Act.put,List.setIfInBounds_toArray,List.set_cons_zero,List.set_cons_succ])
       refine wpAnyS_take 5 (v:=?_) (by kernel_rfl) (by kernel_rfl) (by kernel_rfl) (by kernel_rfl) (fun _ _ _ _ h=>h) hBz11 ?_ ?_
       rotate_left
       ·(intro oi ho;simp at ho;subst ho;refine Or.inl ⟨by rfl,fun w' hw'=>?_⟩;go_simp;try with_reducible rfl)
       (intro d hd;simp at hd;subst hd;simp only [Act.put,List.setIfInBounds_toArray,List.set_cons_zero,List.set_cons_succ])
       refine wpAnyS_one 6 (by kernel_rfl) ?_
       (intro o6 ho K' hK;simp at ho;subst ho)
       go_simp
       go_at_call 26
       (with_reducible refine (CAT.out _ hBz11).mono ?_)
       rintro en z12 ⟨ka,kc,rfl,hb,hkr⟩
       have HKR:=Lib.hid hkr
       clear hkr
       have hBz12:Below W7.heap.size W7 z12:=hBz11.trans (hb.mono hBz11.size)
       have EK:Hid (z12.heap[gK]? = some (.cells #[.slice none 0 0] 30 (0,0))/\tg10 gK=4/\W7.heap.size<=gK):=⟨(hb.block _ (lt_of_heap EK.out.1)).trans EK.out.1,EK.out.2⟩
       have hbz12:=Lib.hid hb;clear hb
       refine hK.out _ _ (fun _=>?_) ?_
       ·exact hBz12
       clear hK K'
       (try simp only [Act.put,List.setIfInBounds_toArray,List.set_cons_zero,List.set_cons_succ])
       refine wpAnyS_take 7 (v:=?_) (by kernel_rfl) (by kernel_rfl) (by kernel_rfl) (by kernel_rfl) (fun _ _ _ _ h=>h) hBz12 ?_ ?_
       rotate_left
       ·(intro oi ho;simp at ho;subst ho;refine Or.inl ⟨by rfl,fun w' hw'=>?_⟩;go_simp;try with_reducible rfl)
       (intro d hd;simp at hd;subst hd;simp only [Act.put,List.setIfInBounds_toArray,List.set_cons_zero,List.set_cons_succ])
       refine wpAnyS_take 8 (v:=?_) (by kernel_rfl) (by kernel_rfl) (by kernel_rfl) (by kernel_rfl) (fun _ _ _ _ h=>h) hBz12 ?_ ?_
       rotate_left
       ·(intro oi ho;simp at ho;subst ho;refine Or.inl ⟨by rfl,fun w' hw'=>?_⟩;go_simp;try with_reducible rfl)
       (intro d hd;simp at hd;subst hd;simp only [Act.put,List.setIfInBounds_toArray,List.set_cons_zero,List.set_cons_succ])
       refine wpAnyS_take 9 (v:=?_) (by kernel_rfl) (by kernel_rfl) (by kernel_rfl) (by kernel_rfl) (fun _ _ _ _ h=>h) hBz12 ?_ ?_
       rotate_left
       ·(intro oi ho;simp at ho;subst ho;refine Or.inl ⟨by rfl,fun w' hw'=>?_⟩;go_simp;try with_reducible rfl)
       (intro d hd;simp at hd;subst hd;simp only [Act.put,List.setIfInBounds_toArray,List.set_cons_zero,List.set_cons_succ])
       refine wpAnyS_one 11 (by kernel_rfl) ?_
       (intro o11 ho K' hK;simp at ho;subst ho)
       obtain ⟨uK0,cK0⟩:∃ u,z12.cell? ⟨gK,0,none⟩=some u:=⟨_,by simp [World.cell?,EK.out.1];rfl⟩
       have fK0:z12.frozen? ⟨gK,0,none⟩=false:=by simp [World.frozen?,EK.out.1]
       go_simp
       refine hK.out _ _ (fun _=>?_) ?_
       ·exact (hBz12.setCell (p:=⟨gK,0,none⟩) EK.out.2.2 _)
       clear hK K'
       (try simp only [Act.put,List.setIfInBounds_toArray,List.set_cons_zero,List.set_cons_succ])
       obtain ⟨z13,hnew⟩:∃ x,(z12.setCell ⟨gK,0,none⟩ (.slice ka aj.args.length kc))=x:=⟨_,rfl⟩
       rw [hnew]
       have hBz13:Below W7.heap.size W7 z13:=by rw [<- hnew];exact (hBz12.setCell (p:=⟨gK,0,none⟩) EK.out.2.2 _)
       have hbt:But (fun i=>i=gK) z12 z13:=by rw [<- hnew];exact ((But.refl (fun i=>i=gK) z12).setCell (p:=⟨gK,0,none⟩) (.inl rfl) _)
       have htg:∀ g,g=gK->tg10 g=4:=fun g e=>by rw [e];exact EK.out.2.1
       have EK:Hid (z13.heap[gK]? = some (.cells #[.slice ka aj.args.length kc] 30 (0,0))/\tg10 gK=4/\W7.heap.size<=gK):=⟨by rw [<- hnew];exact (setCell_at' EK.out.1),EK.out.2⟩
       clear hnew hbt htg cK0 fK0
       refine wpAnyS_one 12 (by kernel_rfl) ?_
       (intro o12 ho K' hK;simp at ho;subst ho)
       go_simp
       refine hK.out _ _ (fun _=>?_) ?_
       ·exact hBz13
       clear hK K'
       (try simp only [Act.put,List.setIfInBounds_toArray,List.set_cons_zero,List.set_cons_succ])
       refine wpAnyS_done (by kernel_rfl) (NoPanic.normal ?_) _
       exact ⟨rfl,⟨ka,kc,gK⟩,by rfl,hBz13,EK.out.1,EK.out.2.2,HKR.out⟩
     rintro ⟨ka,kc,gK⟩ W9 ⟨hB9,hK9,hgK,hkr⟩
     dsimp only at hK9 hgK hkr
     simp only [pQ,pN,pZ,pS]
     have hbr9:Below wr.heap.size wr W9:=H7.out.1.trans (hB9.mono H7.out.1.size)
     have hVN:=HVR.out.keep (Ko.below (vw:=.slice a6 n6 c6) hbr9)
     obtain ⟨q2',d2',q3',d3',ba',bc',aa',ac',e,hkids,_⟩:=AtD_openA hVN.ra
     simp only [List.cons.injEq,and_true,Value.slice.injEq] at e
     obtain ⟨_,_,⟨rfl,_,rfl⟩,⟨rfl,_,rfl⟩,⟨rfl,_,rfl⟩,rfl,_,rfl⟩:=e
     obtain ⟨_,_,e,hats⟩:=AtNs.of hkids
     simp only [Value.slice.injEq] at e
     obtain ⟨rfl,_,rfl⟩:=e
     obtain ⟨kb,ko,s',v',ka2,kn2,kc2,ka3,kn3,kc3,sd,e,hkbl,hsd,y0,y1,y2,y3,hyk⟩:=hats k (by omega)
     subst e
     obtain rfl:s=sd:=Option.some.inj (HS.out.1.symm.trans hsd)
     have hI9:TnsIn (113::(p++dec k)) v.length (sizeB s) l3 (.slice a8 (v.length+2) c8) (.slice a9 (v.length+2) c9) (.slice a6 n6 c6) (us++[(.slice a3' n3 c3',.slice a4' n3 c4')]++usk) (L++[l3]++av) W9:=by
      refine ⟨PlsG.below HL.out.pls hbr9,?_,by rw [<- HR.out.1];exact H7.out.2.2.2.1.below hB9,fun g hg e=>?_⟩
      ·have h1:=HL.out.len;have h2:=sum_take_succ HS.out.2.2.2.1;have h3:=sum_take_le (szAll ss y n) (k+1);have h4:=szAll_sum ss y n l;have h5:=H.out.cnt
       simp only [List.length_append,List.length_singleton];omega
      ·have h1:=H7.out.2.2.2.2 g hg;have h2:=HL.out.pls.lt (.inl e);omega
     have kst:=fun wz (hz:Below W9.heap.size W9 wz)=>tv_kidstep (x:=(113::p,(pb:Int))) (pl:=(pb,p)) (begun:=begun) (args:=args) (opens:=opens) (lv:=lv) (bg:=bg) (v:=v) (l:=l) (y:=y) (n:=n) (tv:=.slice ta t.args.length tc) (mv:=.slice a3' n3 c3') (pt:=.slice a4' n3 c4') (B0:=w.heap.size) (B1:=w.heap.size+1) (B2:=BA) rfl rfl rfl rfl s HS.out.1 HS.out.2.1 (ihs s (List.mem_of_getElem? HS.out.1)) HC.out (by rw [HL3.out.1];exact hVN) (by rw [HL3.out.1];exact hI9) hyk (hkr.below hB9 (fun _ h=>h)) (Nat.le_refl _) hz
     rw [HL3.out.1,<- HS.out.2.2.2.2.1] at kst
     have CB:=Lib.hid kst
     have KEY9:Hid (∀ x,Below W9.heap.size W9 x->x.cell? ⟨w.heap.size,0,none⟩=some (.slice ta t.args.length tc)/\x.cell? ⟨w.heap.size+1,0,none⟩=some (str [])/\x.cell? ⟨w.heap.size+1,1,none⟩=some (.int .i64 (l:Nat))/\x.cell? ⟨w.heap.size+1,2,none⟩=some (.slice (some ⟨kb,ko,none⟩) ss.length c2)/\x.cell? ⟨w.heap.size+1,3,none⟩=some (.slice a3 2 c3)/\x.cell? ⟨w.heap.size+1,4,none⟩=some (.slice ba begun.length bc)/\x.cell? ⟨w.heap.size+1,5,none⟩=some (.slice aa args.length ac)/\x.cell? ⟨w.heap.size+1,6,none⟩=some (.int .i64 (opens:Nat)) /\
      x.cell? ⟨kb,ko+k*4,none⟩=some (str s')/\x.cell? ⟨kb,ko+k*4+1,none⟩=some (.int .i64 v')/\x.cell? ⟨kb,ko+k*4+2,none⟩=some (.slice ka2 kn2 kc2)/\x.cell? ⟨kb,ko+k*4+3,none⟩=some (.slice ka3 kn3 kc3)/\x.cell? ⟨gK,0,none⟩=some (.slice ka aj.args.length kc)/\x.cell? ⟨gN,0,none⟩=some (.slice a8 (v.length+2) c8)/\x.cell? ⟨gN,1,none⟩=some (.slice a9 (v.length+2) c9)):=Lib.hid (fun x hx=>by
      have j0:=one_cell hVN.b0
      obtain ⟨i0,i1,i2,i3,i4,i5,i6⟩:=cells_7 hVN.b1
      have jk:=one_cell hK9
      obtain ⟨m0,m1,_,_⟩:=cells_2 ((hB9.block _ (lt_of_heap H7.out.2.1)).trans H7.out.2.1)
      have key:∀ {p:Addr} {u:Value},W9.cell? p=some u->x.cell? p=some u:=fun h=>(hx.cell (World.block_lt_of_cell? _ _ h)).trans h
      exact ⟨key j0,key i0,key i1,key i2,key i3,key i4,key i5,key i6,key y0,key y1,key y2,key y3,key jk,key m0,key m1⟩)
     have hvl1:IntKind.i64.wrap ((v.length:Int)+1)=(v.length:Int)+1:=by rw [show (v.length:Int)+1=((v.length+1:Nat):Int) from by omega];exact wrap_nat _ (by omega)
     have H9:=Lib.hid (And.intro hbr9 (And.intro hB9 hI9))
     clear hVN hkids hats hkbl hsd y0 y1 y2 y3 hyk kst hI9 hbr9 hB9 hK9 hgK hkr
     go_upto_region 18 with (fail)
     refine cut_code (X:=Option Addr×Nat×Option Addr×Nat×Option Addr×Nat×Nat) (fun zz x=>((((((((((((((((((((zz.put (some 87) (.agg #[.slice ta t.args.length tc])).put (some 88) (.agg #[str [],.int .i64 (l:Nat),.slice (some ⟨kb,ko,none⟩) ss.length c2,.slice a3 2 c3,.slice ba begun.length bc,.slice aa args.length ac,.int .i64 (opens:Nat)])).put (some 89) (.pointer (some ⟨w.heap.size+1,0,none⟩))).put (some 90) (.pointer (some ⟨w.heap.size+1,2,none⟩))).put (some 91) (.slice (some ⟨kb,ko,none⟩) ss.length c2)).put (some 92) (.int .i64 (k:Nat))).put (some 93) (.pointer (some ⟨kb,ko+k*4,none⟩))).put (some 94) (.agg #[str s',.int .i64 v',.slice ka2 kn2 kc2,.slice ka3 kn3 kc3])).put (some 95) (.agg #[.slice ka aj.args.length kc])).put (some 96) (.int .i64 (v.length:Nat))).put (some 97) (.int .i64 ((v.length:Int)+1))).put (some 98) (.agg #[str s',.int .i64 v',.slice ka2 kn2 kc2,.slice ka3 kn3 kc3,.slice x.1 (begun.length+aj.args.length) x.2.1,.slice x.2.2.1 (args.length+aj.args.length) x.2.2.2.1,.int .i64 ((v.length:Int)+1)])).put (some 99) (.agg #[.slice a8 (v.length+2) c8,.slice a9 (v.length+2) c9])).put (some 100) (.slice a6 n6 c6)).put (some 101) (.tuple #[.slice x.2.2.2.2.1 x.2.2.2.2.2.1 x.2.2.2.2.2.2,.bool o.isSome])).put (some 86) (.tuple #[.slice x.2.2.2.2.1 x.2.2.2.2.2.1 x.2.2.2.2.2.2,.bool o.isSome])).put (some 102) (.slice x.2.2.2.2.1 x.2.2.2.2.2.1 x.2.2.2.2.2.2)).put (some 103) (.bool o.isSome)).put (some 19) (.slice x.2.2.2.2.1 x.2.2.2.2.2.1 x.2.2.2.2.2.2)).put (some 20) (.bool o.isSome))) (fun x w7=>∃ x11,Below W9.heap.size W9 x11/\But (fun i=>(Value.slice a6 n6 c6).ownBlock=some i) x11 w7/\∀ out,o=some out->∃ us',PlsAt w7 (L++[l3]++av++out) (.slice x.2.2.2.2.1 x.2.2.2.2.2.1 x.2.2.2.2.2.2) (us++[(.slice a3' n3 c3',.slice a4' n3 c4')]++usk++us')/\(∀ g,(Value.slice x.2.2.2.2.1 x.2.2.2.2.2.1 x.2.2.2.2.2.2).ownBlock=some g->(Value.slice a6 n6 c6).ownBlock=some g\/x11.heap.size<=g)/\∀ u∈us',∀ g,u.1.ownBlock=some g\/u.2.ownBlock=some g->x11.heap.size<=g) ?_ ?_
     ·refine wp_region_noPanic ?_
      refine wp_region_S (fun w'=>Below W9.heap.size W9 w') (fun i=>decide (14<=i)) (by kernel_rfl) ?_
      have hSd:(fun w'=>Below W9.heap.size W9 w') W9.drew:=Below.drew (Below.refl _ _)
      refine wpAnyS_takeD 0 [14,15,16,17,18,19] (v:=?_) (by kernel_rfl) (by kernel_rfl) (by kernel_rfl) (by kernel_rfl) (fun _ _ _ _ h=>h) hSd ?_ ?_
      rotate_left
      ·(intro oi ho;simp at ho;subst ho;refine Or.inl ⟨by rfl,fun w' hw'=>?_⟩;obtain ⟨e0,e1,e2,e3,e4,e5,e6,e7,e8,e9,e10,e11,e12,e13,e14⟩:=KEY9.out w' hw';go_simp;try with_reducible rfl)
      (intro d hd;simp at hd;subst hd;simp only [Act.put,List.setIfInBounds_toArray,List.set_cons_zero,List.set_cons_succ])
      refine wpAnyS_takeD 1 [11,14,15,16,17,18,19] (v:=?_) (by kernel_rfl) (by kernel_rfl) (by kernel_rfl) (by kernel_rfl) (fun _ _ _ _ h=>h) hSd ?_ ?_
      rotate_left
      ·(intro oi ho;simp at ho;subst ho;refine Or.inl ⟨by rfl,fun w' hw'=>?_⟩;obtain ⟨e0,e1,e2,e3,e4,e5,e6,e7,e8,e9,e10,e11,e12,e13,e14⟩:=KEY9.out w' hw';go_simp;try with_reducible rfl)
      (intro d hd;simp at hd;subst hd;simp only [Act.put,List.setIfInBounds_toArray,List.set_cons_zero,List.set_cons_succ])
      refine wpAnyS_takeD 2 [3,4,6,7,11,14,15,16,17,18,19] (v:=?_) (by kernel_rfl) (by kernel_rfl) (by kernel_rfl) (by kernel_rfl) (fun _ _ _ _ h=>h) hSd ?_ ?_
      rotate_left
      ·(intro oi ho;simp at ho;subst ho;refine Or.inl ⟨by rfl,fun w' hw'=>?_⟩;go_simp;try with_reducible rfl)
      (intro d hd;simp at hd;subst hd;simp only [Act.put,List.setIfInBounds_toArray,List.set_cons_zero,List.set_cons_succ])
      refine wpAnyS_takeD 3 [4,6,7,11,14,15,16,17,18,19] (v:=?_) (by kernel_rfl) (by kernel_rfl) (by kernel_rfl) (by kernel_rfl) (fun _ _ _ _ h=>h) hSd ?_ ?_
      rotate_left
      ·(intro oi ho;simp at ho;subst ho;refine Or.inl ⟨by rfl,fun w' hw'=>?_⟩;go_simp;try with_reducible rfl)
      (intro d hd;simp at hd;subst hd;simp only [Act.put,List.setIfInBounds_toArray,List.set_cons_zero,List.set_cons_succ])
      refine wpAnyS_takeD 4 [6,7,11,14,15,16,17,18,19] (v:=?_) (by kernel_rfl) (by kernel_rfl) (by kernel_rfl) (by kernel_rfl) (fun _ _ _ _ h=>h) hSd ?_ ?_
      rotate_left
      ·(intro oi ho;simp at ho;subst ho;refine Or.inl ⟨by rfl,fun w' hw'=>?_⟩;obtain ⟨e0,e1,e2,e3,e4,e5,e6,e7,e8,e9,e10,e11,e12,e13,e14⟩:=KEY9.out w' hw';go_simp;try with_reducible rfl)
      (intro d hd;simp at hd;subst hd;simp only [Act.put,List.setIfInBounds_toArray,List.set_cons_zero,List.set_cons_succ])
      refine wpAnyS_takeD 5 [6,7,11,14,15,16,17,18,19] (v:=?_) (by kernel_rfl) (by kernel_rfl) (by kernel_rfl) (by kernel_rfl) (fun _ _ _ _ h=>h) hSd ?_ ?_
      rotate_left
      ·(intro oi ho;simp at ho;subst ho;refine Or.inl ⟨by rfl,fun w' hw'=>?_⟩;go_simp;try with_reducible rfl)
      (intro d hd;simp at hd;subst hd;simp only [Act.put,List.setIfInBounds_toArray,List.set_cons_zero,List.set_cons_succ])
      refine wpAnyS_takeD 6 [7,11,14,15,16,17,18,19] (v:=?_) (by kernel_rfl) (by kernel_rfl) (by kernel_rfl) (by kernel_rfl) (fun _ _ _ _ h=>h) hSd ?_ ?_
      rotate_left
      ·(intro oi ho;simp at ho;subst ho;refine Or.inl ⟨by rfl,fun w' hw'=>?_⟩;go_simp;try with_reducible rfl)
      (intro d hd;simp at hd;subst hd;simp only [Act.put,List.setIfInBounds_toArray,List.set_cons_zero,List.set_cons_succ])
      refine wpAnyS_takeD 7 [11,14,15,16,17,18,19] (v:=?_) (by kernel_rfl) (by kernel_rfl) (by kernel_rfl) (by kernel_rfl) (fun _ _ _ _ h=>h) hSd ?_ ?_
      rotate_left
      ·(intro oi ho;simp at ho;subst ho;refine Or.inl ⟨by rfl,fun w' hw'=>?_⟩;obtain ⟨e0,e1,e2,e3,e4,e5,e6,e7,e8,e9,e10,e11,e12,e13,e14⟩:=KEY9.out w' hw';go_simp;try with_reducible rfl)
      (intro d hd;simp at hd;subst hd;simp only [Act.put,List.setIfInBounds_toArray,List.set_cons_zero,List.set_cons_succ])
      refine wpAnyS_takeD 8 [11,14,15,16,17,18,19] (v:=?_) (by kernel_rfl) (by kernel_rfl) (by kernel_rfl) (by kernel_rfl) (fun _ _ _ _ h=>h) hSd ?_ ?_
      rotate_left
      ·(intro oi ho;simp at ho;subst ho;refine Or.inl ⟨by rfl,fun w' hw'=>?_⟩;obtain ⟨e0,e1,e2,e3,e4,e5,e6,e7,e8,e9,e10,e11,e12,e13,e14⟩:=KEY9.out w' hw';go_simp;try with_reducible rfl)
      (intro d hd;simp at hd;subst hd;simp only [Act.put,List.setIfInBounds_toArray,List.set_cons_zero,List.set_cons_succ])
      refine wpAnyS_takeD 9 [10,11,14,15,16,17,18,19] (v:=?_) (by kernel_rfl) (by kernel_rfl) (by kernel_rfl) (by kernel_rfl) (fun _ _ _ _ h=>h) hSd ?_ ?_
      rotate_left
      ·(intro oi ho;simp at ho;subst ho;refine Or.inl ⟨by rfl,fun w' hw'=>?_⟩;go_simp;try with_reducible rfl)
      (intro d hd;simp at hd;subst hd;simp only [Act.put,List.setIfInBounds_toArray,List.set_cons_zero,List.set_cons_succ])
      refine wpAnyS_takeD 10 [11,14,15,16,17,18,19] (v:=?_) (by kernel_rfl) (by kernel_rfl) (by kernel_rfl) (by kernel_rfl) (fun _ _ _ _ h=>h) hSd ?_ ?_
      rotate_left
      ·(intro oi ho;simp at ho;subst ho;refine Or.inl ⟨by rfl,fun w' hw'=>?_⟩;go_simp;try with_reducible rfl)
      (intro d hd;simp at hd;subst hd;simp only [Act.put,List.setIfInBounds_toArray,List.set_cons_zero,List.set_cons_succ])
      refine wpAnyS_takeD 12 [14,15,16,17,18,19] (v:=?_) (by kernel_rfl) (by kernel_rfl) (by kernel_rfl) (by kernel_rfl) (fun _ _ _ _ h=>h) hSd ?_ ?_
      rotate_left
      ·(intro oi ho;simp at ho;subst ho;refine Or.inl ⟨by rfl,fun w' hw'=>?_⟩;obtain ⟨e0,e1,e2,e3,e4,e5,e6,e7,e8,e9,e10,e11,e12,e13,e14⟩:=KEY9.out w' hw';go_simp;try with_reducible rfl)
      (intro d hd;simp at hd;subst hd;simp only [Act.put,List.setIfInBounds_toArray,List.set_cons_zero,List.set_cons_succ])
      refine wpAnyS_takeD 13 [14,15,16,17,18,19] (v:=?_) (by kernel_rfl) (by kernel_rfl) (by kernel_rfl) (by kernel_rfl) (fun _ _ _ _ h=>h) hSd ?_ ?_
      rotate_left
      ·(intro oi ho;simp at ho;subst ho;refine Or.inl ⟨by rfl,fun w' hw'=>?_⟩;go_simp;try with_reducible rfl)
      (intro d hd;simp at hd;subst hd;simp only [Act.put,List.setIfInBounds_toArray,List.set_cons_zero,List.set_cons_succ])
      refine wpAnyS_one 11 (by kernel_rfl) ?_
      (intro o11 ho K' hK;simp at ho;subst ho)
      go_simp
      go_at_call 11
      (with_reducible refine (CB.out _ hSd).mono ?_)
      rintro en x11 ⟨b11,bc11,a11,ac11,rfl,hb11,hc11⟩
      have hB11:Below W9.heap.size W9 x11:=Below.trans hSd (hb11.mono (Below.size hSd))
      refine hK.out _ _ ?_ ?_
      ·exact fun _=>hB11
      clear hK K'
      (try simp only [Act.put,List.setIfInBounds_toArray,List.set_cons_zero,List.set_cons_succ])
      refine wpAnyS_one 14 (by kernel_rfl) ?_
      (intro o14 ho K' hK;simp at ho;subst ho)
      go_simp
      go_at_call 10
      (refine hc11.mono ?_)
      rintro en x14 ⟨a10,n10,c10,rfl,hbut,hsome⟩
      refine hK.out _ _ ?_ ?_
      ·intro h;simp at h
      clear hK K'
      (try simp only [Act.put,List.setIfInBounds_toArray,List.set_cons_zero,List.set_cons_succ])
      refine wpAnyS_one 15 (by kernel_rfl) ?_
      (intro o15 ho K' hK;simp at ho;subst ho)
      go_simp
      refine hK.out _ _ ?_ ?_
      ·intro h;simp at h
      clear hK K'
      (try simp only [Act.put,List.setIfInBounds_toArray,List.set_cons_zero,List.set_cons_succ])
      refine wpAnyS_two 16 17 (by kernel_rfl) ?_ ?_
      ·(intro o16 ho K' hK;simp at ho;subst ho)
       go_simp
       refine hK.out _ _ ?_ ?_
       ·intro h;simp at h
       clear hK K'
       (try simp only [Act.put,List.setIfInBounds_toArray,List.set_cons_zero,List.set_cons_succ])
       refine wpAnyS_two 17 18 (by kernel_rfl) ?_ ?_
       ·(intro o17 ho K' hK;simp at ho;subst ho)
        go_simp
        refine hK.out _ _ ?_ ?_
        ·intro h;simp at h
        clear hK K'
        (try simp only [Act.put,List.setIfInBounds_toArray,List.set_cons_zero,List.set_cons_succ])
        refine wpAnyS_one 18 (by kernel_rfl) ?_
        (intro o18 ho K' hK;simp at ho;subst ho)
        go_simp
        refine hK.out _ _ ?_ ?_
        ·intro h;simp at h
        clear hK K'
        (try simp only [Act.put,List.setIfInBounds_toArray,List.set_cons_zero,List.set_cons_succ])
        refine wpAnyS_one 19 (by kernel_rfl) ?_
        (intro o19 ho K' hK;simp at ho;subst ho)
        go_simp
        refine hK.out _ _ ?_ ?_
        ·intro h;simp at h
        clear hK K'
        (try simp only [Act.put,List.setIfInBounds_toArray,List.set_cons_zero,List.set_cons_succ])
        refine wpAnyS_done (by kernel_rfl) (NoPanic.normal ?_) _
        exact ⟨rfl,⟨b11,bc11,a11,ac11,a10,n10,c10⟩,by rfl,x11,hB11,hbut,hsome⟩
       ·(intro o18 ho K' hK;simp at ho;subst ho)
        go_simp
        refine hK.out _ _ ?_ ?_
        ·intro h;simp at h
        clear hK K'
        (try simp only [Act.put,List.setIfInBounds_toArray,List.set_cons_zero,List.set_cons_succ])
        refine wpAnyS_one 17 (by kernel_rfl) ?_
        (intro o17 ho K' hK;simp at ho;subst ho)
        go_simp
        refine hK.out _ _ ?_ ?_
        ·intro h;simp at h
        clear hK K'
        (try simp only [Act.put,List.setIfInBounds_toArray,List.set_cons_zero,List.set_cons_succ])
        refine wpAnyS_one 19 (by kernel_rfl) ?_
        (intro o19 ho K' hK;simp at ho;subst ho)
        go_simp
        refine hK.out _ _ ?_ ?_
        ·intro h;simp at h
        clear hK K'
        (try simp only [Act.put,List.setIfInBounds_toArray,List.set_cons_zero,List.set_cons_succ])
        refine wpAnyS_done (by kernel_rfl) (NoPanic.normal ?_) _
        exact ⟨rfl,⟨b11,bc11,a11,ac11,a10,n10,c10⟩,by rfl,x11,hB11,hbut,hsome⟩
      ·(intro o17 ho K' hK;simp at ho;subst ho)
       go_simp
       refine hK.out _ _ ?_ ?_
       ·intro h;simp at h
       clear hK K'
       (try simp only [Act.put,List.setIfInBounds_toArray,List.set_cons_zero,List.set_cons_succ])
       refine wpAnyS_one 16 (by kernel_rfl) ?_
       (intro o16 ho K' hK;simp at ho;subst ho)
       go_simp
       refine hK.out _ _ ?_ ?_
       ·intro h;simp at h
       clear hK K'
       (try simp only [Act.put,List.setIfInBounds_toArray,List.set_cons_zero,List.set_cons_succ])
       refine wpAnyS_one 18 (by kernel_rfl) ?_
       (intro o18 ho K' hK;simp at ho;subst ho)
       go_simp
       refine hK.out _ _ ?_ ?_
       ·intro h;simp at h
       clear hK K'
       (try simp only [Act.put,List.setIfInBounds_toArray,List.set_cons_zero,List.set_cons_succ])
       refine wpAnyS_one 19 (by kernel_rfl) ?_
       (intro o19 ho K' hK;simp at ho;subst ho)
       go_simp
       refine hK.out _ _ ?_ ?_
       ·intro h;simp at h
       clear hK K'
       (try simp only [Act.put,List.setIfInBounds_toArray,List.set_cons_zero,List.set_cons_succ])
       refine wpAnyS_done (by kernel_rfl) (NoPanic.normal ?_) _
       exact ⟨rfl,⟨b11,bc11,a11,ac11,a10,n10,c10⟩,by rfl,x11,hB11,hbut,hsome⟩
     rintro ⟨b11,bc11,a11,ac11,a10,n10,c10⟩ x14 ⟨x11,hB11,hbut,hsome⟩
     dsimp only at hsome
     simp only [pQ,pN,pZ,pS]
     have HZ:=Lib.hid (And.intro hB11 (And.intro hbut hsome))
     clear hB11 hbut hsome
     rcases o with _ | out
     ·go_wp2_with fail
      go_ret2
      have E:viewsB t (.ask l ss y n) lv bg v=none:=by
       rw [viewsB_ask (pl:=(pb,p)) (by omega) HP.out.1]
       show (joinO (viewsAll t ss y n p v.length lv bg (v++[(113::p,(pb:Int))]))).map _=none
       rw [HL3.out.1,views_fail HS.out.2.2.1 HL.out.jo];rfl
      have K11:=(HF.out.2.1.trans HL.out.ko).trans (Ko.below (H9.out.1.trans (HZ.out.1.mono H9.out.1.size)))
      exact TvOut.no (K11.but.trans' HZ.out.2.1 (fun i hi hm=>(K11.row i hm).resolve_right (by omega))) E
     ·go_wp2_with fail
      go_roundw
      case rel =>
       obtain ⟨us',hp',hr',hn'⟩:=HZ.out.2.2 out rfl
       refine ⟨k+1,by omega,by go_num,_,_,_,av++out,usk++us',rfl,HL.out.next (H9.out.1.trans (HZ.out.1.mono H9.out.1.size)) ?_ HS.out.2.2.1 HS.out.2.2.2.1 (HS.out.2.2.2.2.2.1 out rfl) HZ.out.2.1 hp' hr' hn'⟩
       have h1:=HF.out.2.1.but.size;have h2:=HL.out.ko.but.size;have h3:=H9.out.1.size;have h4:=HZ.out.1.size
       omega
      case measure=>simp [intOf];omega
    ·obtain rfl:k=ss.length:=by omega
     clear q0 q1 q3 q4 q5 q6 hlt hk
     go_wp2_with fail
     go_loopw [3,21] (fun ov i wr=>∃ k:Nat,k<=2/\i=.int .i64 k/\∃ a6 n6 c6 av usk,ov=.slice a6 n6 c6/\TvL (.slice a5 (us.length+1) c5) w w5 (viewsAll t ss y n p v.length lv bg l3) (szAll ss y n) (L++[l3]) (us++[(.slice a3' n3 c3',.slice a4' n3 c4')]) (ss.length+k) (.slice a6 n6 c6) wr av usk) (fun _ i _=>2-(intOf i).toNat)
     case atStart=>exact ⟨0,Nat.zero_le _,rfl,a6,n6,c6,av,usk,rfl,HL.out⟩
     case round =>
      clear HL HVR
      rename_i wr
      obtain ⟨k,hk,rfl,a6,n6,c6,av,usk,rfl,hL⟩:=hrel
      have hVr:=HF.out.2.2.1.keep hL.ko
      have HL:=Lib.hid hL;have HVR:=Lib.hid hVr
      clear hL hVr q2
      by_cases hlt:k<2
      ·have hlt':(k:Int)<2:=by omega
       obtain ⟨hvo,hsz⟩:=viewsAll_two (t:=t) (ss:=ss) (y:=y) (n:=n) (p:=p) (k:=v.length) (lv:=lv) (bg:=bg) (asked:=l3) hlt
       obtain ⟨b,hb⟩:∃ b,b=if k=0 then y else n:=⟨_,rfl⟩
       obtain ⟨cc,hcc⟩:∃ cc:UInt8,cc=if k=0 then 116 else 102:=⟨_,rfl⟩
       rw [<- hb,<- hcc] at hvo
       rw [<- hb] at hsz
       obtain ⟨o,ho⟩:∃ o,o=viewsB t b lv bg (l3++[(cc::p,(v.length:Int))]):=⟨_,rfl⟩
       rw [<- ho] at hvo
       have hoz:∀ out,o=some out->out.length<=sizeB b:=fun out h=>viewsB_count t b _ _ _ out (ho ▸ h)
       have exk:(⟨#[116,102]⟩:ByteArray).extract k (k+1)=⟨#[cc]⟩:=by
        have:k=0\/k=1:=by omega
        rcases this with rfl | rfl
        ·rw [hcc];rfl
        ·rw [hcc];rfl
       have hin:b∈[y,n]:=by rw [hb];split <;> simp
       have hib:([y,n]:List Bd)[k]? = some b:=by
        have:k=0\/k=1:=by omega
        rcases this with rfl | rfl
        ·rw [hb];rfl
        ·rw [hb];rfl
       have hihb:TvSaid t b:=by rw [hb];split;exact ihy;exact ihn
       have hfb:fitB hand b:=by rw [hb];split;exact HC.out.fy;exact HC.out.fn
       have hwb:wfB b:=by rw [hb];split;exact HC.out.wy;exact HC.out.wn
       have hp7:p.length<=7:=HC.out.p7
       have a1':=fun w0=>add_str (P:=Tryd.prog) [cc] p (by simp;omega) w0
       obtain ⟨R,hR⟩:∃ R,R=cc::p:=⟨_,rfl⟩
       rw [List.singleton_append,<- hR] at a1'
       have hwk:IntKind.i64.wrap ((k:Int)+1)=(k:Int)+1:=by rw [show (k:Int)+1=((k+1:Nat):Int) from by omega];exact wrap_nat _ (by omega)
       have h1p:(1:Int)<=(p.length:Int)+1:=by omega
       have hk12:(k:Int)+1<=2:=by omega
       have hkk1:(k:Int)<=(k:Int)+1:=by omega
       have hk0:(0:Int)<=(k:Int):=by omega
       have HS:=Lib.hid (And.intro hvo (And.intro hsz (And.intro ho (And.intro hoz (And.intro hib (And.intro hihb (And.intro hfb (And.intro hwb hR))))))))
       have CW2:=Lib.hid (fun x (hx:Below wr.heap.size wr x)=>l2WithPl l3 (.slice a3' n3 c3') (.slice a4' n3 c4') R (v.length:Int) x (HVR.out.rm.src.below hx) (HVR.out.rp.src.below hx) (by have h1:=HL3.out.2.1;have h2:=HL3.out.2.2;omega))
       have HLN:=Lib.hid (show ∀ (r:Bs) (i:Int),(l3++[(r,i)]).length=v.length+2 from fun r i=>by rw [List.length_append,HL3.out.2.1,HL3.out.2.2];simp)
       have KEY16:Hid (∀ x,Below wr.heap.size wr x->x.cell? ⟨BA,0,none⟩=some (.slice a3' n3 c3')/\x.cell? ⟨BA,1,none⟩=some (.slice a4' n3 c4')):=Lib.hid (fun x hx=>by
        obtain ⟨k0,k1,_,_⟩:=cells_2 HVR.out.b2
        exact ⟨(hx.cell (World.block_lt_of_cell? _ _ k0)).trans k0,(hx.cell (World.block_lt_of_cell? _ _ k1)).trans k1⟩)
       clear hvo hsz ho hoz hb hcc hib hin hihb hfb hwb hR hp7
       go_upto_region 25 with (fail)
       refine cut_code (X:=Option Addr×Nat×Option Addr×Nat×Nat) (fun zz x=>(((((((((((zz.put (some 112) (.agg #[.slice a3' n3 c3',.slice a4' n3 c4'])).put (some 113) (.int .i64 (k:Nat))).put (some 114) (.int .i64 (k:Nat))).put (some 115) (.int .i64 ((k:Int)+1))).put (some 116) (str [cc])).put (some 117) (str (113::p))).put (some 118) (str p)).put (some 119) (str R)).put (some 120) (.int .i64 (v.length:Nat))).put (some 121) (.agg #[.slice x.1 (v.length+2) x.2.1,.slice x.2.2.1 (v.length+2) x.2.2.2.1])).put (some 22) (.pointer (some ⟨x.2.2.2.2,0,none⟩)))) (fun x w7=>Below wr.heap.size wr w7/\w7.heap[x.2.2.2.2]? = some (.cells #[.slice x.1 (v.length+2) x.2.1,.slice x.2.2.1 (v.length+2) x.2.2.2.1] 39 (0,0))/\wr.heap.size<=x.2.2.2.2/\PlayAt w7 (l3++[(R,(v.length:Int))]) (.slice x.1 (v.length+2) x.2.1) (.slice x.2.2.1 (v.length+2) x.2.2.2.1)/\∀ g,(Value.slice x.1 (v.length+2) x.2.1).ownBlock=some g\/(Value.slice x.2.2.1 (v.length+2) x.2.2.2.1).ownBlock=some g->wr.heap.size<=g) ?_ ?_
       ·refine wp_region_noPanic ?_
        refine wp_region_S (fun w'=>Below wr.heap.size wr w') (fun _=>false) (by kernel_rfl) ?_
        obtain ⟨y0,hy0⟩:∃ x,wr.drew=x:=⟨_,rfl⟩
        rw [hy0]
        have hBy0:Below wr.heap.size wr y0:=by rw [<- hy0];exact Below.drew (Below.refl _ _)
        obtain ⟨tg0,htg0⟩:∃ x:Nat->Nat,x=fun _=>0:=⟨_,rfl⟩
        clear hy0 htg0
        refine wpAnyS_take 0 (v:=?_) (by kernel_rfl) (by kernel_rfl) (by kernel_rfl) (by kernel_rfl) (fun _ _ _ _ h=>h) hBy0 ?_ ?_
        rotate_left
        ·(intro oi ho;simp at ho;subst ho;refine Or.inl ⟨by rfl,fun w' hw'=>?_⟩;obtain ⟨e0,e1⟩:=KEY16.out w' hw';go_simp;try with_reducible rfl)
        (intro d hd;simp at hd;subst hd;simp only [Act.put,List.setIfInBounds_toArray,List.set_cons_zero,List.set_cons_succ])
        refine wpAnyS_take 1 (v:=?_) (by kernel_rfl) (by kernel_rfl) (by kernel_rfl) (by kernel_rfl) (fun _ _ _ _ h=>h) hBy0 ?_ ?_
        rotate_left
        ·(intro oi ho;simp at ho;subst ho;refine Or.inl ⟨by rfl,fun w' hw'=>?_⟩;go_simp;try with_reducible rfl)
        (intro d hd;simp at hd;subst hd;simp only [Act.put,List.setIfInBounds_toArray,List.set_cons_zero,List.set_cons_succ])
        refine wpAnyS_take 2 (v:=?_) (by kernel_rfl) (by kernel_rfl) (by kernel_rfl) (by kernel_rfl) (fun _ _ _ _ h=>h) hBy0 ?_ ?_
        rotate_left
        ·(intro oi ho;simp at ho;subst ho;refine Or.inl ⟨by rfl,fun w' hw'=>?_⟩;go_simp;try with_reducible rfl)
        (intro d hd;simp at hd;subst hd;simp only [Act.put,List.setIfInBounds_toArray,List.set_cons_zero,List.set_cons_succ])
        refine wpAnyS_take 3 (v:=?_) (by kernel_rfl) (by kernel_rfl) (by kernel_rfl) (by kernel_rfl) (fun _ _ _ _ h=>h) hBy0 ?_ ?_
        rotate_left
        ·(intro oi ho;simp at ho;subst ho;refine Or.inl ⟨by rfl,fun w' hw'=>?_⟩;go_simp;try with_reducible rfl)
        (intro d hd;simp at hd;subst hd;simp only [Act.put,List.setIfInBounds_toArray,List.set_cons_zero,List.set_cons_succ])
        refine wpAnyS_take 4 (v:=?_) (by kernel_rfl) (by kernel_rfl) (by kernel_rfl) (by kernel_rfl) (fun _ _ _ _ h=>h) hBy0 ?_ ?_
        rotate_left
        ·(intro oi ho;simp at ho;subst ho;refine Or.inl ⟨by rfl,fun w' hw'=>?_⟩;go_simp;try with_reducible rfl)
        (intro d hd;simp at hd;subst hd;simp only [Act.put,List.setIfInBounds_toArray,List.set_cons_zero,List.set_cons_succ])
        refine wpAnyS_take 5 (v:=?_) (by kernel_rfl) (by kernel_rfl) (by kernel_rfl) (by kernel_rfl) (fun _ _ _ _ h=>h) hBy0 ?_ ?_
        rotate_left
        ·(intro oi ho;simp at ho;subst ho;refine Or.inl ⟨by rfl,fun w' hw'=>?_⟩;go_simp;try with_reducible rfl)
        (intro d hd;simp at hd;subst hd;simp only [Act.put,List.setIfInBounds_toArray,List.set_cons_zero,List.set_cons_succ])
        refine wpAnyS_take 6 (v:=?_) (by kernel_rfl) (by kernel_rfl) (by kernel_rfl) (by kernel_rfl) (fun _ _ _ _ h=>h) hBy0 ?_ ?_
        rotate_left
        ·(intro oi ho;simp at ho;subst ho;refine Or.inl ⟨by rfl,fun w' hw'=>?_⟩;go_simp;try with_reducible rfl)
        (intro d hd;simp at hd;subst hd;simp only [Act.put,List.setIfInBounds_toArray,List.set_cons_zero,List.set_cons_succ])
        refine wpAnyS_take 7 (v:=?_) (by kernel_rfl) (by kernel_rfl) (by kernel_rfl) (by kernel_rfl) (fun _ _ _ _ h=>h) hBy0 ?_ ?_
        rotate_left
        ·(intro oi ho;simp at ho;subst ho;refine Or.inl ⟨by rfl,fun w' hw'=>?_⟩;go_simp;try with_reducible rfl)
        (intro d hd;simp at hd;subst hd;simp only [Act.put,List.setIfInBounds_toArray,List.set_cons_zero,List.set_cons_succ])
        refine wpAnyS_take 8 (v:=?_) (by kernel_rfl) (by kernel_rfl) (by kernel_rfl) (by kernel_rfl) (fun _ _ _ _ h=>h) hBy0 ?_ ?_
        rotate_left
        ·(intro oi ho;simp at ho;subst ho;refine Or.inl ⟨by rfl,fun w' hw'=>?_⟩;go_simp;try with_reducible rfl)
        (intro d hd;simp at hd;subst hd;simp only [Act.put,List.setIfInBounds_toArray,List.set_cons_zero,List.set_cons_succ])
        refine wpAnyS_two 9 10 (by kernel_rfl) ?_ ?_
        ·(intro o9 ho K' hK;simp at ho;subst ho)
         go_simp
         go_at_call 24
         (with_reducible refine (CW2.out _ hBy0).mono ?_)
         rintro en y1 ⟨mvn,ptn,rfl,hpn,hb,hfn⟩
         obtain ⟨a8,c8,e8⟩:=hpn.1.slice
         obtain ⟨a9,c9,e9⟩:=hpn.2.slice
         rw [HLN.out] at e8 e9
         subst e8;subst e9
         have CP:Hid (PlayAt y1 (l3++[(R,(v.length:Int))]) (.slice a8 (v.length+2) c8) (.slice a9 (v.length+2) c9)):=hpn
         have CF:Hid (∀ g,(Value.slice a8 (v.length+2) c8).ownBlock=some g\/(Value.slice a9 (v.length+2) c9).ownBlock=some g->wr.heap.size<=g):=Lib.hid (fun g hg=>Nat.le_trans hBy0.size (hfn g hg))
         clear hpn hfn
         have hBy1:Below wr.heap.size wr y1:=hBy0.trans (hb.mono hBy0.size)
         have hby1:=Lib.hid hb;clear hb
         refine hK.out _ _ (fun _=>?_) ?_
         ·exact hBy1
         clear hK K'
         (try simp only [Act.put,List.setIfInBounds_toArray,List.set_cons_zero,List.set_cons_succ])
         refine wpAnyS_one 10 (by kernel_rfl) ?_
         (intro o10 ho K' hK;simp at ho;subst ho)
         go_simp
         refine hK.out _ _ (fun _=>?_) ?_
         ·exact hBy1.alloc hBy1.size _
         clear hK K'
         (try simp only [Act.put,List.setIfInBounds_toArray,List.set_cons_zero,List.set_cons_succ])
         obtain ⟨y2,hnew⟩:∃ x,y1.alloc (.cells #[.slice none 0 0,.slice none 0 0] 39)=x:=⟨_,rfl⟩
         obtain ⟨gN,hgN⟩:∃ g,y1.heap.size=g:=⟨_,rfl⟩
         rw [hnew,hgN]
         have hBy2:Below wr.heap.size wr y2:=by rw [<- hnew];exact hBy1.alloc hBy1.size _
         obtain ⟨tg2,htg⟩:∃ x,retag tg0 gN 3=x:=⟨_,rfl⟩
         have CP:Hid (PlayAt y2 (l3++[(R,(v.length:Int))]) (.slice a8 (v.length+2) c8) (.slice a9 (v.length+2) c9)):=by rw [<- hnew];exact CP.out.below ((Below.refl _ _).alloc (Nat.le_refl _) _)
         have EN:Hid (y2.heap[gN]? = some (.cells #[.slice none 0 0,.slice none 0 0] 39 (0,0))/\tg2 gN=3/\wr.heap.size<=gN):=by rw [<- hnew,<- htg,<- hgN];exact ⟨heap_new _ _,by unfold retag;rw [if_pos rfl],hBy1.size⟩
         clear hnew hgN htg
         refine wpAnyS_one 11 (by kernel_rfl) ?_
         (intro o11 ho K' hK;simp at ho;subst ho)
         obtain ⟨uN0,cN0⟩:∃ u,y2.cell? ⟨gN,0,none⟩=some u:=⟨_,by simp [World.cell?,EN.out.1];rfl⟩
         have fN0:y2.frozen? ⟨gN,0,none⟩=false:=by simp [World.frozen?,EN.out.1]
         obtain ⟨uN1,cN1⟩:∃ u,y2.cell? ⟨gN,1,none⟩=some u:=⟨_,by simp [World.cell?,EN.out.1];rfl⟩
         have fN1:y2.frozen? ⟨gN,1,none⟩=false:=by simp [World.frozen?,EN.out.1]
         go_simp
         refine hK.out _ _ (fun _=>?_) ?_
         ·exact ((hBy2.setCell (p:=⟨gN,0,none⟩) EN.out.2.2 _).setCell (p:=⟨gN,1,none⟩) EN.out.2.2 _)
         clear hK K'
         (try simp only [Act.put,List.setIfInBounds_toArray,List.set_cons_zero,List.set_cons_succ])
         obtain ⟨y3,hnew⟩:∃ x,((y2.setCell ⟨gN,0,none⟩ (.slice a8 (v.length+2) c8)).setCell ⟨gN,1,none⟩ (.slice a9 (v.length+2) c9))=x:=⟨_,rfl⟩
         rw [hnew]
         have hBy3:Below wr.heap.size wr y3:=by rw [<- hnew];exact ((hBy2.setCell (p:=⟨gN,0,none⟩) EN.out.2.2 _).setCell (p:=⟨gN,1,none⟩) EN.out.2.2 _)
         have hbt:But (fun i=>i=gN) y2 y3:=by rw [<- hnew];exact (((But.refl (fun i=>i=gN) y2).setCell (p:=⟨gN,0,none⟩) (.inl rfl) _).setCell (p:=⟨gN,1,none⟩) (.inl rfl) _)
         have htg:∀ g,g=gN->tg2 g=3:=fun g e=>by rw [e];exact EN.out.2.1
         have CP:Hid (PlayAt y3 (l3++[(R,(v.length:Int))]) (.slice a8 (v.length+2) c8) (.slice a9 (v.length+2) c9)):=CP.out.but hbt (CP.out.notBox EN.out.1 (by decide) (by decide))
         have EN:Hid (y3.heap[gN]? = some (.cells #[.slice a8 (v.length+2) c8,.slice a9 (v.length+2) c9] 39 (0,0))/\tg2 gN=3/\wr.heap.size<=gN):=⟨by rw [<- hnew];exact (setCell_at' (setCell_at' EN.out.1)),EN.out.2⟩
         clear hnew hbt htg cN0 fN0 cN1 fN1
         refine wpAnyS_done (by kernel_rfl) (NoPanic.normal ?_) _
         exact ⟨rfl,⟨a8,c8,a9,c9,gN⟩,by rfl,hBy3,EN.out.1,EN.out.2.2,CP.out,CF.out⟩
        ·(intro o10 ho K' hK;simp at ho;subst ho)
         go_simp
         refine hK.out _ _ (fun _=>?_) ?_
         ·exact hBy0.alloc hBy0.size _
         clear hK K'
         (try simp only [Act.put,List.setIfInBounds_toArray,List.set_cons_zero,List.set_cons_succ])
         obtain ⟨y4,hnew⟩:∃ x,y0.alloc (.cells #[.slice none 0 0,.slice none 0 0] 39)=x:=⟨_,rfl⟩
         obtain ⟨gN,hgN⟩:∃ g,y0.heap.size=g:=⟨_,rfl⟩
         rw [hnew,hgN]
         have hBy4:Below wr.heap.size wr y4:=by rw [<- hnew];exact hBy0.alloc hBy0.size _
         obtain ⟨tg4,htg⟩:∃ x,retag tg0 gN 3=x:=⟨_,rfl⟩
         have EN:Hid (y4.heap[gN]? = some (.cells #[.slice none 0 0,.slice none 0 0] 39 (0,0))/\tg4 gN=3/\wr.heap.size<=gN):=by rw [<- hnew,<- htg,<- hgN];exact ⟨heap_new _ _,by unfold retag;rw [if_pos rfl],hBy0.size⟩
         clear hnew hgN htg
         refine wpAnyS_one 9 (by kernel_rfl) ?_
         (intro o9 ho K' hK;simp at ho;subst ho)
         go_simp
         go_at_call 24
         (with_reducible refine (CW2.out _ hBy4).mono ?_)
         rintro en y5 ⟨mvn,ptn,rfl,hpn,hb,hfn⟩
         obtain ⟨a8,c8,e8⟩:=hpn.1.slice
         obtain ⟨a9,c9,e9⟩:=hpn.2.slice
         rw [HLN.out] at e8 e9
         subst e8;subst e9
         have CP:Hid (PlayAt y5 (l3++[(R,(v.length:Int))]) (.slice a8 (v.length+2) c8) (.slice a9 (v.length+2) c9)):=hpn
         have CF:Hid (∀ g,(Value.slice a8 (v.length+2) c8).ownBlock=some g\/(Value.slice a9 (v.length+2) c9).ownBlock=some g->wr.heap.size<=g):=Lib.hid (fun g hg=>Nat.le_trans hBy4.size (hfn g hg))
         clear hpn hfn
         have hBy5:Below wr.heap.size wr y5:=hBy4.trans (hb.mono hBy4.size)
         have EN:Hid (y5.heap[gN]? = some (.cells #[.slice none 0 0,.slice none 0 0] 39 (0,0))/\tg4 gN=3/\wr.heap.size<=gN):=⟨(hb.block _ (lt_of_heap EN.out.1)).trans EN.out.1,EN.out.2⟩
         have hby5:=Lib.hid hb;clear hb
         refine hK.out _ _ (fun _=>?_) ?_
         ·exact hBy5
         clear hK K'
         (try simp only [Act.put,List.setIfInBounds_toArray,List.set_cons_zero,List.set_cons_succ])
         refine wpAnyS_one 11 (by kernel_rfl) ?_
         (intro o11 ho K' hK;simp at ho;subst ho)
         obtain ⟨uN0,cN0⟩:∃ u,y5.cell? ⟨gN,0,none⟩=some u:=⟨_,by simp [World.cell?,EN.out.1];rfl⟩
         have fN0:y5.frozen? ⟨gN,0,none⟩=false:=by simp [World.frozen?,EN.out.1]
         obtain ⟨uN1,cN1⟩:∃ u,y5.cell? ⟨gN,1,none⟩=some u:=⟨_,by simp [World.cell?,EN.out.1];rfl⟩
         have fN1:y5.frozen? ⟨gN,1,none⟩=false:=by simp [World.frozen?,EN.out.1]
         go_simp
         refine hK.out _ _ (fun _=>?_) ?_
         ·exact ((hBy5.setCell (p:=⟨gN,0,none⟩) EN.out.2.2 _).setCell (p:=⟨gN,1,none⟩) EN.out.2.2 _)
         clear hK K'
         (try simp only [Act.put,List.setIfInBounds_toArray,List.set_cons_zero,List.set_cons_succ])
         obtain ⟨y6,hnew⟩:∃ x,((y5.setCell ⟨gN,0,none⟩ (.slice a8 (v.length+2) c8)).setCell ⟨gN,1,none⟩ (.slice a9 (v.length+2) c9))=x:=⟨_,rfl⟩
         rw [hnew]
         have hBy6:Below wr.heap.size wr y6:=by rw [<- hnew];exact ((hBy5.setCell (p:=⟨gN,0,none⟩) EN.out.2.2 _).setCell (p:=⟨gN,1,none⟩) EN.out.2.2 _)
         have hbt:But (fun i=>i=gN) y5 y6:=by rw [<- hnew];exact (((But.refl (fun i=>i=gN) y5).setCell (p:=⟨gN,0,none⟩) (.inl rfl) _).setCell (p:=⟨gN,1,none⟩) (.inl rfl) _)
         have htg:∀ g,g=gN->tg4 g=3:=fun g e=>by rw [e];exact EN.out.2.1
         have CP:Hid (PlayAt y6 (l3++[(R,(v.length:Int))]) (.slice a8 (v.length+2) c8) (.slice a9 (v.length+2) c9)):=CP.out.but hbt (CP.out.notBox EN.out.1 (by decide) (by decide))
         have EN:Hid (y6.heap[gN]? = some (.cells #[.slice a8 (v.length+2) c8,.slice a9 (v.length+2) c9] 39 (0,0))/\tg4 gN=3/\wr.heap.size<=gN):=⟨by rw [<- hnew];exact (setCell_at' (setCell_at' EN.out.1)),EN.out.2⟩
         clear hnew hbt htg cN0 fN0 cN1 fN1
         refine wpAnyS_done (by kernel_rfl) (NoPanic.normal ?_) _
         exact ⟨rfl,⟨a8,c8,a9,c9,gN⟩,by rfl,hBy6,EN.out.1,EN.out.2.2,CP.out,CF.out⟩
       rintro ⟨a8,c8,a9,c9,gN⟩ W7 ⟨hB7,hN7,hgN,hP7,hF7⟩
       dsimp only at hN7 hgN hP7 hF7
       simp only [pQ,pN,pZ,pS]
       have hVN:=HVR.out.keep (Ko.below (vw:=.slice a6 n6 c6) hB7)
       obtain ⟨q2',d2',q3',d3',ba',bc',aa',ac',e,_,hyes⟩:=AtD_openA hVN.ra
       simp only [List.cons.injEq,and_true,Value.slice.injEq] at e
       obtain ⟨_,_,⟨rfl,_,rfl⟩,⟨rfl,_,rfl⟩,⟨rfl,_,rfl⟩,rfl,_,rfl⟩:=e
       obtain ⟨_,_,e,hats⟩:=AtNs.of (bs:=[y,n]) hyes
       simp only [Value.slice.injEq] at e
       obtain ⟨rfl,_,rfl⟩:=e
       obtain ⟨kb,ko,s',v',ka2,kn2,kc2,ka3,kn3,kc3,sd,e,hkbl,hsd,y0,y1,y2,y3,hyk⟩:=hats k (by show k<2;omega)
       subst e
       obtain rfl:b=sd:=Option.some.inj (HS.out.2.2.2.2.1.symm.trans hsd)
       have hI9:TnsIn (cc::p) v.length (sizeB b) l3 (.slice a8 (v.length+2) c8) (.slice a9 (v.length+2) c9) (.slice a6 n6 c6) (us++[(.slice a3' n3 c3',.slice a4' n3 c4')]++usk) (L++[l3]++av) W7:=by
        refine ⟨PlsG.below HL.out.pls hB7,?_,by rw [<- HS.out.2.2.2.2.2.2.2.2];exact hP7,fun g hg e=>?_⟩
        ·have h1:=HL.out.len;have h2:=sum_take_succ HS.out.2.1;have h3:=sum_take_le (szAll ss y n) (ss.length+k+1);have h4:=szAll_sum ss y n l;have h5:=H.out.cnt
         simp only [List.length_append,List.length_singleton];omega
        ·have h1:=hF7 g hg;have h2:=HL.out.pls.lt (.inl e);omega
       have kst:=fun w' (hz:Below W7.heap.size W7 w')=>tv_leafstep cc (x:=(113::p,(pb:Int))) (pl:=(pb,p)) (begun:=begun) (args:=args) (opens:=opens) (lv:=lv) (bg:=bg) (v:=v) (l:=l) (ss:=ss) (y:=y) (n:=n) (tv:=.slice ta t.args.length tc) (mv:=.slice a3' n3 c3') (pt:=.slice a4' n3 c4') (B0:=w.heap.size) (B1:=w.heap.size+1) (B2:=BA) b HS.out.2.2.2.2.2.1 HS.out.2.2.2.2.2.2.1 HS.out.2.2.2.2.2.2.2.1 HC.out (by rw [HL3.out.1];exact hVN) (by rw [HL3.out.1];exact hI9) hyk (Nat.le_refl _) hz
       rw [HL3.out.1,<- HS.out.2.2.1] at kst
       have CB:=Lib.hid kst
       obtain ⟨i0,i1,i2,i3,i4,i5,i6⟩:=cells_7 hVN.b1
       have H7:=Lib.hid (And.intro hB7 (And.intro hN7 (And.intro hVN (And.intro hyk hI9))))
       have HY:=Lib.hid (And.intro y0 (And.intro y1 (And.intro y2 y3)))
       clear hVN hyes hats hkbl hsd y0 y1 y2 y3 hyk kst hI9 hB7 hN7 hgN hP7 hF7 exk a1' hk12 hkk1 h1p
       obtain ⟨W8,hW8,hbW8,hz8,bx8⟩:=box_1 W7 (.cells #[str [],.int .i64 (l:Nat),.slice a2 ss.length c2,.slice (some ⟨kb,ko,none⟩) 2 c3,.slice ba begun.length bc,.slice aa args.length ac,.int .i64 (opens:Nat)] 42)
       go_upto_region 27 with (fail)
       have key8:∀ {p:Addr} {u:Value},W7.cell? p=some u->W8.cell? p=some u:=fun h=>(hbW8.cell (World.block_lt_of_cell? _ _ h)).trans h
       have r3:=key8 i3
       have z0:=key8 HY.out.1;have z1:=key8 HY.out.2.1;have z2:=key8 HY.out.2.2.1;have z3:=key8 HY.out.2.2.2
       obtain ⟨d0,d1,d2,d3,d4,d5,d6⟩:=cells_7 bx8
       have fz0:=frozen_4 bx8 0;have fz1:=frozen_4 bx8 1;have fz2:=frozen_4 bx8 2;have fz3:=frozen_4 bx8 3
       have H8:=Lib.hid (And.intro hbW8 (And.intro hz8 bx8))
       clear key8 hW8 hbW8 hz8 bx8 i0 i1 i2 i3 i4 i5 i6
       go_upto_region 28 with (fail)
       obtain ⟨W10,hW10⟩:∃ x,(((W8.setCell ⟨W7.heap.size,0,none⟩ (str s')).setCell ⟨W7.heap.size,1,none⟩ (.int .i64 v')).setCell ⟨W7.heap.size,2,none⟩ (.slice ka2 kn2 kc2)).setCell ⟨W7.heap.size,3,none⟩ (.slice ka3 kn3 kc3)=x:=⟨_,rfl⟩
       have bx10:W10.heap[W7.heap.size]? = some (.cells #[str s',.int .i64 v',.slice ka2 kn2 kc2,.slice ka3 kn3 kc3,.slice ba begun.length bc,.slice aa args.length ac,.int .i64 (opens:Nat)] 42 (0,0)):=by
        rw [<- hW10,setCell_at' (setCell_at' (setCell_at' (setCell_at' H8.out.2.2)))];rfl
       have hb10:Below W7.heap.size W7 W10:=by
        rw [<- hW10]
        exact (((H8.out.1.setCell (p:=⟨W7.heap.size,0,none⟩) (Nat.le_refl _) _).setCell (p:=⟨W7.heap.size,1,none⟩) (Nat.le_refl _) _).setCell (p:=⟨W7.heap.size,2,none⟩) (Nat.le_refl _) _).setCell (p:=⟨W7.heap.size,3,none⟩) (Nat.le_refl _) _
       rw [hW10]
       clear d0 d1 d2 d3 d4 d5 d6 fz0 fz1 fz2 fz3 r3 z0 z1 z2 z3
       obtain ⟨d0,d1,d2,d3,d4,d5,d6⟩:=cells_7 bx10
       have t0:=one_cell ((hb10.block _ (lt_of_heap H7.out.2.2.1.b0)).trans H7.out.2.2.1.b0)
       obtain ⟨m0,m1,_,_⟩:=cells_2 ((hb10.block _ (lt_of_heap H7.out.2.1)).trans H7.out.2.1)
       have H10:=Lib.hid hb10
       clear hW10 bx10 hb10
       go_wp2_with fail
       (with_reducible refine (CB.out W10 H10.out).mono ?_)
       rintro en x14 ⟨a10,n10,c10,rfl,hbut,hsome⟩
       have HZ:=Lib.hid (And.intro hbut hsome)
       clear hbut hsome
       rcases o with _ | out
       ·go_wp2_with fail
        go_ret2
        have E:viewsB t (.ask l ss y n) lv bg v=none:=by
         rw [viewsB_ask (pl:=(pb,p)) (by omega) HP.out.1]
         show (joinO (viewsAll t ss y n p v.length lv bg (v++[(113::p,(pb:Int))]))).map _=none
         rw [HL3.out.1,views_fail HS.out.1 HL.out.jo];rfl
        have K11:=(HF.out.2.1.trans HL.out.ko).trans (Ko.below (H7.out.1.trans (H10.out.mono H7.out.1.size)))
        exact TvOut.no (K11.but.trans' HZ.out.1 (fun i hi hm=>(K11.row i hm).resolve_right (by omega))) E
       ·go_wp2_with fail
        go_roundw
        case rel =>
         obtain ⟨us',hp',hr',hn'⟩:=HZ.out.2 out rfl
         refine ⟨k+1,by omega,by go_num,_,_,_,av++out,usk++us',rfl,HL.out.next (H7.out.1.trans (H10.out.mono H7.out.1.size)) ?_ HS.out.1 HS.out.2.1 (HS.out.2.2.2.1 out rfl) HZ.out.1 hp' hr' hn'⟩
         have h1:=HF.out.2.1.but.size;have h2:=HL.out.ko.but.size;have h3:=H7.out.1.size;have h4:=H10.out.size
         omega
        case measure=>simp [intOf];omega
      ·obtain rfl:k=2:=by omega
       clear hlt hk
       go_wp2_with fail
       go_ret2
       have E:viewsB t (.ask l ss y n) lv bg v=some (l3::av):=by
        rw [viewsB_ask (pl:=(pb,p)) (by omega) HP.out.1]
        show (joinO (viewsAll t ss y n p v.length lv bg (v++[(113::p,(pb:Int))]))).map _=_
        rw [HL3.out.1,views_done HL.out.jo]
        rfl
       rw [E]
       have K11:=HF.out.2.1.trans HL.out.ko
       refine ⟨_,_,_,rfl,K11.but,fun out ho=>?_⟩
       obtain rfl:=Option.some.inj ho
       refine ⟨(.slice a3' n3 c3',.slice a4' n3 c4')::usk,?_,K11.row,fun u hu g hg=>?_⟩
       ·have:=HL.out.pls
        simp only [List.append_assoc,List.singleton_append] at this;exact this
       ·rcases List.mem_cons.1 hu with rfl | hu
        ·exact HQ.out.2.2.2.1 g hg
        ·exact HL.out.new u hu g hg
end Go.Proofs.YthoimoenbccflaaDoor

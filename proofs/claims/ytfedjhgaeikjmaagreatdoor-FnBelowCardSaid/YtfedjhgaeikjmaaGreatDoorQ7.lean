/- Walks of functions that the statement reaches, and plain words. No conditions. -/
import Derived.Laws.DeepNot64
import Derived.Test.YtfedjhgaeikjmaaGreatDoorQ6
set_option linter.unusedVariables false
set_option linter.unusedSimpArgs false
set_option maxHeartbeats 16000000
namespace Go.Proofs.YtfedjhgaeikjmaaGreatDoor
open Go.RowKit
def PlQ (o:Option Pl) (w:World) (en:Ending) (w':World):Prop :=
 ∃ a1 c1 a2 c2,en=.returned (.tuple #[.agg #[.slice a1 (o.getD []).length c1,.slice a2 (o.getD []).length c2],.bool o.isSome])/\Below w.heap.size w w'/\kG w' (o.getD []) (.slice a1 (o.getD []).length c1) (.slice a2 (o.getD []).length c2) /\
   ∀ g,(Value.slice a1 (o.getD []).length c1).ownBlock=some g\/(Value.slice a2 (o.getD []).length c2).ownBlock=some g->w.heap.size<=g
theorem PlQ.none {w w':World} (hb:Below w.heap.size w w'):PlQ none w (.returned (.tuple #[.agg #[.slice .none 0 0,.slice .none 0 0],.bool false])) w' :=
 ⟨_,_,_,_,rfl,hb,wo _,fun g h=>by simp [Value.ownBlock] at h⟩
theorem told_ne {s:St} {x:Bs×Int} (h:jm s=some x):∃ c p,x.1=c::p:=by
 unfold jm at h
 split at h
 ·split at h
  ·simp at h
  ·obtain rfl:=Option.some.inj h;exact ⟨_,_,rfl⟩
 ·rw [Option.map_eq_some_iff] at h
  obtain ⟨pl,_,rfl⟩:=h
  exact ⟨_,_,rfl⟩
set_option maxRecDepth 100000 in
theorem reply_any (F:Nat->Prop) (t:Ty) (b:Bd) (v:Pl) (k:Nat) (kv bv mv pt:Value) (w:World) (hg:qE w) (hk:Rep F w (qS t) kv) (hb:Rep F w (ke b) bv) (hm:xp F t v mv pt w)
 (gA:zY t<=15) (hf:zm t.args b) (hw:wfB b) (gh:v.length=k+1) (fW:k % 2=0) (bi:zi t b v k) :
 Calls Tryz.prog 33 #[kv,bv,.agg #[mv,pt]] w (PlQ (jY t b v) w):=by
 have du:=qD hm.ok
 obtain ⟨s,hand,bT,g_⟩:=yB gA hf hw hm.ok k (by omega) fW bi
 obtain ⟨ba,rfl⟩:=kV hb
 obtain ⟨kb,ks,rfl,_⟩:=zR hk
 obtain ⟨ma,mc,rfl,_⟩:=hm.m.cells
 obtain ⟨pa,pc,rfl,_⟩:=hm.p.cells
 obtain ⟨W,hW,gG,hz,b0,b1⟩:=uV w (.cells #[.slice ma v.length mc,.slice pa v.length pc] 33) (.cells #[.slice none 0 0,.slice none 0 0] 33)
 obtain ⟨c0,c1,_,_⟩:=zT b0
 have CS:=gZ (xt F t b v k v.length gh s (.pointer (some ⟨kb,0,none⟩)) (.pointer (some ⟨ba,0,none⟩)) (.slice ma v.length mc) (.slice pa v.length pc) W (hg.below gG) (hk.below gG fun _ h=>h) (hb.below gG fun _ h=>h) (hm.below gG) gA hf hw (by omega) fW bi bT)
 have CT:=gZ (fun (y:World) (xv lv:Value) (hr:uB (fun _=>True) y s xv lv)=>tells_any (fun _=>True) xv lv y g_ gA (by omega) hr)
 have CW:=gZ (fun (y:World) (hy:Below W.heap.size W y) (m:Bs) (z:Int)=>with_any v (.slice ma v.length mc) (.slice pa v.length pc) m z y (jJ.src ((hm.below gG).below hy).m) (jQ.src ((hm.below gG).below hy).p) (by omega))
 have HR:Hid (kt t b v v.length=jm s):=gZ (by unfold kt;rw [gh,bT];rfl)
 have HW:=gZ (gK hW (gK gG (gK b1 hz)))
 clear hm hW gG hz b0 b1 hg hk hb gA hf hw bT g_ bi fW gh
 by_cases he:v.length=60
 ·have E:=gZ (show jY t b v=none by unfold jY;rw [if_pos he])
  rw [he] at HW c0 c1
  rw [he]
  obtain ⟨z0,z1,f0,f1⟩:=zT HW.out.2.2.1
  clear CS CT CW HR he du
  go_enter Tryz.func33,Tryz.ntmps33
  go_upto_region 1 with (fail)
  rw [HW.out.1]
  go_wp2_with fail
  have hV:=yj HW.out.2.2.1 (.slice none 0 0) (.slice none 0 0)
  obtain ⟨s0,s1,_,_⟩:=zT hV
  refine bodyPost_ret (v:=.tuple #[.agg #[.slice none 0 0,.slice none 0 0],.bool false]) (by simp [results,Tryz.results33,go_sem,s0,s1]) rfl ?_
  rw [E.out]
  exact PlQ.none ((HW.out.2.1.setCell (p:=⟨w.heap.size+1,0,none⟩) (Nat.le_add_right _ _) _).setCell (p:=⟨w.heap.size+1,1,none⟩) (Nat.le_add_right _ _) _)
 ·have heI:¬ (v.length:Int)=60:=by omega
  have heB:((v.length:Int) == 60)=false:=by simpa using heI
  have E:=gZ (show jY t b v=(jm s).map fun x=>v++[x] by unfold jY;rw [if_neg he,HR.out])
  clear HR he
  go_enter Tryz.func33,Tryz.ntmps33
  go_upto_region 1 with (fail)
  rw [HW.out.1]
  go_wp2_with fail
  (with_reducible refine CS.out.mono ?_)
  rintro en w1 ⟨xv,lv,rfl,gW,gp⟩
  have d0:=(gW.cell (gJ _ _ c0)).trans c0
  have d1:=(gW.cell (gJ _ _ c1)).trans c1
  have bY:=gZ gW
  have fK:=CT.out w1 xv lv gp
  clear CS CT gW gp c0 c1
  cases ho:jm s with
  | none =>
    rw [ho] at E
    have et:je s=([],-1):=by unfold je;rw [ho];rfl
    rw [et] at fK
    have fK:=gZ fK
    clear CW ho et
    go_wp2_with fail
    (with_reducible refine fK.out.mono ?_)
    rintro en w2 ⟨rfl,gP⟩
    have gz:=zzT bY.out gP
    have b3:=(gz.block _ (zZ HW.out.2.2.1)).trans HW.out.2.2.1
    obtain ⟨z0,z1,f0,f1⟩:=zT b3
    have h_:=gZ (gK b3 (zzT HW.out.2.1 gz))
    clear gP gz b3 d0 d1 fK
    go_wp2_with fail
    have hV:=yj h_.out.1 (.slice none 0 0) (.slice none 0 0)
    obtain ⟨s0,s1,_,_⟩:=zT hV
    refine bodyPost_ret (v:=.tuple #[.agg #[.slice none 0 0,.slice none 0 0],.bool false]) (by simp [results,Tryz.results33,go_sem,s0,s1]) rfl ?_
    rw [E.out]
    exact PlQ.none ((h_.out.2.setCell (p:=⟨w.heap.size+1,0,none⟩) (Nat.le_add_right _ _) _).setCell (p:=⟨w.heap.size+1,1,none⟩) (Nat.le_add_right _ _) _)
  | some x =>
    rw [ho] at E
    obtain ⟨c,p,rZ⟩:=told_ne ho
    obtain ⟨m,z⟩:=x
    simp only at rZ
    have et:je s=(m,z):=by unfold je;rw [ho];rfl
    rw [et] at fK
    have fK:=gZ fK
    have dU:(m == ([]:Bs))=false:=by rw [rZ];rfl
    have hm2:¬ m=[]:=by rw [rZ];simp
    clear ho et rZ
    go_wp2_with fail
    (with_reducible refine fK.out.mono ?_)
    rintro en w2 ⟨rfl,gP⟩
    have gz:=zzT bY.out gP
    have b3:=(gz.block _ (zZ HW.out.2.2.1)).trans HW.out.2.2.1
    have e0:=(gP.cell (gJ _ _ d0)).trans d0
    have e1:=(gP.cell (gJ _ _ d1)).trans d1
    have CW2:=gZ (CW.out w2 gz m z)
    have h_:=gZ (gK b3 (zzT HW.out.2.1 gz))
    clear gP gz b3 d0 d1 fK CW
    go_wp2_with fail
    (with_reducible refine CW2.out.mono ?_)
    rintro en w3 ⟨mvn,ptn,rfl,mp,gF,sU⟩
    obtain ⟨a8,c8,e8⟩:=mp.1.slice
    obtain ⟨a9,c9,e9⟩:=mp.2.slice
    subst e8;subst e9
    have b3:=(gF.block _ (zZ h_.out.1)).trans h_.out.1
    obtain ⟨z0,z1,f0,f1⟩:=zT b3
    have cL:=gZ (gK b3 (gK (zzT h_.out.2 gF) (gK mp (gK sU (show w.heap.size+1<w2.heap.size from zZ h_.out.1)))))
    clear gF b3 mp sU CW2 e0 e1
    generalize hL:(v++[(m,z)]).length=L at *
    go_wp2_with fail
    have hV:=yj cL.out.1 (.slice a8 L c8) (.slice a9 L c9)
    obtain ⟨s0',s1',_,_⟩:=zT hV
    have dr:∀ g,g≠w.heap.size+1->((w3.setCell ⟨w.heap.size+1,0,none⟩ (.slice a8 L c8)).setCell ⟨w.heap.size+1,1,none⟩ (.slice a9 L c9)).heap[g]? = w3.heap[g]?:=fun g hg=>by
     rw [gU _ _ _ _ (by show g≠w.heap.size+1;exact hg),gU _ _ _ _ (by show g≠w.heap.size+1;exact hg)]
    refine bodyPost_ret (v:=.tuple #[.agg #[.slice a8 L c8,.slice a9 L c9],.bool true]) (by simp [results,Tryz.results33,go_sem,s0',s1']) rfl ?_
    rw [E.out]
    have gH:=cL.out.2.2.2.2
    refine ⟨a8,c8,a9,c9,by rw [Option.map_some,Option.getD_some,hL];rfl,(cL.out.2.1.setCell (p:=⟨w.heap.size+1,0,none⟩) (Nat.le_add_right _ _) _).setCell (p:=⟨w.heap.size+1,1,none⟩) (Nat.le_add_right _ _) _,?_,fun g hg=>?_⟩
    ·rw [Option.map_some,Option.getD_some,hL]
     refine ⟨cL.out.2.2.1.1.keep fun g o hg ho=>?_,cL.out.2.2.1.2.keep fun g o hg ho=>?_⟩
     ·have:=cL.out.2.2.2.1 g (.inl hg)
      rw [dr g (by omega)];exact ho
     ·have:=cL.out.2.2.2.1 g (.inr hg)
      rw [dr g (by omega)];exact ho
    ·rw [Option.map_some,Option.getD_some,hL] at hg
     have:=cL.out.2.2.2.1 g hg;omega
def qk (t:Ty) (p:Bs) (k:Nat):List Bs:=[113::p,116::p,102::p]++zd (t.args.take k) 0 p
theorem movesTo_zero (t:Ty) (p:Bs):qk t p 0=[113::p,116::p,102::p]:=by unfold qk;rw [List.take_zero,zd];rfl
theorem movesTo_all (t:Ty) (p:Bs):qk t p t.args.length=kE t p:=by unfold qk;rw [List.take_length,movesT_eq]
theorem movesTo_next {t a:Ty} {k:Nat} (h:t.args[k]? = some a) (p:Bs):qk t p (k+1)=qk t p k++kE a (p++dec k):=by unfold qk;rw [movesTs_take h,List.append_assoc]
theorem movesTs_le (ts:List Ty) (k:Nat) (p:Bs):(zd (ts.take k) 0 p).length<=(zd ts 0 p).length:=by
 have h:=uq (ts.take k) 0 p
 induction k with
 | zero=>simp [zd]
 | succ k ih =>
   rcases Nat.lt_or_ge k ts.length with hk | hk
   ·have key:∀ (us:List Ty) (i:Nat),(zd us i p).length<=(zd us i p).length:=fun _ _=>gQ _
    have e:∀ (us vs:List Ty) (i:Nat),(zd us i p).length<=(zd (us++vs) i p).length:=by
     intro us
     induction us with
     | nil=>intro vs i;simp [zd]
     | cons a us ih=>intro vs i;rw [List.cons_append,zd,zd,List.length_append,List.length_append];have:=ih vs (i+1);omega
    have:=e (ts.take (k+1)) (ts.drop (k+1)) 0
    rwa [List.take_append_drop] at this
   ·rw [List.take_of_length_le (by omega)];exact gQ _
theorem movesTo_len {t:Ty} (gA:zY t<=15) (p:Bs) (k:Nat):(qk t p k).length<=24:=by
 have h1:=movesTs_le t.args k p
 have h2:=pW gA p
 rw [movesT_eq,List.length_append] at h2
 unfold qk
 rw [List.length_append];omega
theorem strs_one (L:List Bs):∀ u∈L.map str,u.oneCell'=true:=fun u h=>by
 obtain ⟨x,_,rfl⟩:=List.mem_map.1 h
 rfl
set_option maxRecDepth 100000 in
theorem moves_any (F:Nat->Prop):∀ (m:Nat) (t:Ty) (p:Bs) (kv:Value) (w:World),zY t<=m->m<=15->p.length+m<=1000->qE w->Rep F w (qS t) kv ->
 Calls Tryz.prog 69 #[kv,str p] w (wN w 9 1 (kE t p).length ((kE t p).map str)):=by
 intro m
 induction m with
 | zero=>intro t p kv w h;have:=jC t;omega
 | succ m ih =>
   intro t p kv w hm gA hp hg hv
   obtain ⟨b,s,rfl,hb,hc,hs⟩:=zR hv
   obtain ⟨a,cap,rfl,hn,gC,hat⟩:=zM hs
   have rV:=qY t
   obtain ⟨Q,hQ⟩:∃ O:Bs,O=[113]++p:=⟨_,rfl⟩
   obtain ⟨T,hT⟩:∃ O:Bs,O=[116]++p:=⟨_,rfl⟩
   obtain ⟨G,hG⟩:∃ O:Bs,O=[102]++p:=⟨_,rfl⟩
   have s1:=fun w0=>k8 (P:=Tryz.prog) [113] p (by simp;omega) w0
   have s2:=fun w0=>k8 (P:=Tryz.prog) [116] p (by simp;omega) w0
   have s3:=fun w0=>k8 (P:=Tryz.prog) [102] p (by simp;omega) w0
   rw [<- hQ] at s1;rw [<- hT] at s2;rw [<- hG] at s3
   have HM0:=gZ (show qk t p 0=[Q,T,G] by rw [movesTo_zero,hQ,hT,hG];rfl)
   have HALL:=gZ (movesTo_all t p)
   have sm:=gZ (fun k a (h:t.args[k]? = some a)=>movesTo_next h p)
   have HLN:=gZ (fun k=>movesTo_len (t:=t) (by omega) p k)
   obtain ⟨W,hW⟩:=zzN (w.alloc (.cells #[str Q,str T,str G] 9))
   have gG:Below w.heap.size w W:=by rw [<- hW];exact (gV _ _).alloc (gQ _) _
   have gM:Own W 9 1 (.slice (some ⟨w.heap.size,0,none⟩) 3 3) 3 [str Q,str T,str G]:=by rw [<- hW];exact Own.lit #[str Q,str T,str G] 3 (by unfold maxLen;omega) rfl
   have c1:W.cell? ⟨b,0,none⟩=some (.slice a t.args.length cap):=(gG.cell (by exact zZ hc)).trans (by simp [World.cell?,hc])
   have HW:=gZ hW
   have H0:=gZ (gK gG gM)
   have AT:=gZ hat
   have HG:=gZ hg
   have IH:=gZ ih
   have HP:=gZ (gK hm (gK gA (gK hp rV)))
   have hnn:t.args.length<=7:=by omega
   have gO:p.length<=1000:=by omega
   clear hQ hT hG hW gG gM hat hg ih hm gA hp rV hc hb hv hs gC
   go_enter Tryz.func69,Tryz.ntmps69
   go_upto_region 2 with (fail)
   rw [HW.out]
   go_wp2_with fail
   go_loopw [5,20] (fun o i wr=>∃ (k L:Nat) (a2:Option Addr) (c2:Nat) (wz:World),wz=wr/\k<=t.args.length/\i=.int .i64 k/\o=.slice a2 L c2/\(qk t p k).length=L/\Own wz 9 1 (.slice a2 L c2) L ((qk t p k).map str)/\Below w.heap.size w wz/\(∀ g,(Value.slice a2 L c2).ownBlock=some g->w.heap.size<=g)) (fun _ i _=>t.args.length-(intOf i).toNat)
   case atStart=>exact ⟨0,3,_,_,_,rfl,Nat.zero_le _,rfl,rfl,by rw [HM0.out];rfl,by rw [HM0.out];exact H0.out.2,H0.out.1,own_some (gQ _)⟩
   case round =>
    obtain ⟨k,L,a2,c2,wr,rfl,hk,rfl,rfl,hL,ho,hB,hf⟩:=hrel
    have HO:=gZ (gK ho (gK hB (gK hf hL)))
    clear ho hB hf hL
    by_cases gH:k<t.args.length
    ·have bH:(k:Int)<(t.args.length:Int):=by omega
     obtain ⟨b',o',u,d,rfl,_,gu,hd,hu,hr⟩:=AT.out k gH
     rw [ux,Option.map_eq_some_iff] at hd
     obtain ⟨t',eT,rfl⟩:=hd
     obtain ⟨bu,eu⟩:∃ bu,u=.pointer (some ⟨bu,0,none⟩):=by obtain ⟨ba,_,h,_⟩:=zR hr;exact ⟨ba,h⟩
     subst eu
     have kk:wr.cell? ⟨b',o'+k,none⟩=some (.pointer (some ⟨bu,0,none⟩)):=(HO.out.2.1.cell (p:=⟨b',o'+k,none⟩) gu).trans hu
     have lX:=yS eT
     have hNX:=sm.out k t' eT
     have HT:=gZ (gK hr (gK lX hNX))
     clear gu hu hr eT lX hNX
     have C1:Hid (Calls Tryz.prog 105 #[.int .i64 (k:Nat)] wr fun en w'=>en=.returned (str (dec k))/\Below wr.heap.size wr w'):=gZ (by
      have:=pF (k:Nat) wr (HG.out.below HO.out.2.1) (by omega) (by omega)
      rwa [itoa_dec] at this)
     have tA:(dec k).length<=2:=jB 1 k (by omega)
     have e6:=fun w0=>k8 (P:=Tryz.prog) p (dec k) (by omega) w0
     obtain ⟨S,hS⟩:=zzN (p++dec k)
     rw [hS] at e6 HT
     have hSl:S.length<=p.length+1:=by rw [<- hS,List.length_append];have:=qV (show k<10 by omega);rw [this];simp
     have IH1:=gZ (fun (y:World) (hy:Below w.heap.size w y)=>IH.out t' S (.pointer (some ⟨bu,0,none⟩)) y (by have:=HT.out.2.1;have:=HP.out;omega) (by have:=HP.out;omega) (by have:=HP.out;omega) (HG.out.below hy) (HT.out.1.below hy fun _ h=>h))
     clear hS tA
     go_wp2_with fail
     (with_reducible refine C1.out.mono ?_)
     rintro en w1 ⟨rfl,gW⟩
     have sT:=zzT HO.out.2.1 gW
     have C2:=gZ (IH1.out w1 sT)
     have bY:=gZ (gK gW sT)
     clear gW sT C1 IH1 kk hSl
     unfold wN at C2
     obtain ⟨L2,hL2⟩:=zzN ((kE t' S).length)
     rw [hL2] at C2
     have se:=gZ hL2
     clear hL2
     go_wp2_with fail
     (with_reducible refine C2.out.mono ?_)
     rintro en w2 ⟨a3,c3,rfl,ar,gP,hf2⟩
     have h_:=gZ (gK gP (gK (zzT bY.out.2 gP) (gK ar hf2)))
     have ni:=HLN.out (k+1)
     have hl24:L+L2<=24:=by rw [HT.out.2.2,List.length_append,se.out] at ni;have:=HO.out.2.2.2;omega
     clear gP ar hf2 C2 ni
     go_wp2_with (at_builtin;refine zB rfl _ _ 30 rfl 9 (str []) 1 16 Tryz.underlying30 Tryz.infoStr rfl (by decide) (.slice a2 L c2) L ((qk t p k).map str) rfl ?c1 (.slice a3 L2 c3) L2 ((kE t' S).map str) rfl ?c2 ?c3 ?c4 ?_)
     case c1=>exact HO.out.1.keep fun g o _ ho=>by rw [h_.out.1.block g (gY (zZ ho) bY.out.1.size),bY.out.1.block g (zZ ho)];exact ho
     case c2=>exact zN.ofOwn h_.out.2.2.1 (strs_one _)
     case c3=>unfold maxLen;omega
     case c4=>omega
     intro a' c' w7 g8 gD gL
     obtain ⟨eM,hF7⟩:=v9 h_.out.2.1 HO.out.2.2.1 gD gL
     have HA:=gZ (gK g8 (gK eM hF7))
     clear g8 gD gL eM hF7
     go_wp2_with fail
     go_roundw
     case rel =>
      refine ⟨k+1,L+L2,a',c',_,rfl,by omega,by go_num,rfl,?_,?_,HA.out.2.1,HA.out.2.2⟩
      ·rw [HT.out.2.2,List.length_append,se.out,HO.out.2.2.2]
      ·rw [HT.out.2.2,List.map_append];exact HA.out.1
     case measure=>simp [intOf];omega
    ·have bH:¬ (k:Int)<(t.args.length:Int):=by omega
     obtain rfl:k=t.args.length:=by omega
     go_wp2_with fail
     go_ret
     have e:=HO.out.2.2.2
     have ho:=HO.out.1
     rw [HALL.out] at e ho
     exact ⟨a2,c2,by rw [e];rfl,by rw [e];exact ho,HO.out.2.1,by rw [e];exact HO.out.2.2.1⟩
structure NxR (B:Nat) (L:List Pl) (a:Option Addr) (n c:Nat) (us:List (Value×Value)) (wz:World):Prop where
 len:L.length=n
 pls:jd wz L (.slice a n c) us
 new:∀ g,PlB (.slice a n c) us g->B<=g
theorem NxR.below {B:Nat} {L:List Pl} {a:Option Addr} {n c:Nat} {us:List (Value×Value)} {w w':World} (h:NxR B L a n c us w) (hb:Below w.heap.size w w'):NxR B L a n c us w':=⟨h.len,jh.below h.pls hb,h.new⟩
theorem NxR.mono {B B':Nat} {L:List Pl} {a:Option Addr} {n c:Nat} {us:List (Value×Value)} {w:World} (h:NxR B L a n c us w) (hb:B'<=B):NxR B' L a n c us w:=⟨h.len,h.pls,fun g hg=>gX hb (h.new g hg)⟩
theorem NxR.nil (B:Nat) (w:World):NxR B [] none 0 0 [] w:=⟨rfl,jh.nil w,fun g h=>by
 rcases h with h | ⟨u,hu,_⟩
 ·simp [Value.ownBlock] at h
 ·simp at hu⟩
def PlsQ (L:List Pl) (w:World) (en:Ending) (w':World):Prop :=
 ∃ a n c us,en=.returned (.slice a n c)/\Below w.heap.size w w'/\NxR w.heap.size L a n c us w'
theorem NxR.add {B:Nat} {L:List Pl} {a:Option Addr} {n c:Nat} {us:List (Value×Value)} {w W:World} {l:Pl} {mv pt:Value} (h:NxR B L a n c us w) (hB:Below w.heap.size w W) (hBB:B<=w.heap.size) (hl:kG W l mv pt) (hn:∀ g,mv.ownBlock=some g\/pt.ownBlock=some g->w.heap.size<=g)
 {a':Option Addr} {c':Nat} {w5:World} (rc:Own w5 33 2 (.slice a' (n+1) c') (n+1) (plC us++[mv,pt])) (gR:But (fun b=>(Value.slice a n c).ownBlock=some b) W w5) (iL:∀ g,(Value.slice a' (n+1) c').ownBlock=some g->(Value.slice a n c).ownBlock=some g\/g=W.heap.size) :
 NxR B (L++[l]) a' (n+1) c' (us++[(mv,pt)]) w5:=by
 have eQ:us.length=n:=by rw [h.pls.length,h.len]
 have h1:=pls_add (v':=.slice a' (n+1) c') h.pls hB hl hn (by rw [eQ];exact rc) gR
 refine ⟨by rw [List.length_append,h.len];rfl,h1,fun g hg=>?_⟩
 rcases hg with hg | ⟨u,hu,hg⟩
 ·rcases iL g hg with hg | hg
  ·exact h.new g (.inl hg)
  ·have:=hB.size;omega
 ·rcases List.mem_append.1 hu with hu | hu
  ·exact h.new g (.inr ⟨u,hu,hg⟩)
  ·rw [List.mem_singleton] at hu
   subst hu
   have:=hn g hg;omega
theorem NxR.own {B:Nat} {L:List Pl} {a:Option Addr} {n c:Nat} {us:List (Value×Value)} {w:World} (h:NxR B L a n c us w):Own w 33 2 (.slice a n c) n (plC us):=by
 have eQ:us.length=n:=by rw [h.pls.length,h.len]
 have:=h.pls.own
 rwa [eQ] at this
theorem movesT_lim {t:Ty} (gA:zY t<=15) {m:Bs} (h:m∈kE t []):vN t m=true/\m.length<=8:=by
 have h1:=movesT_ok t t [] (jR t) gA m h
 refine ⟨h1,?_⟩
 cases m with
 | nil=>simp
 | cons c p =>
   unfold vN at h1
   rw [Bool.and_eq_true] at h1
   obtain ⟨a,ha⟩:=Option.isSome_iff_exists.1 h1.2
   have:=qy _ _ _ ha
   have:=qY a
   rw [List.length_cons];omega
theorem fitsM_no {t:Ty} {v:Pl} {m:Bs} {i:Nat} (h:qX t (v++[(m,(i:Int))]) (v++[(m,(i:Int))]).length=false):xZ t v m i=false:=by unfold xZ zS;rw [h];simp
theorem fitsM_valid {t:Ty} {v:Pl} {m:Bs} {i:Nat} (h:qX t (v++[(m,(i:Int))]) (v++[(m,(i:Int))]).length=true) (du:v.length<60):zS t (v++[(m,(i:Int))])=true:=by
 unfold zS;rw [h,decide_eq_true (by rw [List.length_append,List.length_singleton];omega)];rfl
theorem fitsM_of {t:Ty} {v:Pl} {m:Bs} {i:Nat} (h:zS t (v++[(m,(i:Int))])=true):xZ t v m i=qm (v++[(m,(i:Int))]):=by unfold xZ;rw [h];rfl
set_option maxRecDepth 100000 in
theorem next_nil (t:Ty) (kv:Value) (c1 c2:Nat) (a1 a2:Option Addr) (w:World) :
 Calls Tryz.prog 34 #[kv,.agg #[.slice a1 0 c1,.slice a2 0 c2]] w (PlsQ (jL t []) w):=by
 go_enter Tryz.func34,Tryz.ntmps34
 go_wp2_with fail
 go_ret
 obtain ⟨W1,rX⟩:=zzN (w.alloc (.cells #[.slice a1 0 c1,.slice a2 0 c2] 33))
 have bw:W1.heap.size=w.heap.size+1:=by rw [<- rX,zK]
 have gW:Below w.heap.size w W1:=by rw [<- rX];exact (gV _ _).alloc (gQ _) _
 rw [rX]
 have gP:=gW.alloc gW.size (.cells #[str [113]] 9)
 have gF:=gP.alloc gP.size (.cells #[.int .i64 (-1)] 3)
 have gO:kG ((W1.alloc (.cells #[str [113]] 9)).alloc (.cells #[.int .i64 (-1)] 3)) [([113],-1)] (.slice (some ⟨w.heap.size+1,0,none⟩) 1 1) (.slice (some ⟨w.heap.size+1+1,0,none⟩) 1 1) :=
  ⟨(Own.litAt #[str [113]] 1 _ bw.symm (by unfold maxLen;omega) rfl).alloc _,Own.litAt #[.int .i64 (-1)] 1 _ (by rw [zK,bw]) (by unfold maxLen;omega) rfl⟩
 have hn:=NxR.add (NxR.nil w.heap.size w) gF (gQ _) gO (fun g hg=>by
  rcases hg with hg | hg <;> simp [Value.ownBlock] at hg <;> omega) (a':=some ⟨w.heap.size+1+1+1,0,none⟩) (c':=1)
  (w5:=((W1.alloc (.cells #[str [113]] 9)).alloc (.cells #[.int .i64 (-1)] 3)).alloc (.cells #[.slice (some ⟨w.heap.size+1,0,none⟩) 1 1,.slice (some ⟨w.heap.size+1+1,0,none⟩) 1 1] 33))
  (Own.litAt #[.slice (some ⟨w.heap.size+1,0,none⟩) 1 1,.slice (some ⟨w.heap.size+1+1,0,none⟩) 1 1] 1 _ (by rw [zK,zK,bw]) (by unfold maxLen;omega) rfl)
  (But.ofBelow ((gV _ _).alloc (gQ _) _)) (fun g hg=>.inr (by simp [Value.ownBlock] at hg;rw [zK,zK,bw];omega))
 exact ⟨_,_,_,_,rfl,gF.alloc gF.size _,hn⟩
set_option maxRecDepth 100000 in
theorem next_any (F:Nat->Prop) (t:Ty) (v:Pl) (kv mv pt:Value) (w:World) (hg:qE w) (hk:Rep F w (qS t) kv) (hm:jJ F w v mv) (hp:jQ F w v pt) (gA:zY t<=15) (gC:v.length<60) (hl:∀ x∈v,Lim x.1.length) :
 Calls Tryz.prog 34 #[kv,.agg #[mv,pt]] w (PlsQ (jL t v) w):=by
 obtain ⟨kb,ks,rfl,_⟩:=zR hk
 obtain ⟨ma,mc,rfl⟩:=hm.src.slice
 obtain ⟨pa,pc,rfl⟩:=hp.src.slice
 by_cases h0:v.length=0
 ·obtain rfl:=List.eq_nil_of_length_eq_zero h0
  exact next_nil t _ _ _ _ _ w
 have h0I:¬ (v.length:Int)=0:=by omega
 have h0B:((v.length:Int) == 0)=false:=by simpa using h0I
 obtain ⟨W,hW,gG,hz,b0⟩:=qC w (.cells #[.slice ma v.length mc,.slice pa v.length pc] 33)
 have E:=gZ (show jL t v=uz t v v.length by unfold jL;rw [if_neg h0])
 have CM:=gZ (fun (y:World) (hy:Below W.heap.size W y)=>moves_any F 15 t [] (.pointer (some ⟨kb,0,none⟩)) y gA (gQ _) (by simp) ((hg.below gG).below hy) ((hk.below gG fun _ h=>h).below hy fun _ h=>h))
 have CW:=gZ (fun (y:World) (hy:Below W.heap.size W y) (m:Bs) (z:Int)=>with_any v (.slice ma v.length mc) (.slice pa v.length pc) m z y (jJ.src ((hm.below gG fun _ h=>h).below hy fun _ h=>h)) (jQ.src ((hp.below gG fun _ h=>h).below hy fun _ h=>h)) (by omega))
 have CH:=gZ (fun (y:World) (hy:Below W.heap.size W y) (u:Pl) (mv pt:Value) (hu:kG y u mv pt) (eQ:u.length<=60) (cp:∀ x∈u,Lim x.1.length)=>hasPlay_v (fun _=>True) t (.pointer (some ⟨kb,0,none⟩)) mv pt u y (Rep.below hy (fun _ h=>h) ((Rep.keep fun b o _ ho=>⟨trivial,ho⟩).1 _ _ (hk.below gG fun _ h=>h))) gA (hu.mv fun _ _=>trivial).1 (hu.mv fun _ _=>trivial).2 eQ cp)
 have CL:=gZ (fun (y:World) (u:Pl) (mv pt:Value) (hu:kG y u mv pt) (hv:zS t u=true) (cp:∀ x∈u,Lim x.1.length)=>legal_any (fun _=>True) t u mv pt y ⟨(hu.mv fun _ _=>trivial).1,(hu.mv fun _ _=>trivial).2,hv,fun x hx=>(cp x hx)⟩)
 have HW:=gZ (gK hW (gK gG (gK b0 (gK hl gA))))
 have HM:=gZ (fun j m (h:(kE t [])[j]? = some m)=>movesT_lim gA (List.mem_of_getElem? h))
 have H24:=gZ (gK (pW gA []) (fun i=>xI gA v i))
 have KEY:=gZ (fun (y:World) (hy:Below W.heap.size W y)=>(show y.cell? ⟨w.heap.size,0,none⟩=some (.slice ma v.length mc)/\y.cell? ⟨w.heap.size,1,none⟩=some (.slice pa v.length pc) from by
  obtain ⟨c0,c1,_,_⟩:=zT b0
  exact ⟨(hy.cell (gJ _ _ c0)).trans c0,(hy.cell (gJ _ _ c1)).trans c1⟩))
 obtain ⟨c0,c1⟩:=KEY.out W (gV _ _)
 clear hW gG hz b0 hg hk hm hp gA hl
 go_enter Tryz.func34,Tryz.ntmps34
 go_upto_region 1 with (fail)
 rw [HW.out.1]
 go_wp2_with fail
 go_loopw [5,21] (fun o x wr=>∃ (i n c:Nat) (a:Option Addr) (us:List (Value×Value)) (wz:World),wz=wr/\i<=v.length/\x=.int .i64 i/\o=.slice a n c/\Below W.heap.size W wz/\NxR W.heap.size (uz t v i) a n c us wz) (fun _ x _=>v.length-(intOf x).toNat)
 case atStart=>exact ⟨0,0,0,none,[],_,rfl,Nat.zero_le _,rfl,rfl,gV _ _,NxR.nil _ _⟩
 case round =>
  obtain ⟨i,n,c,a,us,wr,rfl,hi,rfl,rfl,hB,hN⟩:=hrel
  by_cases gH:i<v.length
  ·have bH:(i:Int)<(v.length:Int):=by omega
   have C1:=CM.out wr hB
   unfold wN at C1
   obtain ⟨nm,rt⟩:=zzN ((kE t []).length)
   rw [rt] at C1
   have hnm24:nm<=24:=by have:=H24.out.1;omega
   have HNM:=gZ rt
   have C1:=gZ C1
   have HB:=gZ (gK hB hN)
   clear hB hN rt
   go_wp2_with fail
   (with_reducible refine C1.out.mono ?_)
   rintro en w1 ⟨a1,k1,rfl,tB,gW,sW⟩
   have H1:=gZ (gK (zzT HB.out.1 gW) (gK tB (gK (HB.out.2.below gW) sW)))
   clear tB gW sW C1
   go_wp2_with fail
   go_loopw [5,27] (fun o x wr=>∃ (j n c:Nat) (a:Option Addr) (us:List (Value×Value)) (wz:World),wz=wr/\j<=nm/\x=.int .i64 j/\o=.slice a n c/\Below W.heap.size W wz/\Own wz 9 1 (.slice a1 nm k1) nm ((kE t []).map str)/\NxR W.heap.size (uz t v i++wa t v i ((kE t []).take j)) a n c us wz) (fun _ x _=>nm-(intOf x).toNat)
   case atStart=>exact ⟨0,n,c,a,us,_,rfl,Nat.zero_le _,rfl,rfl,H1.out.1,H1.out.2.1,by rw [List.take_zero,rowL_nil,List.append_nil];exact H1.out.2.2.1⟩
   case round =>
    obtain ⟨j,n2,c2,a2,ct,wq,rfl,hj,rfl,rfl,dj,hO2,cr⟩:=hrel
    by_cases hjt:j<nm
    ·have iS:(j:Int)<(nm:Int):=by omega
     obtain ⟨m,hm⟩:∃ m,(kE t [])[j]? = some m:=⟨_,List.getElem?_eq_getElem (by rw [HNM.out];exact hjt)⟩
     obtain ⟨g,k,eg,go⟩:=hO2.at (j:=j) (u:=str m) (by rw [List.getElem?_map,hm];rfl)
     simp only [Value.slice.injEq,true_and] at eg
     obtain ⟨rfl,rfl⟩:=eg
     obtain ⟨gy,hml⟩:=HM.out j m hm
     have bR:n2<=2000:=by
      have h1:=cr.len
      rw [List.length_append] at h1
      have h2:=H24.out.2 i
      have h3:=rowL_len t v i ((kE t []).take j)
      rw [List.length_take] at h3
      have h4:=H24.out.1
      omega
     obtain ⟨d0,d1⟩:=KEY.out wq dj
     have C2:=gZ (CW.out wq dj m (i:Int))
     have HQ:=gZ (gK dj (gK hO2 (gK cr (rowL_take (v:=v) (t:=t) (i:=i) hm))))
     have HLM:=gZ (show ∀ x∈v++[(m,(i:Int))],Lim x.1.length from fun x hx=>by
      rcases List.mem_append.1 hx with hx | hx
      ·exact HW.out.2.2.2.1 x hx
      ·rw [List.mem_singleton] at hx;subst hx;show m.length<=_;omega)
     clear dj hO2 cr gy hml hm c0 c1
     go_wp2_with fail
     (with_reducible refine C2.out.mono ?_)
     rintro en w2 ⟨mvn,ptn,rfl,mp,gP,sU⟩
     have hL1:(v++[(m,(i:Int))]).length=v.length+1:=by rw [List.length_append];rfl
     obtain ⟨LU,hLU⟩:=zzN (v.length+1)
     obtain ⟨a8,c8,e8⟩:=mp.1.slice
     obtain ⟨a9,c9,e9⟩:=mp.2.slice
     rw [hL1,hLU] at e8 e9
     subst e8;subst e9
     obtain ⟨W3,cR,cC,cb,x9⟩:=qC w2 (.cells #[.slice a8 LU c8,.slice a9 LU c9] 33)
     have fU:=mp.below cC
     have gF:Below wq.heap.size wq W3:=zzT gP cC
     obtain ⟨q0,q1,_,_⟩:=zT x9
     have C3:=CH.out W3 (zzT HQ.out.1 gF) _ _ _ fU (by rw [hL1];omega) HLM.out
     have H3:=gZ (gK cR (gK gF (gK fU (gK sU x9))))
     clear cR cC cb x9 fU mp gP sU gF hL1 hLU d0 d1 C2
     go_upto_region 11 with (fail)
     rw [H3.out.1]
     cases hA:qX t (v++[(m,(i:Int))]) (v++[(m,(i:Int))]).length with
     | false =>
       rw [hA] at C3
       have C3:=gZ C3
       have HF:=gZ (fitsM_no hA)
       clear hA
       go_wp2_with fail
       (with_reducible refine C3.out.mono ?_)
       rintro en w4 ⟨rfl,gS⟩
       have i9:=zzT H3.out.2.1 gS
       have H4:=gZ i9
       clear gS i9 C3 q0 q1
       go_wp2_with fail
       go_roundw
       case rel =>
        refine ⟨j+1,n2,c2,a2,ct,_,rfl,by omega,by go_num,rfl,zzT HQ.out.1 H4.out,?_,?_⟩
        ·exact HQ.out.2.1.keep fun g o _ ho=>by rw [H4.out.block g (zZ ho)];exact ho
        ·rw [HQ.out.2.2.2,HF.out,if_neg (by simp),List.append_nil]
         exact HQ.out.2.2.1.below H4.out
       case measure=>simp [intOf];omega
     | true =>
       rw [hA] at C3
       have C3:=gZ C3
       have hV:=fitsM_valid hA (by omega)
       have HV:=gZ (gK hV (fitsM_of hV))
       clear hA hV
       go_wp2_with fail
       (with_reducible refine C3.out.mono ?_)
       rintro en w4 ⟨rfl,gS⟩
       have r0:=(gS.cell (gJ _ _ q0)).trans q0
       have r1:=(gS.cell (gJ _ _ q1)).trans q1
       have bN:=H3.out.2.2.1.below gS
       have C4:=CL.out w4 _ _ _ bN HV.out.1 HLM.out
       have x9:=(gS.block _ (zZ H3.out.2.2.2.2)).trans H3.out.2.2.2.2
       have H4:=gZ (gK (zzT H3.out.2.1 gS) (gK bN x9))
       clear gS bN x9 C3 q0 q1
       cases hA:qm (v++[(m,(i:Int))]) with
       | false =>
         rw [hA] at C4
         have C4:=gZ C4
         have HF:=gZ (HV.out.2.trans hA)
         clear hA
         go_wp2_with fail
         (with_reducible refine C4.out.mono ?_)
         rintro en w5 ⟨rfl,gR⟩
         have H5:=gZ (zzT H4.out.1 gR)
         clear gR C4 r0 r1
         go_wp2_with fail
         go_roundw
         case rel =>
          refine ⟨j+1,n2,c2,a2,ct,_,rfl,by omega,by go_num,rfl,zzT HQ.out.1 H5.out,?_,?_⟩
          ·exact HQ.out.2.1.keep fun g o _ ho=>by rw [H5.out.block g (zZ ho)];exact ho
          ·rw [HQ.out.2.2.2,HF.out,if_neg (by simp),List.append_nil]
           exact HQ.out.2.2.1.below H5.out
         case measure=>simp [intOf];omega
       | true =>
         rw [hA] at C4
         have C4:=gZ C4
         have HF:=gZ (HV.out.2.trans hA)
         clear hA
         go_wp2_with fail
         (with_reducible refine C4.out.mono ?_)
         rintro en w5 ⟨rfl,gR⟩
         have s0:=(gR.cell (gJ _ _ r0)).trans r0
         have s1:=(gR.cell (gJ _ _ r1)).trans r1
         have H5:=gZ (gK (zzT H4.out.1 gR) (H4.out.2.1.below gR))
         clear gR C4 r0 r1
         go_wp2_with (at_builtin;refine zB rfl _ _ 26 rfl 33 (.agg #[.slice none 0 0,.slice none 0 0]) 2 48 Tryz.underlying26 Tryz.infoPlay rfl (by decide) (.slice a2 n2 c2) n2 (plC ct) rfl ?c1 _ 1 [.slice a8 LU c8,.slice a9 LU c9] rfl ?c2 ?c3 ?c4 ?_)
         case c1=>exact (HQ.out.2.2.1.below H5.out.1).own.alloc _
         case c2=>exact zN.litk #[.slice a8 LU c8,.slice a9 LU c9] rfl (by simp [Value.oneCell']) _ (by rfl)
         case c3=>unfold maxLen;omega
         case c4=>omega
         intro a7 c7 w7 g8 gD gL
         have nO:=H5.out.1.size
         have tQ:=HQ.out.1.size
         have lN:=HQ.out.2.2.1.add (H5.out.1.alloc nO _) tQ (H5.out.2.below ((gV _ _).alloc (gQ _) _)) H3.out.2.2.2.1 g8 gD (fun g hg=>by rw [zK];exact gL g hg)
         have eM:Below W.heap.size W w7:=(HQ.out.1.trans ((H5.out.1.alloc nO _).mono tQ)).trans (gD.toBelow (by rw [zK];omega) fun g hg e=>by have:=HQ.out.2.2.1.new g (.inl e);omega)
         have hO7:Own w7 9 1 (.slice (some ⟨g,0,none⟩) nm k1) nm ((kE t []).map str):=HQ.out.2.1.keep fun g o hg ho=>by
          have h1:=zZ ho
          rw [gD.block g (by rw [zK];omega) (fun e=>HQ.out.2.1.unlikeG HQ.out.2.2.1.own uR hg e),Below.heap_alloc _ _ _ (by omega),H5.out.1.block g h1];exact ho
         have H7:=gZ (gK eM (gK hO7 lN))
         clear g8 gD gL lN eM hO7 nO tQ s0 s1
         go_wp2_with fail
         go_roundw
         case rel =>
          refine ⟨j+1,n2+1,c7,a7,ct++[(.slice a8 LU c8,.slice a9 LU c9)],_,rfl,by omega,by go_num,rfl,H7.out.1,H7.out.2.1,?_⟩
          rw [HQ.out.2.2.2,HF.out,if_pos rfl,<- List.append_assoc]
          exact H7.out.2.2
         case measure=>simp [intOf];omega
    ·have iS:¬ (j:Int)<(nm:Int):=by omega
     have HE:=gZ (gK dj (show NxR W.heap.size (uz t v (i+1)) a2 n2 c2 ct wq by
      rw [pX]
      rw [List.take_of_length_le (by rw [HNM.out];omega)] at cr
      exact cr))
     clear dj hO2 cr
     go_wp2_with fail
     go_roundw
     case rel=>exact ⟨i+1,n2,c2,a2,ct,_,rfl,by omega,by go_num,rfl,HE.out.1,HE.out.2⟩
     case measure=>simp [intOf];omega
  ·have bH:¬ (i:Int)<(v.length:Int):=by omega
   obtain rfl:i=v.length:=by omega
   have HE:=gZ (gK hB hN)
   clear hB hN
   go_wp2_with fail
   go_ret
   rw [E.out]
   exact ⟨a,n,c,us,rfl,zzT HW.out.2.1 HE.out.1,HE.out.2.mono HW.out.2.1.size⟩
structure RdR (B:Nat) (L:List Pl) (a:Option Addr) (n c:Nat) (us:List (Value×Value)) (wz:World):Prop where
 len:L.length=n
 ul:us.length=n
 own:Own wz 33 2 (.slice a n c) n (plC us)
 each:∀ (i:Nat) (u:Value×Value) (l:Pl),us[i]? = some u->L[i]? = some l->kG wz l u.1 u.2
 new:∀ g,PlB (.slice a n c) us g->B<=g
theorem NxR.rd {B:Nat} {L:List Pl} {a:Option Addr} {n c:Nat} {us:List (Value×Value)} {w:World} (h:NxR B L a n c us w):RdR B L a n c us w :=
 ⟨h.len,by rw [h.pls.length,h.len],h.own,fun i u l hu hl=>h.pls.play hu hl,h.new⟩
theorem RdR.below {B:Nat} {L:List Pl} {a:Option Addr} {n c:Nat} {us:List (Value×Value)} {w w':World} (h:RdR B L a n c us w) (hb:Below w.heap.size w w'):RdR B L a n c us w' :=
 ⟨h.len,h.ul,h.own.keep fun g o _ ho=>by rw [hb.block g (zZ ho)];exact ho,fun i u l hu hl=>(h.each i u l hu hl).below hb,h.new⟩
theorem RdR.mono {B B':Nat} {L:List Pl} {a:Option Addr} {n c:Nat} {us:List (Value×Value)} {w:World} (h:RdR B L a n c us w) (hb:B'<=B):RdR B' L a n c us w:=⟨h.len,h.ul,h.own,h.each,fun g hg=>gX hb (h.new g hg)⟩
theorem kG.offRow {w w':World} {l:Pl} {mv pt v:Value} {n:Nat} {xs:List Value} (h:kG w l mv pt) (ho:Own w 33 2 v n xs) (hb:But (fun b=>v.ownBlock=some b) w w'):kG w' l mv pt :=
 h.but hb fun g hg e=>hg.elim (fun hg=>h.1.unlikeG ho uR hg e) fun hg=>h.2.unlikeG ho y6 hg e
theorem RdR.off {B:Nat} {L:List Pl} {a:Option Addr} {n c:Nat} {us:List (Value×Value)} {w w':World} (h:RdR B L a n c us w) {v:Value} {m:Nat} {xs:List Value} (ho:Own w 33 2 v m xs) (hb:But (fun b=>v.ownBlock=some b) w w') (hn:∀ g,(Value.slice a n c).ownBlock=some g->v.ownBlock≠some g):RdR B L a n c us w' :=
 ⟨h.len,h.ul,h.own.keep fun g o hg hh=>by rw [hb.block g (zZ hh) (hn g hg)];exact hh,fun i u l hu hl=>(h.each i u l hu hl).offRow ho hb,h.new⟩
theorem RdR.cells {B:Nat} {L:List Pl} {a:Option Addr} {n c:Nat} {us:List (Value×Value)} {w:World} (h:RdR B L a n c us w) {i:Nat} {u:Value×Value} (hu:us[i]? = some u):∃ g,a=some ⟨g,0,none⟩/\w.cell? ⟨g,i*2,none⟩=some u.1/\w.cell? ⟨g,i*2+1,none⟩=some u.2:=by
 obtain ⟨h1,h2⟩:=plC_at us i u hu
 obtain ⟨g,c',e,k1⟩:=h.own.at h1
 obtain ⟨g',c'',e',k2⟩:=h.own.at h2
 simp only [Value.slice.injEq,true_and] at e e'
 obtain ⟨rfl,_⟩:=e
 obtain ⟨e',_⟩:=e'
 simp only [Option.some.injEq,Addr.mk.injEq,and_true] at e'
 obtain rfl:=e'
 exact ⟨g,rfl,k1,k2⟩
theorem RdR.at {B:Nat} {L:List Pl} {a:Option Addr} {n c:Nat} {us:List (Value×Value)} {w:World} (h:RdR B L a n c us w) {i:Nat} (hi:i<n):∃ u l,us[i]? = some u/\L[i]? = some l/\kG w l u.1 u.2:=by
 have h1:us[i]? = some (us[i]'(by rw [h.ul];exact hi)):=List.getElem?_eq_getElem _
 have h2:L[i]? = some (L[i]'(by rw [h.len];exact hi)):=List.getElem?_eq_getElem _
 exact ⟨_,_,h1,h2,h.each i _ _ h1 h2⟩
theorem RdR.one {B:Nat} {L:List Pl} {a:Option Addr} {n c:Nat} {us:List (Value×Value)} {w:World} (h:RdR B L a n c us w):∀ x∈plC us,x.oneCell'=true:=by
 intro x hx
 unfold plC at hx
 rw [List.mem_flatMap] at hx
 obtain ⟨u,hu,hx⟩:=hx
 obtain ⟨i,hi⟩:=List.mem_iff_getElem?.1 hu
 have hl:=(List.getElem?_eq_some_iff.1 hi).1
 have hL:L[i]? = some (L[i]'(by rw [h.len,<- h.ul];exact hl)):=List.getElem?_eq_getElem _
 have hp:=h.each i u _ hi hL
 obtain ⟨a1,c1,e1⟩:=hp.1.slice
 obtain ⟨a2,c2,e2⟩:=hp.2.slice
 simp only [List.mem_cons,List.not_mem_nil,or_false] at hx
 rcases hx with rfl | rfl
 ·rw [e1];rfl
 ·rw [e2];rfl
theorem RdR.cat {B B2:Nat} {L L2:List Pl} {a a2:Option Addr} {n c n2 c2:Nat} {us ct:List (Value×Value)} {w:World} (h:RdR B L a n c us w) (h2:RdR B2 L2 a2 n2 c2 ct w) (hB:B<=B2) (hBw:B<=w.heap.size)
 {a':Option Addr} {c':Nat} {w5:World} (rc:Own w5 33 2 (.slice a' (n+n2) c') (n+n2) (plC us++plC ct)) (gR:But (fun b=>(Value.slice a n c).ownBlock=some b) w w5) (iL:∀ g,(Value.slice a' (n+n2) c').ownBlock=some g->(Value.slice a n c).ownBlock=some g\/g=w.heap.size) :
 RdR B (L++L2) a' (n+n2) c' (us++ct) w5:=by
 refine ⟨by rw [List.length_append,h.len,h2.len],by rw [List.length_append,h.ul,h2.ul],by rw [j0];exact rc,fun i u l hu hl=>?_,fun g hg=>?_⟩
 ·rcases Nat.lt_or_ge i n with hi | hi
  ·rw [List.getElem?_append_left (by rw [h.ul];exact hi)] at hu
   rw [List.getElem?_append_left (by rw [h.len];exact hi)] at hl
   exact (h.each i u l hu hl).offRow h.own gR
  ·rw [List.getElem?_append_right (by rw [h.ul];exact hi),h.ul] at hu
   rw [List.getElem?_append_right (by rw [h.len];exact hi),h.len] at hl
   exact (h2.each _ u l hu hl).offRow h.own gR
 ·rcases hg with hg | ⟨u,hu,hg⟩
  ·rcases iL g hg with hg | hg
   ·exact h.new g (.inl hg)
   ·omega
  ·rcases List.mem_append.1 hu with hu | hu
   ·exact h.new g (.inr ⟨u,hu,hg⟩)
   ·have:=h2.new g (.inr ⟨u,hu,hg⟩);omega
theorem RdR.first (B:Nat) (w:World) (hB:B<=w.heap.size):RdR B [[]] (some ⟨w.heap.size,0,none⟩) 1 1 [(.slice none 0 0,.slice none 0 0)] (w.alloc (.cells #[.slice none 0 0,.slice none 0 0] 33)):=by
 refine ⟨rfl,rfl,Own.lit #[.slice none 0 0,.slice none 0 0] 1 (by unfold maxLen;omega) rfl,fun i u l hu hl=>?_,fun g hg=>?_⟩
 ·cases i with
  | zero =>
    obtain rfl:=Option.some.inj hu
    obtain rfl:=Option.some.inj hl
    exact wo _
  | succ i=>simp at hu
 ·rcases hg with hg | ⟨u,hu,hg⟩
  ·simp [Value.ownBlock] at hg;omega
  ·rw [List.mem_singleton] at hu
   subst hu
   rcases hg with hg | hg <;> simp [Value.ownBlock] at hg
structure ClR (B:Nat) (L:List Pl) (a:Option Addr) (n c i:Nat) (us vs:List (Value×Value)) (wz:World):Prop where
 len:L.length=n
 ul:us.length=n
 vl:vs.length=i
 own:Own wz 33 2 (.slice a n c) n (plC (vs++us.drop i))
 each:∀ (k:Nat) (u:Value×Value) (l:Pl),us[k]? = some u->L[k]? = some l->kG wz l u.1 u.2
 done:∀ (k:Nat) (u:Value×Value) (l:Pl),vs[k]? = some u->L[k]? = some l->kG wz l u.1 u.2
 apart:∀ (i j:Nat) (u u':Value×Value),i≠j->vs[i]? = some u->vs[j]? = some u'->∀ g,(u.1.ownBlock=some g->u'.1.ownBlock≠some g)/\(u.2.ownBlock=some g->u'.2.ownBlock≠some g)
 row:∀ g,(Value.slice a n c).ownBlock=some g->B<=g
 new:∀ u∈vs,∀ g,u.1.ownBlock=some g\/u.2.ownBlock=some g->B<=g
theorem RdR.cl {B:Nat} {L:List Pl} {a:Option Addr} {n c:Nat} {us:List (Value×Value)} {w:World} (h:RdR B L a n c us w):ClR B L a n c 0 us [] w :=
 ⟨h.len,h.ul,rfl,h.own,h.each,fun k u l hu _=>by simp at hu,fun i j u u' _ hu=>by simp at hu,fun g hg=>h.new g (.inl hg),fun u hu=>by simp at hu⟩
theorem ClR.nx {B:Nat} {L:List Pl} {a:Option Addr} {n c:Nat} {us vs:List (Value×Value)} {w:World} (h:ClR B L a n c n us vs w):NxR B L a n c vs w:=by
 have ho:=h.own
 rw [List.drop_of_length_le (by rw [h.ul];exact gQ _),List.append_nil] at ho
 refine ⟨h.len,⟨by rw [h.vl];exact ho,by rw [h.vl,List.length_map,h.len],fun i u x hu hx=>?_,h.apart⟩,fun g hg=>?_⟩
 ·rw [List.getElem?_map,Option.map_eq_some_iff] at hx
  obtain ⟨l,hl,rfl⟩:=hx
  have hp:=h.done i u l hu hl
  have lM:(plX l).1.length=l.length:=by simp [plX,ju]
  have lP:(plX l).2.length=l.length:=by simp [plX,jv]
  rw [lM,lP];exact hp
 ·rcases hg with hg | ⟨u,hu,hg⟩
  ·exact h.row g hg
  ·exact h.new u hu g hg
theorem ClR.at {B:Nat} {L:List Pl} {a:Option Addr} {n c i:Nat} {us vs:List (Value×Value)} {w:World} (h:ClR B L a n c i us vs w) (hi:i<n):∃ u l,us[i]? = some u/\L[i]? = some l/\kG w l u.1 u.2:=by
 have h1:us[i]? = some (us[i]'(by rw [h.ul];exact hi)):=List.getElem?_eq_getElem _
 have h2:L[i]? = some (L[i]'(by rw [h.len];exact hi)):=List.getElem?_eq_getElem _
 exact ⟨_,_,h1,h2,h.each i _ _ h1 h2⟩
theorem ClR.cells {B:Nat} {L:List Pl} {a:Option Addr} {n c i:Nat} {us vs:List (Value×Value)} {w:World} (h:ClR B L a n c i us vs w) {u:Value×Value} (hu:us[i]? = some u):∃ g,a=some ⟨g,0,none⟩/\w.cell? ⟨g,i*2,none⟩=some u.1/\w.cell? ⟨g,i*2+1,none⟩=some u.2:=by
 have dQ:(vs++us.drop i)[i]? = some u:=by
  have hv:=h.vl
  rw [List.getElem?_append_right (by omega),List.getElem?_drop,hv,Nat.sub_self,Nat.add_zero];exact hu
 obtain ⟨h1,h2⟩:=plC_at _ i u dQ
 obtain ⟨g,c',e,k1⟩:=h.own.at h1
 obtain ⟨g',c'',e',k2⟩:=h.own.at h2
 simp only [Value.slice.injEq,true_and] at e e'
 obtain ⟨rfl,_⟩:=e
 obtain ⟨e',_⟩:=e'
 simp only [Option.some.injEq,Addr.mk.injEq,and_true] at e'
 obtain rfl:=e'
 exact ⟨g,rfl,k1,k2⟩
theorem Own.put2 {w:World} {e:TypeId} {g n c:Nat} {xs:List Value} (h:Own w e 2 (.slice (some ⟨g,0,none⟩) n c) n xs) (j:Nat) (u:Value):Own (w.setCell ⟨g,j,none⟩ u) e 2 (.slice (some ⟨g,0,none⟩) n c) n (xs.set j u):=by
 obtain ⟨hl,⟨h0,_⟩ | ⟨g',cap,cur,hv,h0,hg,mH,sH,hcs,cO⟩⟩:=h
 ·cases h0
 ·simp only [Value.slice.injEq,Option.some.injEq,Addr.mk.injEq] at hv
  obtain ⟨⟨rfl,_,_⟩,_,rfl⟩:=hv
  refine ⟨by simpa using hl,.inr ⟨g,c,cur.setIfInBounds j u,rfl,h0,kO hg,mH,sH,by simpa using hcs,?_⟩⟩
  rw [Array.toList_setIfInBounds,<- cO,List.take_set]
theorem Own.open2 {w:World} {e:TypeId} {g n c:Nat} {xs:List Value} (h:Own w e 2 (.slice (some ⟨g,0,none⟩) n c) n xs) {j:Nat} (hj:j<n*2):w.frozen? ⟨g,j,none⟩=false/\∃ u,w.cell? ⟨g,j,none⟩=some u:=by
 obtain ⟨hl,⟨h0,_⟩ | ⟨g',cap,cur,hv,_,hg,mH,_,hcs,cO⟩⟩:=h
 ·cases h0
 ·simp only [Value.slice.injEq,Option.some.injEq,Addr.mk.injEq] at hv
  obtain ⟨⟨rfl,_,_⟩,_,rfl⟩:=hv
  have:j<cur.size:=by omega
  exact ⟨by simp [World.frozen?,hg],cur[j],by simp [World.cell?,hg,this]⟩
theorem plC_put (vs us:List (Value×Value)) (u:Value×Value) (h:vs.length<us.length):((plC (vs++us.drop vs.length)).set (vs.length*2) u.1).set (vs.length*2+1) u.2=plC ((vs++[u])++us.drop (vs.length+1)):=by
 have hl:=pJ vs
 have hd:us.drop vs.length=us[vs.length]::us.drop (vs.length+1):=(List.drop_eq_getElem_cons h)
 rw [hd,j0,yg,List.append_assoc,j0,j0,show plC [u]=[u.1,u.2] from rfl]
 rw [<- hl,List.set_append_right _ _ (gQ _),Nat.sub_self,List.set_cons_zero,List.set_append_right _ _ (by omega),Nat.add_sub_cancel_left]
 rfl
theorem ClR.put {B:Nat} {L:List Pl} {g n c i:Nat} {us vs:List (Value×Value)} {w W:World} (h:ClR B L (some ⟨g,0,none⟩) n c i us vs w) (hi:i<n) (hB:Below w.heap.size w W) (hBB:B<=w.heap.size) {l:Pl} (hL:L[i]? = some l) {mv pt:Value} (hp:kG W l mv pt) (hn:∀ g,mv.ownBlock=some g\/pt.ownBlock=some g->w.heap.size<=g) :
 ClR B L (some ⟨g,0,none⟩) n c (i+1) us (vs++[(mv,pt)]) ((W.setCell ⟨g,i*2,none⟩ mv).setCell ⟨g,i*2+1,none⟩ pt):=by
 have nh:Own W 33 2 (.slice (some ⟨g,0,none⟩) n c) n (plC (vs++us.drop i)):=h.own.keep fun g o _ ho=>by rw [hB.block g (zZ ho)];exact ho
 have gg:But (fun b=>(Value.slice (some ⟨g,0,none⟩) n c).ownBlock=some b) W ((W.setCell ⟨g,i*2,none⟩ mv).setCell ⟨g,i*2+1,none⟩ pt):=((But.refl (fun b=>(Value.slice (some ⟨g,0,none⟩) n c).ownBlock=some b) W).setCell (p:=⟨g,i*2,none⟩) (.inl rfl) _).setCell (p:=⟨g,i*2+1,none⟩) (.inl rfl) _
 have fI:=(nh.put2 (i*2) mv).put2 (i*2+1) pt
 have eN:=h.vl
 refine ⟨h.len,h.ul,by rw [List.length_append,eN];rfl,?_,fun k u l hu hl=>?_,fun k u l' hu hl=>?_,fun k j u u' hkj hu dQ g'=>?_,h.row,fun u hu g' hg=>?_⟩
 ·subst eN
  rw [plC_put vs us (mv,pt) (by rw [h.ul];exact hi)] at fI
  exact fI
 ·exact ((h.each k u l hu hl).below hB).offRow nh gg
 ·rcases Nat.lt_or_ge k vs.length with hk | hk
  ·rw [List.getElem?_append_left hk] at hu
   exact ((h.done k u l' hu hl).below hB).offRow nh gg
  ·rw [List.getElem?_append_right hk] at hu
   have eY:k-vs.length=0:=by have:=(List.getElem?_eq_some_iff.1 hu).1;simp at this;omega
   rw [eY] at hu
   obtain rfl:=Option.some.inj hu
   obtain rfl:k=i:=by omega
   rw [hL] at hl
   obtain rfl:=Option.some.inj hl
   exact hp.offRow nh gg
 ·have old:∀ q x,q<vs.length->(vs++[(mv,pt)])[q]? = some x->∀ g',(x.1.ownBlock=some g'\/x.2.ownBlock=some g')->g'<w.heap.size:=fun q x hq hx g' gf=>by
   rw [List.getElem?_append_left hq] at hx
   have hqn:q<L.length:=by rw [h.len];omega
   have hp:=h.done q x _ hx (List.getElem?_eq_getElem hqn)
   exact gf.elim (fun e=>hp.1.lt e) fun e=>hp.2.lt e
  have new:∀ q x,vs.length<=q->(vs++[(mv,pt)])[q]? = some x->q=vs.length/\x=(mv,pt):=fun q x hq hx=>by
   have h2:=(List.getElem?_eq_some_iff.1 hx).1
   rw [List.length_append,List.length_singleton] at h2
   obtain rfl:q=vs.length:=by omega
   rw [List.getElem?_append_right (gQ _),Nat.sub_self] at hx
   exact ⟨rfl,(Option.some.inj hx).symm⟩
  rcases Nat.lt_or_ge k vs.length with hk | hk <;> rcases Nat.lt_or_ge j vs.length with hj | hj
  ·rw [List.getElem?_append_left hk] at hu
   rw [List.getElem?_append_left hj] at dQ
   exact h.apart k j u u' hkj hu dQ g'
  ·obtain ⟨_,rfl⟩:=new j u' hj dQ
   refine ⟨fun e e'=>?_,fun e e'=>?_⟩
   ·have h1:=old k u hk hu g' (.inl e);have h2:=hn g' (.inl e');omega
   ·have h1:=old k u hk hu g' (.inr e);have h2:=hn g' (.inr e');omega
  ·obtain ⟨_,rfl⟩:=new k u hk hu
   refine ⟨fun e e'=>?_,fun e e'=>?_⟩
   ·have h1:=old j u' hj dQ g' (.inl e');have h2:=hn g' (.inl e);omega
   ·have h1:=old j u' hj dQ g' (.inr e');have h2:=hn g' (.inr e);omega
  ·obtain ⟨rfl,_⟩:=new k u hk hu
   obtain ⟨rfl,_⟩:=new j u' hj dQ
   exact absurd rfl hkj
 ·rcases List.mem_append.1 hu with hu | hu
  ·exact h.new u hu g' hg
  ·rw [List.mem_singleton] at hu
   subst hu
   have:=hn g' hg;omega
def k_ (t:Ty) (b:Bd):Nat->List Pl
 | 0=>[[]]
 | r+1=>v7 t b r
def fAt (t:Ty) (b:Bd) (r:Nat) (v:Pl):List Pl:=if r=0 then jL t v else stepL t b v
theorem last_flat (t:Ty) (b:Bd):∀ r,v7 t b r=(k_ t b r).flatMap (fAt t b r)
 | 0=>by simp [v7,k_,fAt]
 | r+1=>by
   rw [v7,k_]
   congr 1
theorem prev_in {t:Ty} {b:Bd} (gA:zY t<=15) (hf:zm t.args b) (hw:wfB b) (r:Nat) (hr:r<=20) (u:Pl) (hu:u∈k_ t b r):InPl t b u/\(r=0/\u=[]\/0<r/\u.length+1=2*r):=by
 cases r with
 | zero =>
   rw [k_,List.mem_singleton] at hu
   subst hu
   exact ⟨in_nil t b,.inl ⟨rfl,rfl⟩⟩
 | succ r =>
   obtain ⟨h1,h2⟩:=last_in gA hf hw r (by omega) u hu
   exact ⟨h1,.inr ⟨by omega,by omega⟩⟩
theorem flat_next {t:Ty} {b:Bd} {r j:Nat} {v:Pl} (h:(k_ t b r)[j]? = some v):((k_ t b r).take (j+1)).flatMap (fAt t b r)=((k_ t b r).take j).flatMap (fAt t b r)++fAt t b r v:=flat_take h _
def vS (o:Option (List Pl)) (w:World) (en:Ending) (w':World):Prop :=
 ∃ a n c us,en=.returned (.tuple #[.slice a n c,.bool o.isSome])/\Below w.heap.size w w'/\NxR w.heap.size (o.getD []) a n c us w'
theorem vS.none {w w':World} (hb:Below w.heap.size w w'):vS none w (.returned (.tuple #[.slice .none 0 0,.bool false])) w':=⟨_,_,_,[],rfl,hb,NxR.nil _ _⟩
theorem plays_over {s text:Bs} {b:Bd} {n:Int} (h:zX s text=some b) (h0:¬ n<0) (h8:¬ 8<n) {r k:Nat} (hr:r+1<=(n.toNat+1) / 2) (hk:300<(jZ (zQ s).1 b r).length+(((k_ (zQ s).1 b r).take k).flatMap (fAt (zQ s).1 b r)).length):kL s text n=none:=by
 unfold kL
 rw [h]
 simp only
 rw [if_neg (by omega)]
 have h1:=flat_take_le (k_ (zQ s).1 b r) (fAt (zQ s).1 b r) k
 have h2:=outAt_mono (zQ s).1 b hr
 rw [jZ,List.length_append,last_flat] at h2
 rw [if_pos (by omega)]
theorem plays_done {s text:Bs} {b:Bd} {n:Int} (h:zX s text=some b) (h0:¬ n<0) (h8:¬ 8<n) {r:Nat} (hr:r=(n.toNat+1) / 2) (hk:(jZ (zQ s).1 b r).length<=300):kL s text n=some (jZ (zQ s).1 b r):=by
 subst hr
 unfold kL
 rw [h]
 simp only
 rw [if_neg (by omega),if_neg (by omega)]
theorem plays_no {s text:Bs} (h:zX s text=none) (n:Int):kL s text n=none:=by unfold kL;rw [h]
theorem plays_off {s text:Bs} {b:Bd} {n:Int} (h:zX s text=some b) (h0:n<0\/8<n):kL s text n=none:=by
 unfold kL
 rw [h]
 simp only
 rw [if_pos h0]
theorem xO {t:Ty} (gA:zY t<=15) {v:Pl} (h:zS t v=true):∀ x∈v,Lim x.1.length:=by
 intro x hx
 obtain ⟨i,hi⟩:=List.mem_iff_getElem?.1 hx
 have hl:=(List.getElem?_eq_some_iff.1 hi).1
 obtain ⟨c,p,z,hv,ho⟩:=kp h hl
 rw [hv] at hi
 obtain rfl:=Option.some.inj hi
 obtain ⟨a,ha⟩:=ho.hp
 have:=qy _ _ _ ha
 show (c::p).length<=_
 rw [List.length_cons];omega
set_option maxRecDepth 100000 in
theorem uE (s text:Bs) (n:Int) (w:World) (hg:qE w) (hs:Lim s.length) (ht:Lim text.length) :
 Calls Tryz.prog 11 #[str s,str text,.int .i64 n] w (vS (kL s text n) w):=by
 have C:=gZ (jr s text w hg hs ht)
 have HGW:=gZ hg
 clear hs ht hg
 go_enter Tryz.func11,Tryz.ntmps11
 go_wp2_with fail
 (with_reducible refine C.out.mono ?_)
 rintro en w1 ⟨kv,bv,rfl,gW,gq,gx⟩
 clear C
 cases hq:uD s text with
 | none =>
   obtain rfl:=gq hq
   rw [vm,Option.map_eq_none_iff] at hq
   have E:=gZ (plays_no hq n)
   have HB:=gZ gW
   clear gq gx hq gW
   go_wp2_with fail
   go_ret2
   rw [E.out]
   exact vS.none HB.out
 | some tb =>
   obtain ⟨t,b⟩:=tb
   obtain ⟨rk,rb⟩:=gx t b hq
   rw [vm,Option.map_eq_some_iff] at hq
   obtain ⟨b',hq,e⟩:=hq
   simp only [Prod.mk.injEq] at e
   obtain ⟨et,eb⟩:=e
   rw [eb] at hq
   clear eb
   have cd:=(kN hq).1
   rw [et] at cd
   obtain ⟨ka,ks,rfl,_⟩:=zR rk
   obtain ⟨ba,rfl⟩:=kV rb
   by_cases h0:n<0
   ·have E:=gZ (plays_off hq (.inl h0))
    have HB:=gZ gW
    clear gq gx hq gW et rk rb cd
    go_wp2_with fail
    go_ret2
    rw [E.out]
    exact vS.none HB.out
   by_cases h8:8<n
   ·have E:=gZ (plays_off hq (.inr h8))
    have HB:=gZ gW
    clear gq gx hq gW et rk rb cd
    go_wp2_with fail
    go_ret2
    rw [E.out]
    exact vS.none HB.out
   obtain ⟨N,rfl⟩:∃ N:Nat,n=(N:Int):=⟨n.toNat,by omega⟩
   have hN8:N<=8:=by omega
   have rk':Rep (fun _=>True) w1 (qS t) (.pointer (some ⟨ka,0,none⟩)):=(Rep.keep fun i o _ ho=>⟨trivial,ho⟩).1 _ _ rk
   have rb':Rep (fun _=>True) w1 (ke b) (.pointer (some ⟨ba,0,none⟩)):=(Rep.keep fun i o _ ho=>⟨trivial,ho⟩).1 _ _ rb
   have HG:=gZ (gK (HGW.out.below gW) (gK rk' (gK gW cd)))
   have HRB:=gZ rb'
   have rA:Hid (∀ r k,r+1<=(N+1) / 2->300<(jZ t b r).length+(((k_ t b r).take k).flatMap (fAt t b r)).length->kL s text (N:Int)=none):=gZ (fun r k h1 h2=>by
    have h3:=plays_over hq h0 h8 (r:=r) (k:=k) (by rw [Int.toNat_natCast];exact h1)
    rw [et] at h3
    exact h3 h2)
   have l8:Hid (∀ r,r=(N+1) / 2->(jZ t b r).length<=300->kL s text (N:Int)=some (jZ t b r)):=gZ (fun r h1 h2=>by
    have h3:=plays_done hq h0 h8 (r:=r) (by rw [Int.toNat_natCast];exact h1)
    rw [et] at h3
    exact h3 h2)
   have h0N:¬ (N:Int)<0:=h0
   have h8N:¬ (8:Int)<(N:Int):=h8
   have HLEN:=gZ (fun r (hr:r<=4) u (hu:u∈jZ t b r)=>show u.length<=8 from by have:=(pY cd.atoms cd.fit cd.wf r (by omega) u hu).2.1;omega)
   have l7:=gZ (fun r (hr:r<=20) u (hu:u∈k_ t b r)=>prev_in cd.atoms cd.fit cd.wf r hr u hu)
   clear gq gx hq gW et rk rb rk' rb' cd h0 h8
   go_wp2_with fail
   go_loopw [10,11,12] (fun o l x wr=>∃ (r n1 c1:Nat) (a1:Option Addr) (mE:List (Value×Value)) (n2 c2:Nat) (a2:Option Addr) (ct:List (Value×Value)) (wz:World),wz=wr/\r<=(N+1) / 2/\x=.int .i64 ((2*r+1:Nat):Int)/\o=.slice a1 n1 c1/\l=.slice a2 n2 c2/\n1<=300/\n2<=300/\Below w1.heap.size w1 wz/\RdR w1.heap.size (jZ t b r) a1 n1 c1 mE wz/\RdR w1.heap.size (k_ t b r) a2 n2 c2 ct wz) (fun _ _ x _=>40-(intOf x).toNat)
   case atStart =>
    have f1:=RdR.first w1.heap.size w1 (gQ _)
    have f2:=RdR.first w1.heap.size (w1.alloc (.cells #[.slice none 0 0,.slice none 0 0] 33)) (by rw [zK];omega)
    rw [zK] at f2
    have hb:=(gV w1.heap.size w1).alloc (gQ _) (.cells #[.slice none 0 0,.slice none 0 0] 33)
    exact ⟨0,1,1,_,_,1,1,_,_,_,rfl,Nat.zero_le _,rfl,rfl,rfl,by omega,by omega,hb.alloc hb.size _,f1.below ((gV _ _).alloc (gQ _) _),f2⟩
   case round =>
    obtain ⟨r,n1,c1,a1,mE,n2,c2,a2,ct,wr,rfl,hr,rfl,rfl,rfl,gq,bR,hB,hO,hP⟩:=hrel
    have HO:=gZ (gK hr (gK gq (gK hB (gK hO hP))))
    have fV:r<=4:=by omega
    clear hB hO hP
    by_cases gH:2*r+1<=N
    ·have bH:((2*r+1:Nat):Int)<=(N:Int):=by omega
     have nd:2*(r:Int)+1<=(N:Int):=by omega
     obtain ⟨X,hX⟩:=zzN (2*r+1)
     rw [hX] at bH ⊢
     have HX:=gZ hX
     have gp:=gZ (show r+1<=(N+1) / 2 by omega)
     clear hX hr nd
     go_wp2_with fail
     go_loopw [13,47] (fun o x wr'=>∃ (j m c3:Nat) (a3:Option Addr) (s7:List (Value×Value)) (wz:World),wz=wr'/\j<=n2/\x=.int .i64 j/\o=.slice a3 m c3/\n1+m<=300/\Below wr.heap.size wr wz/\RdR wr.heap.size (((k_ t b r).take j).flatMap (fAt t b r)) a3 m c3 s7 wz) (fun _ x _=>n2-(intOf x).toNat)
     case atStart=>exact ⟨0,0,0,none,[],_,rfl,Nat.zero_le _,rfl,rfl,by omega,gV _ _,by rw [List.take_zero];exact (NxR.nil _ _).rd⟩
     case round =>
      obtain ⟨j,m,c3,a3,s7,wq,rfl,hj,rfl,rfl,rt,rW,hRq⟩:=hrel
      have HQ:=gZ (gK rW hRq)
      have hPq:=HO.out.2.2.2.2.below rW
      clear hRq rW
      by_cases hjt:j<n2
      ·have iS:(j:Int)<(n2:Int):=by omega
       obtain ⟨u,l,hu,hl,gO⟩:=hPq.at hjt
       obtain ⟨g,rfl,k1,k2⟩:=hPq.cells hu
       obtain ⟨lv,lc,e1⟩:=gO.1.slice
       obtain ⟨lp,ld,e2⟩:=gO.2.slice
       obtain ⟨bQ,hcs⟩:=l7.out r (by omega) l (List.mem_of_getElem? hl)
       have e_:=gZ (flat_next hl)
       rw [e1] at k1 gO;rw [e2] at k2 gO
       obtain ⟨W3,cR,cC,cb,x15⟩:=qC wq (.cells #[.slice lv l.length lc,.slice lp l.length ld] 33)
       obtain ⟨q0,q1,f0,f1⟩:=zT x15
       have H3:=gZ (gK cR (gK cC (gK (gO.below cC) (gK x15 cb))))
       have HIL:=gZ bQ
       have rT:=gZ (xO HG.out.2.2.2.atoms bQ.ok)
       clear hPq hu hl gO e1 e2 bQ cR cC cb x15
       rcases hcs with ⟨ez,hl0⟩ | ⟨ez,hl0⟩
       ·subst hl0
        have fZ:=gZ (show ∀ x∈([]:Pl),Lim x.1.length from fun x hx=>by simp at hx)
        have li:=gZ (show ([]:Pl).length<=58 from Nat.zero_le _)
        have sm:=gZ (show ((k_ t b r).take (j+1)).flatMap (fAt t b r)=((k_ t b r).take j).flatMap (fAt t b r)++jL t [] by rw [e_.out];unfold fAt;rw [if_pos ez])
        have sI:X=1:=by have:=HX.out;omega
        have hXI:¬ (1:Int)<(X:Int):=by omega
        have HW0:=gZ (show wq.alloc (.cells #[.slice lv 0 lc,.slice lp 0 ld] 33)=W3 from H3.out.1)
        have rO:W3.cell? ⟨wq.heap.size,0,none⟩=some (.slice lv 0 lc):=q0
        have s9:W3.cell? ⟨wq.heap.size,1,none⟩=some (.slice lp 0 ld):=q1
        clear sI e_ rT HIL ez q0 q1
        go_upto_region 13 with (fail)
        rw [HW0.out]
        have sR:=HO.out.2.2.1.trans ((zzT HQ.out.1 H3.out.2.1).mono HO.out.2.2.1.size)
        have C5:=gZ (next_any (fun _=>True) t ([]:Pl) (.pointer (some ⟨ka,0,none⟩)) (.slice lv 0 lc) (.slice lp 0 ld) W3 (HG.out.1.below sR) (Rep.below sR (fun _ h=>h) HG.out.2.1) (H3.out.2.2.1.mv fun _ _=>trivial).1 (H3.out.2.2.1.mv fun _ _=>trivial).2 HG.out.2.2.2.atoms (by have:=li.out;omega) fZ.out)
        clear sR
        unfold PlsQ at C5
        go_wp2_with fail
        (with_reducible refine C5.out.mono ?_)
        rintro en w6 ⟨a6,m6,c6,us6,rfl,gB,sO⟩
        have f8:=zzT H3.out.2.1 gB
        have hm6:m6<=1450:=by have h1:=nextL_len HG.out.2.2.2.atoms (([]:Pl));have h2:=sO.len;have h3:=li.out;omega
        have H6:=gZ (gK f8 sO.rd)
        clear gB sO f8 C5
        go_wp2_with (at_builtin;refine zB rfl _ _ 26 rfl 33 (.agg #[.slice none 0 0,.slice none 0 0]) 2 48 Tryz.underlying26 Tryz.infoPlay rfl (by decide) (.slice a3 m c3) m (plC s7) rfl ?c1 (.slice a6 m6 c6) m6 (plC us6) rfl ?c2 ?c3 ?c4 ?_)
        case c1=>exact (HQ.out.2.below H6.out.1).own
        case c2=>exact zN.ofOwn H6.out.2.own H6.out.2.one
        case c3=>unfold maxLen;omega
        case c4=>omega
        intro a7 c7 w7 g8 gD gL
        have eC:=(HQ.out.2.below H6.out.1).cat H6.out.2 (gX HQ.out.1.size H3.out.2.1.size) (gX HQ.out.1.size H6.out.1.size) g8 gD gL
        have eM:Below wr.heap.size wr w7:=(zzT HQ.out.1 H6.out.1).trans (gD.toBelow (gX HQ.out.1.size H6.out.1.size) fun g hg e=>by have:=HQ.out.2.new g (.inl e);omega)
        rw [<- sm.out] at eC
        have dl:=eC.len
        obtain ⟨M3,lR⟩:=zzN (m+m6)
        rw [lR] at eC dl ⊢
        have H7:=gZ (gK eM (gK eC dl))
        have hM3b:M3<=2000:=by omega
        clear g8 gD gL eC eM lR dl
        by_cases cE:300<n1+M3
        ·have h3I:(300:Int)<(n1:Int)+(M3:Int):=by omega
         have HE:=gZ (rA.out r (j+1) (by have:=HO.out;omega) (by rw [H7.out.2.2,HO.out.2.2.2.1.len];exact cE))
         clear cE
         go_wp2_with fail
         go_ret2
         rw [HE.out]
         exact vS.none (HG.out.2.2.1.trans ((zzT HO.out.2.2.1 H7.out.1).mono HG.out.2.2.1.size))
        ·have h3I:¬ (300:Int)<(n1:Int)+(M3:Int):=by omega
         have h3N:=gZ (show n1+M3<=300 by omega)
         clear cE
         go_wp2_with fail
         go_roundw
         case rel=>exact ⟨j+1,M3,c7,a7,_,_,rfl,by omega,by go_num,rfl,h3N.out,H7.out.1,H7.out.2.1⟩
         case measure=>simp [intOf];omega
       ·have hXI:(1:Int)<(X:Int):=by have:=HX.out;omega
        have sq:=HQ.out.1
        have hB3:=zzT sq H3.out.2.1
        have co:l.length % 2=1:=by omega
        have cp:l.length<=7:=by omega
        have C4:=gZ (reply_any (fun _=>True) t b l (l.length-1) (.pointer (some ⟨ka,0,none⟩)) (.pointer (some ⟨ba,0,none⟩)) (.slice lv l.length lc) (.slice lp l.length ld) W3 (HG.out.1.below (zzT HO.out.2.2.1 hB3)) (Rep.below (zzT HO.out.2.2.1 hB3) (fun _ h=>h) HG.out.2.1) (Rep.below (zzT HO.out.2.2.1 hB3) (fun _ h=>h) HRB.out) ⟨(H3.out.2.2.1.mv fun _ _=>trivial).1,(H3.out.2.2.1.mv fun _ _=>trivial).2,HIL.out.ok,rT.out⟩ HG.out.2.2.2.atoms HG.out.2.2.2.fit HG.out.2.2.2.wf (by omega) (by omega) (fun i hi ho=>HIL.out.fo i (by omega) ho))
        have tg:Hid (jY t b l=none/\fAt t b r l=[]\/∃ x,jY t b l=some (l++[x])/\fAt t b r l=jL t (l++[x])/\InPl t b (l++[x])):=gZ (by
         unfold fAt stepL
         rw [if_neg (by omega)]
         unfold jY
         rw [if_neg (by omega)]
         cases hx:kt t b l l.length with
         | none=>exact .inl ⟨rfl,rfl⟩
         | some x=>exact .inr ⟨x,rfl,rfl,xi HG.out.2.2.2.atoms HG.out.2.2.2.fit HG.out.2.2.2.wf HIL.out co (by omega) hx⟩)
        have HLW:=gZ cp
        clear sq hB3 co cp ez hl0
        obtain ⟨o,ho⟩:=zzN (jY t b l)
        rw [ho] at C4 tg
        clear ho
        unfold PlQ at C4
        rcases tg.out with ⟨ho,hf⟩ | ⟨x,ho,hf,bQ⟩
        ·subst ho
         have sm:=gZ (show ((k_ t b r).take (j+1)).flatMap (fAt t b r)=((k_ t b r).take j).flatMap (fAt t b r) by rw [e_.out,hf,List.append_nil])
         clear hf tg e_
         go_upto_region 13 with (fail)
         rw [H3.out.1]
         go_wp2_with fail
         (with_reducible refine C4.out.mono ?_)
         rintro en w4 ⟨a4,c4,a5,c5,rfl,gS,bN,tR⟩
         have H4:=gZ (HQ.out.1.trans ((zzT H3.out.2.1 gS).mono HQ.out.1.size))
         have H4q:=gZ (zzT H3.out.2.1 gS)
         obtain ⟨W5,f_,dI,nO,x16⟩:=qC w4 (.cells #[.slice a4 0 c4,.slice a5 0 c5] 33)
         have H5:=gZ (gK f_ (gK (zzT H4.out dI) (zzT H4q.out dI)))
         clear gS bN tR f_ dI nO x16 C4 q0 q1 f0 f1
         go_upto_region 15 with (fail)
         rw [H5.out.1]
         go_wp2_with fail
         go_roundw
         case rel=>exact ⟨j+1,m,c3,a3,s7,_,rfl,by omega,by go_num,rfl,rt,H5.out.2.1,by rw [sm.out];exact HQ.out.2.below H5.out.2.2⟩
         case measure=>simp [intOf];omega
        ·subst ho
         have sm:=gZ (show ((k_ t b r).take (j+1)).flatMap (fAt t b r)=((k_ t b r).take j).flatMap (fAt t b r)++jL t (l++[x]) by rw [e_.out,hf])
         have fZ:=gZ (xO HG.out.2.2.2.atoms bQ.ok)
         have li:=gZ (show (l++[x]).length<=58 by rw [List.length_append,List.length_singleton];have:=HLW.out;omega)
         have fh:(l++[x]).length=l.length+1:=by rw [List.length_append];rfl
         clear hf tg e_ bQ
         go_upto_region 13 with (fail)
         rw [H3.out.1]
         go_wp2_with fail
         (with_reducible refine C4.out.mono ?_)
         rintro en w4 ⟨a4,c4,a5,c5,rfl,gS,bN,tR⟩
         rw [Option.getD_some] at bN ⊢
         rw [fh] at bN ⊢
         have dO:=zzT H3.out.2.1 gS
         obtain ⟨W5,f_,dI,nO,x16⟩:=qC w4 (.cells #[.slice a4 (l.length+1) c4,.slice a5 (l.length+1) c5] 33)
         have i8:Below wq.heap.size wq W5:=zzT dO dI
         have y15:=(dI.block _ (zZ ((gS.block _ (zZ H3.out.2.2.2.1)).trans H3.out.2.2.2.1))).trans ((gS.block _ (zZ H3.out.2.2.2.1)).trans H3.out.2.2.2.1)
         obtain ⟨z0,z1,_,_⟩:=zT x16
         have dm:=bN.below dI
         have H5:=gZ (gK f_ (gK i8 (gK dm (gK y15 (show wq.heap.size<w4.heap.size from by have:=zZ ((gS.block _ (zZ H3.out.2.2.2.1)).trans H3.out.2.2.2.1);exact this)))))
         clear gS bN tR f_ dI nO x16 C4 q0 q1 f0 f1 dO i8 y15 dm fh
         go_upto_region 15 with (fail)
         rw [H5.out.1]
         obtain ⟨q0,q1,f0,f1⟩:=zT H5.out.2.2.2.1
         go_upto_region 17 with (fail)
         obtain ⟨W6,lC⟩:=zzN ((W5.setCell ⟨wq.heap.size,0,none⟩ (.slice a4 (l.length+1) c4)).setCell ⟨wq.heap.size,1,none⟩ (.slice a5 (l.length+1) c5))
         have x6:W6.heap[wq.heap.size]? = some (.cells #[.slice a4 (l.length+1) c4,.slice a5 (l.length+1) c5] 33 (0,0)):=by rw [<- lC];exact yj H5.out.2.2.2.1 _ _
         have gB:Below wq.heap.size wq W6:=by rw [<- lC];exact (H5.out.2.1.setCell (p:=⟨wq.heap.size,0,none⟩) (gQ _) _).setCell (p:=⟨wq.heap.size,1,none⟩) (gQ _) _
         have rQ:But (fun i=>i=wq.heap.size) W5 W6:=by rw [<- lC];exact ((But.refl (fun i=>i=wq.heap.size) W5).setCell (p:=⟨wq.heap.size,0,none⟩) (.inl rfl) _).setCell (p:=⟨wq.heap.size,1,none⟩) (.inl rfl) _
         have hp6:kG W6 (l++[x]) (.slice a4 (l.length+1) c4) (.slice a5 (l.length+1) c5):=H5.out.2.2.1.but rQ fun g hg e=>by
          exact H5.out.2.2.1.notBox H5.out.2.2.2.1 (by decide) (by decide) g hg e
         rw [lC]
         have HZ:=gZ (gK gB hp6)
         clear q0 q1 f0 f1 z0 z1
         obtain ⟨q0,q1,_,_⟩:=zT x6
         clear lC gB rQ hp6 x6
         have sR:=HO.out.2.2.1.trans ((zzT HQ.out.1 HZ.out.1).mono HO.out.2.2.1.size)
         have C5:=gZ (next_any (fun _=>True) t (l++[x]) (.pointer (some ⟨ka,0,none⟩)) (.slice a4 (l.length+1) c4) (.slice a5 (l.length+1) c5) W6 (HG.out.1.below sR) (Rep.below sR (fun _ h=>h) HG.out.2.1) (HZ.out.2.mv fun _ _=>trivial).1 (HZ.out.2.mv fun _ _=>trivial).2 HG.out.2.2.2.atoms (by have:=li.out;omega) fZ.out)
         clear sR
         unfold PlsQ at C5
         go_wp2_with fail
         (with_reducible refine C5.out.mono ?_)
         rintro en w6 ⟨a6,m6,c6,us6,rfl,gB,sO⟩
         have f8:=zzT HZ.out.1 gB
         have hm6:m6<=1450:=by have h1:=nextL_len HG.out.2.2.2.atoms ((l++[x]));have h2:=sO.len;have h3:=li.out;omega
         have H6:=gZ (gK f8 sO.rd)
         clear gB sO f8 C5
         go_wp2_with (at_builtin;refine zB rfl _ _ 26 rfl 33 (.agg #[.slice none 0 0,.slice none 0 0]) 2 48 Tryz.underlying26 Tryz.infoPlay rfl (by decide) (.slice a3 m c3) m (plC s7) rfl ?c1 (.slice a6 m6 c6) m6 (plC us6) rfl ?c2 ?c3 ?c4 ?_)
         case c1=>exact (HQ.out.2.below H6.out.1).own
         case c2=>exact zN.ofOwn H6.out.2.own H6.out.2.one
         case c3=>unfold maxLen;omega
         case c4=>omega
         intro a7 c7 w7 g8 gD gL
         have eC:=(HQ.out.2.below H6.out.1).cat H6.out.2 (gX HQ.out.1.size HZ.out.1.size) (gX HQ.out.1.size H6.out.1.size) g8 gD gL
         have eM:Below wr.heap.size wr w7:=(zzT HQ.out.1 H6.out.1).trans (gD.toBelow (gX HQ.out.1.size H6.out.1.size) fun g hg e=>by have:=HQ.out.2.new g (.inl e);omega)
         rw [<- sm.out] at eC
         have dl:=eC.len
         obtain ⟨M3,lR⟩:=zzN (m+m6)
         rw [lR] at eC dl ⊢
         have H7:=gZ (gK eM (gK eC dl))
         have hM3b:M3<=2000:=by omega
         clear g8 gD gL eC eM lR dl
         by_cases cE:300<n1+M3
         ·have h3I:(300:Int)<(n1:Int)+(M3:Int):=by omega
          have HE:=gZ (rA.out r (j+1) (by have:=HO.out;omega) (by rw [H7.out.2.2,HO.out.2.2.2.1.len];exact cE))
          clear cE
          go_wp2_with fail
          go_ret2
          rw [HE.out]
          exact vS.none (HG.out.2.2.1.trans ((zzT HO.out.2.2.1 H7.out.1).mono HG.out.2.2.1.size))
         ·have h3I:¬ (300:Int)<(n1:Int)+(M3:Int):=by omega
          have h3N:=gZ (show n1+M3<=300 by omega)
          clear cE
          go_wp2_with fail
          go_roundw
          case rel=>exact ⟨j+1,M3,c7,a7,_,_,rfl,by omega,by go_num,rfl,h3N.out,H7.out.1,H7.out.2.1⟩
          case measure=>simp [intOf];omega
      ·have iS:¬ (j:Int)<(n2:Int):=by omega
       obtain rfl:j=n2:=by omega
       have hNL:((k_ t b r).take j).flatMap (fAt t b r)=v7 t b r:=by rw [last_flat,List.take_of_length_le (by rw [HO.out.2.2.2.2.len];exact gQ _)]
       rw [hNL] at HQ
       have hOq:=HO.out.2.2.2.1.below HQ.out.1
       have HK:=gZ hOq
       clear hPq hOq hNL
       go_wp2_with (at_builtin;refine zB rfl _ _ 26 rfl 33 (.agg #[.slice none 0 0,.slice none 0 0]) 2 48 Tryz.underlying26 Tryz.infoPlay rfl (by decide) (.slice a1 n1 c1) n1 (plC mE) rfl ?c1 (.slice a3 m c3) m (plC s7) rfl ?c2 ?c3 ?c4 ?_)
       case c1=>exact HK.out.own
       case c2=>exact zN.ofOwn HQ.out.2.own HQ.out.2.one
       case c3=>unfold maxLen;omega
       case c4=>omega
       intro a7 c7 w7 g8 gD gL
       have iH:∀ g,(Value.slice a1 n1 c1).ownBlock=some g->g<wr.heap.size:=fun g hg=>HO.out.2.2.2.1.own.lt hg
       have eC:=HK.out.cat HQ.out.2 HO.out.2.2.1.size (gX HO.out.2.2.1.size HQ.out.1.size) g8 gD gL
       have lN:=(HQ.out.2.off HK.out.own gD fun g hg e=>by have h1:=iH g e;have h2:=HQ.out.2.new g (.inl hg);omega).mono HO.out.2.2.1.size
       have eM:Below w1.heap.size w1 w7:=(zzT HO.out.2.2.1 HQ.out.1).trans (gD.toBelow (gX HO.out.2.2.1.size HQ.out.1.size) fun g hg e=>by have:=HK.out.new g (.inl e);omega)
       have H7:=gZ (gK eM (gK eC lN))
       clear g8 gD gL eC lN eM iH
       have tj:IntKind.i64.wrap ((X:Int)+2)=((2*(r+1)+1:Nat):Int):=by rw [vT _ (by omega) (by omega)];have:=HX.out;omega
       go_wp2_with fail
       go_roundw
       case rel=>exact ⟨r+1,n1+m,c7,a7,_,m,c3,a3,_,_,rfl,gp.out,rfl,rfl,rfl,by omega,by omega,H7.out.1,H7.out.2.1,H7.out.2.2⟩
       case measure=>simp [intOf];have:=HX.out;omega
    ·have bH:¬ ((2*r+1:Nat):Int)<=(N:Int):=by omega
     have nd:¬ 2*(r:Int)+1<=(N:Int):=by omega
     have E:=gZ (l8.out r (by omega) (by rw [HO.out.2.2.2.1.len];exact HO.out.2.1))
     clear gH
     go_wp2_with fail
     go_loopw [81] (fun x wr'=>∃ (i:Nat) (vs:List (Value×Value)) (wz:World),wz=wr'/\i<=n1/\x=.int .i64 i/\Below w1.heap.size w1 wz/\ClR w1.heap.size (jZ t b r) a1 n1 c1 i mE vs wz) (fun x _=>n1-(intOf x).toNat)
     case atStart=>exact ⟨0,[],_,rfl,Nat.zero_le _,rfl,HO.out.2.2.1,HO.out.2.2.2.1.cl⟩
     case round =>
      obtain ⟨i,vs,wq,rfl,hi,rfl,rW,hC⟩:=hrel
      by_cases dY:i<n1
      ·have hiI:(i:Int)<(n1:Int):=by omega
       obtain ⟨u,l,hu,hl,gO⟩:=hC.at dY
       obtain ⟨g,rfl,k1,k2⟩:=hC.cells hu
       obtain ⟨lv,lc,e1⟩:=gO.1.slice
       obtain ⟨lp,ld,e2⟩:=gO.2.slice
       rw [e1] at k1 gO;rw [e2] at k2 gO
       have cp:l.length<=100000:=by
        have h1:=HLEN.out r fV l (List.mem_of_getElem? hl);omega
       obtain ⟨W3,cR,cC,cb,sn⟩:=qC wq (.cells #[.slice lv l.length lc,.slice lp l.length ld] 33)
       have fU:=gO.below cC
       have C6:=gZ (clone_any l (.slice lv l.length lc) (.slice lp l.length ld) W3 (fU.mv (F:=fun _=>True) fun _ _=>trivial).1.src (fU.mv (F:=fun _=>True) fun _ _=>trivial).2.src cp)
       obtain ⟨q0,q1,_,_⟩:=zT sn
       have H3:=gZ (gK cR (gK cC (gK hC (gK hl rW))))
       clear hu hl gO e1 e2 cR cC cb sn fU hC rW cp
       go_upto_region 26 with (fail)
       rw [H3.out.1]
       go_wp2_with fail
       (with_reducible refine C6.out.mono ?_)
       rintro en w4 ⟨mvn,ptn,rfl,bN,gS,tR⟩
       obtain ⟨a8,c8,e8⟩:=bN.1.slice
       obtain ⟨a9,c9,e9⟩:=bN.2.slice
       subst e8;subst e9
       have dO:=zzT H3.out.2.1 gS
       have nh:=H3.out.2.2.1.own.keep (w':=w4) fun g o _ ho=>by rw [dO.block g (zZ ho)];exact ho
       obtain ⟨f0,y0,k0⟩:=nh.open2 (j:=i*2) (by omega)
       obtain ⟨f1,y1,k1'⟩:=nh.open2 (j:=i*2+1) (by omega)
       have fI:=H3.out.2.2.1.put dY dO H3.out.2.2.2.2.size H3.out.2.2.2.1 bN (fun g hg=>gX H3.out.2.1.size (tR g hg))
       have hgb:¬ g<w1.heap.size:=by have:=H3.out.2.2.1.row g rfl;omega
       have bz:Below w1.heap.size w1 ((w4.setCell ⟨g,i*2,none⟩ (.slice a8 l.length c8)).setCell ⟨g,i*2+1,none⟩ (.slice a9 l.length c9)):=((zzT H3.out.2.2.2.2 dO).setCell (p:=⟨g,i*2,none⟩) (by show w1.heap.size<=g;omega) _).setCell (p:=⟨g,i*2+1,none⟩) (by show w1.heap.size<=g;omega) _
       have HF:=gZ (gK bz fI)
       clear gS bN tR dO nh fI hgb bz C6 q0 q1 k1 k2
       go_wp2_with fail
       go_roundw
       case rel=>exact ⟨i+1,_,_,rfl,by omega,by go_num,HF.out.1,HF.out.2⟩
       case measure=>simp [intOf];omega
      ·have hiI:¬ (i:Int)<(n1:Int):=by omega
       obtain rfl:i=n1:=by omega
       have HF:=gZ (gK rW hC.nx)
       clear rW hC
       go_wp2_with fail
       go_ret2
       rw [E.out]
       exact ⟨a1,i,c1,vs,rfl,zzT HG.out.2.2.1 HF.out.1,HF.out.2.mono HG.out.2.2.1.size⟩

theorem NxR.empty (B:Nat) (w:World) (hB:B<=w.heap.size):NxR B [] (some ⟨w.heap.size,0,none⟩) 0 0 [] (w.alloc (.cells #[] 33)):=by
 refine ⟨rfl,⟨Own.lit #[] 0 (by unfold maxLen;omega) rfl,rfl,fun i u x h=>by simp at h,fun i j u u' _ h=>by simp at h⟩,fun g hg=>?_⟩
 rcases hg with hg | ⟨u,hu,_⟩
 ·simp [Value.ownBlock] at hg;omega
 ·simp at hu
theorem NxR.cat {B B2:Nat} {L L2:List Pl} {a a2:Option Addr} {n c n2 c2:Nat} {us ct:List (Value×Value)} {w:World} (h:NxR B L a n c us w) (h2:NxR B2 L2 a2 n2 c2 ct w) (hB:B<=B2) (hBw:B<=w.heap.size) (gH:∀ g,PlB (.slice a n c) us g->g<B2)
 {a':Option Addr} {c':Nat} {w5:World} (rc:Own w5 33 2 (.slice a' (n+n2) c') (n+n2) (plC us++plC ct)) (gR:But (fun b=>(Value.slice a n c).ownBlock=some b) w w5) (iL:∀ g,(Value.slice a' (n+n2) c').ownBlock=some g->(Value.slice a n c).ownBlock=some g\/g=w.heap.size) :
 NxR B (L++L2) a' (n+n2) c' (us++ct) w5:=by
 have hr:=h.rd.cat h2.rd hB hBw rc gR iL
 have eQ:=h.rd.ul
 refine ⟨hr.len,⟨by rw [hr.ul];exact hr.own,by rw [hr.ul,List.length_map,hr.len],fun i u x hu hx=>?_,fun i j u u' ml hu dQ g=>?_⟩,hr.new⟩
 ·rw [List.getElem?_map,Option.map_eq_some_iff] at hx
  obtain ⟨l,hl,rfl⟩:=hx
  have hp:=hr.each i u l hu hl
  have lM:(plX l).1.length=l.length:=by simp [plX,ju]
  have lP:(plX l).2.length=l.length:=by simp [plX,jv]
  rw [lM,lP];exact hp
 ·rcases Nat.lt_or_ge i n with hi | hi <;> rcases Nat.lt_or_ge j n with hj | hj
  ·rw [List.getElem?_append_left (by rw [eQ];exact hi)] at hu
   rw [List.getElem?_append_left (by rw [eQ];exact hj)] at dQ
   exact h.pls.apart i j u u' ml hu dQ g
  ·rw [List.getElem?_append_left (by rw [eQ];exact hi)] at hu
   rw [List.getElem?_append_right (by rw [eQ];exact hj)] at dQ
   have m1:=List.mem_of_getElem? hu;have m2:=List.mem_of_getElem? dQ
   refine ⟨fun e e'=>?_,fun e e'=>?_⟩
   ·have h1:=gH g (.inr ⟨u,m1,.inl e⟩);have h3:=h2.new g (.inr ⟨u',m2,.inl e'⟩);omega
   ·have h1:=gH g (.inr ⟨u,m1,.inr e⟩);have h3:=h2.new g (.inr ⟨u',m2,.inr e'⟩);omega
  ·rw [List.getElem?_append_right (by rw [eQ];exact hi)] at hu
   rw [List.getElem?_append_left (by rw [eQ];exact hj)] at dQ
   have m1:=List.mem_of_getElem? hu;have m2:=List.mem_of_getElem? dQ
   refine ⟨fun e e'=>?_,fun e e'=>?_⟩
   ·have h1:=gH g (.inr ⟨u',m2,.inl e'⟩);have h3:=h2.new g (.inr ⟨u,m1,.inl e⟩);omega
   ·have h1:=gH g (.inr ⟨u',m2,.inr e'⟩);have h3:=h2.new g (.inr ⟨u,m1,.inr e⟩);omega
  ·rw [List.getElem?_append_right (by rw [eQ];exact hi)] at hu
   rw [List.getElem?_append_right (by rw [eQ];exact hj)] at dQ
   exact h2.pls.apart _ _ u u' (by omega) hu dQ g
theorem NxR.lt {B:Nat} {L:List Pl} {a:Option Addr} {n c:Nat} {us:List (Value×Value)} {w:World} (h:NxR B L a n c us w):∀ g,PlB (.slice a n c) us g->g<w.heap.size:=fun g hg=>h.pls.lt hg
theorem NxR.off {B:Nat} {L:List Pl} {a:Option Addr} {n c:Nat} {us:List (Value×Value)} {w w':World} (h:NxR B L a n c us w) {v:Value} {m:Nat} {xs:List Value} (ho:Own w 33 2 v m xs) (hb:But (fun b=>v.ownBlock=some b) w w') (hn:∀ g,(Value.slice a n c).ownBlock=some g->v.ownBlock≠some g):NxR B L a n c us w' :=
 ⟨h.len,jh.but h.pls hb fun g hg e=>by
  rcases hg with hg | ⟨u,hu,hg⟩
  ·exact hn g hg e
  ·obtain ⟨i,x,h1,h2⟩:=h.pls.mem hu
   obtain ⟨k1,k2⟩:=h.pls.each i u x h1 h2
   rcases hg with hg | hg
   ·exact k1.unlikeG ho uR hg e
   ·exact k2.unlikeG ho y6 hg e,h.new⟩
theorem jh.cells {w:World} {v:Value} {us:List (Value×Value)} {xs:wV} (h:jh w v us xs) {i:Nat} {u:Value×Value} (hu:us[i]? = some u):∃ g c,v=.slice (some ⟨g,0,none⟩) us.length c/\w.cell? ⟨g,i*2,none⟩=some u.1/\w.cell? ⟨g,i*2+1,none⟩=some u.2:=by
 obtain ⟨h1,h2⟩:=plC_at us i u hu
 obtain ⟨g,c,e,k1⟩:=h.own.at h1
 obtain ⟨g',c',e',k2⟩:=h.own.at h2
 rw [e] at e'
 simp only [Value.slice.injEq,Option.some.injEq,Addr.mk.injEq,true_and] at e'
 obtain ⟨⟨rfl,_⟩,_⟩:=e'
 exact ⟨g,c,e,k1,k2⟩
theorem jh.slice {w:World} {v:Value} {us:List (Value×Value)} {xs:wV} (h:jh w v us xs):∃ a c,v=.slice a us.length c:=h.own.slice
def PlsPost (o:Option (List Pl)) (w:World) (en:Ending) (w':World):Prop :=
 ∃ v us,en=.returned (.tuple #[v,.bool o.isSome])/\Below w.heap.size w w'/\jd w' (o.getD []) v us/\∀ g,PlB v us g->w.heap.size<=g
theorem vS.views {o:Option (List Pl)} {w w':World} {en:Ending} (h:vS o w en w'):PlsPost o w en w':=by
 obtain ⟨a,n,c,us,h1,h2,h3⟩:=h
 exact ⟨_,us,h1,h2,h3.pls,h3.new⟩
theorem ve {s text:Bs} {n:Int} {L:List Pl} (h:kL s text n=some L):∃ b,zX s text=some b/\0<=n/\n<=8/\L=jZ (zQ s).1 b ((n.toNat+1) / 2)/\L.length<=300:=by
 unfold kL at h
 cases hb:zX s text with
 | none=>rw [hb] at h;simp at h
 | some b =>
   rw [hb] at h
   simp only at h
   split at h
   ·simp at h
   ·split at h
    ·simp at h
    ·obtain rfl:=Option.some.inj h
     exact ⟨b,rfl,by omega,by omega,rfl,by omega⟩
theorem yQ (s text:Bs) (n:Int):((kL s text n).getD []).length<=300/\∀ l∈(kL s text n).getD [],l.length<=60:=by
 cases h:kL s text n with
 | none=>exact ⟨Nat.zero_le _,fun l hl=>by simp at hl⟩
 | some L =>
   obtain ⟨b,hb,h0,h8,hL,cE⟩:=ve h
   refine ⟨cE,fun l hl=>?_⟩
   have hg:=(kN hb).1
   rw [Option.getD_some,hL] at hl
   exact qD (pY hg.atoms hg.fit hg.wf _ (by omega) l hl).1.ok

theorem i64_xor_nat (a b:Nat) (ha:a<9223372036854775808) (hb:b<9223372036854775808):bits .xor .i64 (a:Int) (b:Int)=((a ^^^ b:Nat):Int):=by
 have hx:a ^^^ b<2 ^ 63:=Nat.xor_lt_two_pow (by omega) (by omega)
 show IntKind.i64.wrap ((BitVec.ofInt 64 (a:Int) ^^^ BitVec.ofInt 64 (b:Int)).toNat:Int)=_
 rw [BitVec.toNat_xor,ofInt_u64 a (by omega),ofInt_u64 b (by omega)]
 generalize a ^^^ b=x at *
 simp [IntKind.wrap,IntKind.bits,IntKind.signed]
 omega
def kW (w:World) (rd P:Nat):Prop :=
 ∃ (a:Option Addr) (n c p:Nat),w.heap[rd]? = some (.cells #[.slice a n c,.int .i64 (p:Nat)] 101 (0,0))/\p<=P/\n<=2000 /\
   (n=0\/∃ b o,a=some ⟨b,o,none⟩/\b<rd/\∀ k,k<n->∃ x:Nat,x<256/\w.cell? ⟨b,o+k,none⟩=some (.int .u8 x))
theorem kW.lt {w:World} {rd P:Nat} (h:kW w rd P):rd<w.heap.size:=by
 obtain ⟨a,n,c,p,h1,_⟩:=h;exact zZ h1
theorem kW.mono {w:World} {rd P Q:Nat} (h:kW w rd P) (k:P<=Q):kW w rd Q:=by
 obtain ⟨a,n,c,p,h1,h2,h3⟩:=h;exact ⟨a,n,c,p,h1,gX h2 k,h3⟩
theorem kW.below {w w':World} {rd P:Nat} (h:kW w rd P) (hb:Below w.heap.size w w'):kW w' rd P:=by
 obtain ⟨a,n,c,p,h1,h2,h3,h4⟩:=h
 refine ⟨a,n,c,p,(hb.block _ (zZ h1)).trans h1,h2,h3,?_⟩
 rcases h4 with h4 | ⟨b,o,e,gN,hk⟩
 ·exact .inl h4
 ·refine .inr ⟨b,o,e,gN,fun k mi=>?_⟩
  obtain ⟨x,hx,hc⟩:=hk k mi
  exact ⟨x,hx,(hb.cell (gJ w _ hc)).trans hc⟩
theorem kW.but {m:Nat->Prop} {w w':World} {rd P:Nat} (h:kW w rd P) (hb:But m w w') (hm:∀ i,i<=rd->¬ m i):kW w' rd P:=by
 obtain ⟨a,n,c,p,h1,h2,h3,h4⟩:=h
 refine ⟨a,n,c,p,(hb.block _ (zZ h1) (hm _ (gQ _))).trans h1,h2,h3,?_⟩
 rcases h4 with h4 | ⟨b,o,e,gN,hk⟩
 ·exact .inl h4
 ·refine .inr ⟨b,o,e,gN,fun k mi=>?_⟩
  obtain ⟨x,hx,hc⟩:=hk k mi
  exact ⟨x,hx,(hb.cell (gJ w _ hc) (hm _ (Nat.le_of_lt gN))).trans hc⟩
theorem kW.drew {w:World} {rd P:Nat} (h:kW w rd P):kW w.drew rd P:=h
theorem kW.drewN {w:World} {rd P:Nat} (h:kW w rd P) (n:Nat):kW (w.drewN n) rd P:=h
theorem kW.alloc {w:World} {rd P:Nat} (h:kW w rd P) (o:Obj):kW (w.alloc o) rd P:=h.below ((gV _ _).alloc (gQ _) _)
theorem below_dN_but {m:Nat->Prop} {a w:World} (h:But m a w) (n:Nat):But m a (w.drewN n):=⟨h.os,h.tape,h.output,h.size,h.block⟩
def Picked (rd P n:Nat) (w:World) (en:Ending) (w':World):Prop :=
 ∃ v:Nat,en=.returned (.int .i64 (v:Nat))/\v<n/\But (· = rd) w w'/\kW w' rd (P+1)
theorem jf {z:Int} {n:Nat} (e:z=(n:Int)) (h:n<9223372036854775808):IntKind.i64.wrap z=(n:Int):=by rw [e];exact jV n h
structure Mix (p m x1 x2 n:Nat) (I A B C J D E G H Q R X Y Z V:Nat):Prop where
 i:(p:Int).tmod (m:Int)=(I:Int)
 a:IntKind.i64.wrap ((x1:Int)*131)=(A:Int)
 b:IntKind.i64.wrap ((p:Int)*7)=(B:Int)
 c:IntKind.i64.wrap ((B:Int)+3)=(C:Int)
 j:(C:Int).tmod (m:Int)=(J:Int)
 d:IntKind.i64.wrap ((x2:Int)*1117)=(D:Int)
 e:IntKind.i64.wrap ((A:Int)+(D:Int))=(E:Int)
 g:IntKind.i64.wrap ((p:Int)*29)=(G:Int)
 h:IntKind.i64.wrap ((E:Int)+(G:Int))=(H:Int)
 q:(p:Int).tdiv (m:Int)=(Q:Int)
 r:IntKind.i64.wrap ((Q:Int)*53)=(R:Int)
 x:IntKind.i64.wrap ((H:Int)+(R:Int))=(X:Int)
 y:(X:Int).tdiv 64=(Y:Int)
 z:bits .xor .i64 (X:Int) (Y:Int)=(Z:Int)
 v:(Z:Int).tmod (n:Int)=(V:Int)
 vn:V<n
 wq:IntKind.i64.wrap (Q:Int)=(Q:Int)
 wy:IntKind.i64.wrap (Y:Int)=(Y:Int)
theorem mix_any (p m x1 x2 n:Nat) (hp:p<=1099511627776) (cX:x1<256) (bX:x2<256) (hn:0<n) :
 ∃ A B D E G H Q R X Y Z V:Nat,Mix p m x1 x2 n (p % m) A B (p*7+3) ((p*7+3) % m) D E G H Q R X Y Z V:=by
 have hq:p / m<=p:=Nat.div_le_self _ _
 have hX:x1*131+x2*1117+p*29+p / m*53<9223372036854775808:=by omega
 have hY:(x1*131+x2*1117+p*29+p / m*53) / 64<9223372036854775808:=by omega
 refine ⟨x1*131,p*7,x2*1117,x1*131+x2*1117,p*29,x1*131+x2*1117+p*29,p / m,p / m*53,x1*131+x2*1117+p*29+p / m*53,(x1*131+x2*1117+p*29+p / m*53) / 64,(x1*131+x2*1117+p*29+p / m*53) ^^^ ((x1*131+x2*1117+p*29+p / m*53) / 64),((x1*131+x2*1117+p*29+p / m*53) ^^^ ((x1*131+x2*1117+p*29+p / m*53) / 64)) % n,?_⟩
 exact ⟨uN _ _,jf (by omega) (by omega),jf (by omega) (by omega),jf (by omega) (by omega),uN _ _,jf (by omega) (by omega),jf (by omega) (by omega),jf (by omega) (by omega),jf (by omega) (by omega),
  wu _ _,jf (by omega) (by omega),jf (by omega) hX,wu _ 64,i64_xor_nat _ _ hX hY,uN _ _,Nat.mod_lt _ hn,jV _ (by omega),jV _ hY⟩
set_option maxRecDepth 100000 in
theorem qR (rd P n:Nat) (w:World) (h:kW w rd P) (hn:0<n) (bR:n<=16777216) (hP:P<=1099511627776) :
 Calls Tryz.prog 48 #[.pointer (some ⟨rd,0,none⟩),.int .i64 (n:Nat)] w (Picked rd P n w):=by
 obtain ⟨a,m,c,p,h1,hp,hm,hcs⟩:=h
 have hpP:p<=1099511627776:=by omega
 have c0:w.cell? ⟨rd,0,none⟩=some (.slice a m c):=by simp [World.cell?,h1]
 have c1:w.cell? ⟨rd,1,none⟩=some (.int .i64 (p:Nat)):=by simp [World.cell?,h1]
 have f1:w.frozen? ⟨rd,1,none⟩=false:=by simp [World.frozen?,h1]
 have gH:=zZ h1
 obtain ⟨W,hW⟩:=zzN (w.setCell ⟨rd,1,none⟩ (.int .i64 ((p:Int)+1)))
 have dL:W.heap[rd]? = some (.cells #[.slice a m c,.int .i64 ((p+1:Nat):Int)] 101 (0,0)):=by
  have h':w.heap[rd]=.cells #[.slice a m c,.int .i64 (p:Nat)] 101 (0,0):=by simpa [Array.getElem?_eq_getElem gH] using h1
  rw [<- hW]
  show (w.heap.modify rd _)[rd]? = _
  rw [Array.getElem?_eq_getElem (by simpa using gH),Array.getElem_modify_self,h']
  simp
 have gg:But (· = rd) w W:=by rw [<- hW];exact (But.refl (· = rd) _).setCell (p:=⟨rd,1,none⟩) (.inl rfl) _
 have d0:W.cell? ⟨rd,0,none⟩=some (.slice a m c):=by simp [World.cell?,dL]
 have d1:W.cell? ⟨rd,1,none⟩=some (.int .i64 ((p:Int)+1)):=by simp [World.cell?,dL]
 have cJ:kW W rd (P+1):=by
  refine ⟨a,m,c,p+1,dL,by omega,hm,?_⟩
  rcases hcs with h4 | ⟨b,o,e,gN,hk⟩
  ·exact .inl h4
  ·refine .inr ⟨b,o,e,gN,fun k mi=>?_⟩
   obtain ⟨x,hx,hc⟩:=hk k mi
   exact ⟨x,hx,(gg.cell (gJ w _ hc) (fun e=>Nat.ne_of_lt gN e)).trans hc⟩
 have RD:=gZ cJ;have BT:=gZ gg
 have g0:¬ (n:Int)<1:=by omega
 have gn:((n:Int) == 0)=false:=by rw [beq_eq_false_iff_ne];omega
 have hWb:∀ (b o:Nat) (v:Value),b≠rd->w.cell? ⟨b,o,none⟩=some v->W.cell? ⟨b,o,none⟩=some v:=fun b o v gN hc =>
  (gg.cell (p:=⟨b,o,none⟩) (gJ w ⟨b,o,none⟩ hc) (fun e=>gN e)).trans hc
 have WB:=gZ hWb;have si:=gZ hcs;have HW:=gZ hW
 clear cJ gg h1 dL hWb hcs hW
 go_enter Tryz.func48,Tryz.ntmps48
 go_upto_region 2 with (fail)
 rw [HW.out]
 clear c0 c1 f1
 rcases si.out with h0 | ⟨b,o,e,gN,hk⟩
 ·subst h0
  go_wp2_with fail
  go_ret
  exact ⟨0,rfl,hn,BT.out,RD.out⟩
 ·subst e
  have HK:=gZ hk;clear hk
  by_cases hm0:m=0
  ·subst hm0
   go_wp2_with fail
   go_ret
   exact ⟨0,rfl,hn,BT.out,RD.out⟩
  have gm:((m:Int) == 0)=false:=by rw [beq_eq_false_iff_ne];omega
  by_cases hpm:p<m
  ·obtain ⟨x,hx,hc⟩:=HK.out p hpm
   have e1:=WB.out _ _ _ (Nat.ne_of_lt gN) hc
   have hpm':(p:Int)<(m:Int):=by omega
   have et:(x:Int).tmod (n:Int)=((x % n:Nat):Int):=uN _ _
   have hv:x % n<n:=Nat.mod_lt _ hn
   have HV:=gZ hv;clear hv hc
   go_wp2_with fail
   go_ret
   exact ⟨x % n,rfl,HV.out,BT.out,RD.out⟩
  ·have hpm':¬ (p:Int)<(m:Int):=by omega
   obtain ⟨x1,cX,dT⟩:=HK.out (p % m) (Nat.mod_lt _ (by omega))
   obtain ⟨x2,bX,cf⟩:=HK.out ((p*7+3) % m) (Nat.mod_lt _ (by omega))
   have e1:=WB.out _ _ _ (Nat.ne_of_lt gN) dT
   have e2:=WB.out _ _ _ (Nat.ne_of_lt gN) cf
   obtain ⟨A,B,D,E,G,H,Q,R,X,Y,Z,V,M⟩:=mix_any p m x1 x2 n hpP cX bX hn
   have hI:p % m<m:=Nat.mod_lt _ (by omega)
   have hJ:(p*7+3) % m<m:=Nat.mod_lt _ (by omega)
   generalize p % m=I at *
   generalize (p*7+3) % m=J at *
   generalize p*7+3=C at *
   have hI':(I:Int)<(m:Int):=by omega
   have hJ':(J:Int)<(m:Int):=by omega
   have q1:=M.i;have q2:=M.a;have q3:=M.b;have q4:=M.c;have q5:=M.j;have q6:=M.d;have q7:=M.e;have q8:=M.g;have q9:=M.h
   have q10:=M.q;have q11:=M.r;have q12:=M.x;have q13:=M.y;have q14:=M.z;have q15:=M.v;have q16:=M.wq;have q17:=M.wy
   have MV:=gZ M.vn
   clear dT cf M
   go_wp2_with fail
   go_quiet (fail)
   go_wp2_with fail
   go_ret
   exact ⟨V,rfl,MV.out,below_dN_but BT.out _,RD.out.drewN _⟩
def uH (w:World) (rd:Nat) (l:Value) (xs:List Bs):Prop :=
 ∃ b o c,l=.slice (some ⟨b,o,none⟩) xs.length c/\b≠rd/\∀ (k:Nat) (s:Bs),xs[k]? = some s->w.cell? ⟨b,o+k,none⟩=some (str s)
theorem uH.new {w:World} {rd:Nat} (cJ:rd<w.heap.size) (xs:List Bs) (n:Nat) (hn:n=xs.length) (e:TypeId):uH (w.alloc (.cells (xs.map str).toArray e)) rd (.slice (some ⟨w.heap.size,0,none⟩) n n) xs:=by
 subst hn
 refine ⟨w.heap.size,0,_,rfl,by omega,fun k s hs=>?_⟩
 rw [Nat.zero_add]
 simp only [World.cell?,kJ]
 simp [hs]
def Took (rd P:Nat) (xs:List Bs) (w:World) (en:Ending) (w':World):Prop :=
 ∃ s∈xs,en=.returned (str s)/\But (· = rd) w w'/\kW w' rd P
theorem xL (rd P:Nat) (l:Value) (xs:List Bs) (w:World) (h:kW w rd P) (hl:uH w rd l xs) (hx:0<xs.length) (bX:xs.length<=16777216) (hP:P<=1099511627776) :
 Calls Tryz.prog 72 #[.pointer (some ⟨rd,0,none⟩),l] w (Took rd (P+1) xs w):=by
 obtain ⟨b,o,c,rfl,gN,hk⟩:=hl
 have HK:=gZ hk;clear hk
 go_enter Tryz.func72,Tryz.ntmps72
 go_wp2_with fail
 refine (qR rd P xs.length w h hx bX hP).mono ?_
 rintro en w1 ⟨v,rfl,hv,hb,hr⟩
 obtain ⟨s,hs⟩:∃ s,xs[v]? = some s:=⟨xs[v],by simp [hv]⟩
 have hc:=HK.out v s hs
 have dT:w1.cell? ⟨b,o+v,none⟩=some (str s):=(hb.cell (p:=⟨b,o+v,none⟩) (gJ w ⟨b,o+v,none⟩ hc) (fun e=>gN e)).trans hc
 have fN:(v:Int)<(xs.length:Int):=by omega
 have HM:=gZ (List.mem_of_getElem? hs)
 clear hs hc
 go_wp2_with fail
 go_ret
 exact ⟨s,HM.out,rfl,hb,hr⟩
def qz:List Bs:=[[98],[40,62,32,98,32,98,41],[40,62,32,98,32,40,62,32,98,32,98,41,41],[40,62,32,40,62,32,98,32,98,41,32,98,41],[40,62,32,40,62,32,98,32,98,41,32,40,62,32,98,32,98,41,41],[40,62,32,40,62,32,40,62,32,98,32,98,41,32,98,41,32,98,41],[40,62,32,40,62,32,98,32,40,62,32,98,32,98,41,41,32,98,41],[40,62,32,98,32,40,62,32,40,62,32,98,32,98,41,32,98,41,41]]
def uO:List Bs:=[[],[99],[40,62,32,98,41],[40,62,32,32,98,32,98,41],[40,62,32,98,32,98,32,98,41],[98,32],[40,62,32,40,62,32,40,62,32,40,62,32,98,32,98,41,32,40,62,32,98,32,98,41,41,32,40,62,32,98,32,98,41,41,32,40,62,32,98,32,40,62,32,98,32,98,41,41,41]]
def ug:List Bs:=[[],[120],[40,48,32,116,41],[40,57,32,116,32,102,41],[40,48,32,32,116,32,102,41],[40,48,48,32,116,32,102,41],[117,32],[40,48,32,116,32,102,32,116,32,102,41]]
def kI:List Bs:=[[116],[102],[116],[102],[117]]
set_option maxRecDepth 100000 in
theorem vV (rd P:Nat) (w:World) (h:kW w rd P) (hP:P<=1099511627776) :
 Calls Tryz.prog 56 #[.pointer (some ⟨rd,0,none⟩)] w (Took rd (P+1) qz w):=by
 have gH:=h.lt
 go_enter Tryz.func56,Tryz.ntmps56
 go_wp2_with fail
 refine (xL rd P _ qz _ (h.alloc _) (uH.new gH qz 8 rfl _) (by decide) (by decide) hP).mono ?_
 rintro en w1 ⟨s,hs,rfl,hb,hr⟩
 have HM:=gZ hs;clear hs
 go_wp2_with fail
 go_ret
 exact ⟨s,HM.out,rfl,((But.refl _ w).alloc _).trans hb,hr⟩
set_option maxRecDepth 100000 in
theorem l91Odd_any (rd P:Nat) (w:World) (h:kW w rd P) (hP:P+1<=1099511627776) :
 Calls Tryz.prog 71 #[.pointer (some ⟨rd,0,none⟩)] w (Took rd (P+2) (qz++uO) w):=by
 go_enter Tryz.func71,Tryz.ntmps71
 go_wp2_with fail
 refine (qR rd P 12 w h (by omega) (by omega) (by omega)).mono ?_
 rintro en w1 ⟨v,rfl,hv,gW,gp⟩
 have gH:=gp.lt
 by_cases mG:v=0
 ·subst mG
  go_wp2_with fail
  refine (xL rd (P+1) _ uO _ (gp.alloc _) (uH.new gH uO 7 rfl _) (by decide) (by decide) hP).mono ?_
  rintro en w2 ⟨s,hs,rfl,hb,hr⟩
  have HM:=gZ hs;clear hs
  go_wp2_with fail
  go_ret
  exact ⟨s,List.mem_append_right _ HM.out,rfl,(gW.alloc _).trans hb,hr⟩
 ·have cI:((v:Int) == 0)=false:=by rw [beq_eq_false_iff_ne];omega
  go_wp2_with fail
  refine (vV rd (P+1) w1 gp hP).mono ?_
  rintro en w2 ⟨s,hs,rfl,hb,hr⟩
  have HM:=gZ hs;clear hs
  go_wp2_with fail
  go_ret
  exact ⟨s,List.mem_append_left _ HM.out,rfl,gW.trans hb,hr⟩
end Go.Proofs.YtfedjhgaeikjmaaGreatDoor

/- Walks of functions that the statement reaches, and plain words. No conditions. -/
import Derived.Deep.Cut
import Derived.StillTailTactics
import Derived.BigRegion
import Derived.Outline
import Derived.Test.YtfedjhgaeikjmaaGreatDoorQ4
set_option linter.unusedVariables false
set_option linter.unusedSimpArgs false
set_option maxHeartbeats 4000000
namespace Go.Proofs.YtfedjhgaeikjmaaGreatDoor
open Go.RowKit
def jk (log:List (Bs×Int)):List Value:=log.map fun x=>str x.1
def jU (log:List (Bs×Int)):List Value:=log.map fun x=>Value.int .i64 x.2
theorem wb (log:List (Bs×Int)) (s:Bs) (p:Int):jk (log++[(s,p)])=jk log++[str s]:=by simp [jk]
theorem logP_snoc (log:List (Bs×Int)) (s:Bs) (p:Int):jU (log++[(s,p)])=jU log++[.int .i64 p]:=by simp [jU]
structure MS (keeps:Bool) (most ma:Nat) (log:List (Bs×Int)) (mv pt:Value) (w:World):Prop where
 blk:w.heap[ma]? = some (.cells #[mv,pt,.int .i64 (most:Nat),.int .i64 (log.length:Nat),.bool keeps] 126 (0,0))
 rows:keeps=true->Own w 9 1 mv log.length (jk log)/\Own w 3 1 pt log.length (jU log)
 nil:keeps=false->mv=.slice none 0 0/\pt=.slice none 0 0
 neM:∀ g,mv.ownBlock=some g->g≠ma/\pt.ownBlock≠some g
 neP:∀ g,pt.ownBlock=some g->g≠ma
def MBk (ma:Nat) (mv pt:Value) (b:Nat):Prop:=b=ma\/mv.ownBlock=some b\/pt.ownBlock=some b
theorem MS.but {keeps:Bool} {most ma:Nat} {log:List (Bs×Int)} {mv pt:Value} {m:Nat->Prop} {w w':World} (h:MS keeps most ma log mv pt w) (hb:But m w w') (hm:∀ b,MBk ma mv pt b->¬ m b):MS keeps most ma log mv pt w' :=
 ⟨by rw [hb.block ma (zZ h.blk) (hm ma (.inl rfl))];exact h.blk,
  fun hk=>⟨(h.rows hk).1.keep fun g o hg ho=>by rw [hb.block g (zZ ho) (hm g (.inr (.inl hg)))];exact ho,(h.rows hk).2.keep fun g o hg ho=>by rw [hb.block g (zZ ho) (hm g (.inr (.inr hg)))];exact ho⟩,
  h.nil,h.neM,h.neP⟩
theorem MS.below {keeps:Bool} {most ma:Nat} {log:List (Bs×Int)} {mv pt:Value} {w w':World} (h:MS keeps most ma log mv pt w) (hb:Below w.heap.size w w'):MS keeps most ma log mv pt w' :=
 h.but (m:=fun _=>False) (But.ofBelow hb) fun _ _ h=>h
theorem MBk.lt {keeps:Bool} {most ma:Nat} {log:List (Bs×Int)} {mv pt:Value} {w:World} (h:MS keeps most ma log mv pt w) {b:Nat} (hb:MBk ma mv pt b):b<w.heap.size:=by
 rcases hb with rfl | hb | hb
 ·exact zZ h.blk
 ·cases keeps with
  | true=>exact (h.rows rfl).1.lt hb
  | false=>rw [(h.nil rfl).1] at hb;simp [Value.ownBlock] at hb
 ·cases keeps with
  | true=>exact (h.rows rfl).2.lt hb
  | false=>rw [(h.nil rfl).2] at hb;simp [Value.ownBlock] at hb
def vy (keeps:Bool) (most ma:Nat) (log:List (Bs×Int)) (mv pt:Value) (s:Bs) (p:Int) (w:World) (en:Ending) (w':World):Prop :=
 if log.length=most then ∃ te pe,en=.returned (.tuple #[.int .i64 0,.iface te pe])/\Below w.heap.size w w'
 else ∃ mv' pt',en=.returned (.tuple #[.int .i64 (log.length:Nat),.nilIface])/\But (MBk ma mv pt) w w'/\MS keeps most ma (log++[(s,p)]) mv' pt' w'/\(∀ b,MBk ma mv' pt' b->MBk ma mv pt b\/w.heap.size<=b)
theorem Tryz.infoInt:(Tryz.prog.info? 3).map (fun i=>(i.zero,i.size,i.bytes))=some (some (.int .i64 0),1,8):=by kernel_rfl
theorem Tryz.infoStr0:(Tryz.prog.info? 9).map (fun i=>(i.zero,i.size,i.bytes))=some (some (str []),1,16):=by kernel_rfl
set_option maxRecDepth 100000 in
theorem moveS_none (most ma:Nat) (log:List (Bs×Int)) (mv pt:Value) (s:Bs) (p:Int) (w:World) (h:MS false most ma log mv pt w) (hg:jH w) (hm:most<=16777216) (aP:log.length<=most) :
 Calls Tryz.prog 109 #[.pointer (some ⟨ma,0,none⟩),str s,.int .i64 p] w (vy false most ma log mv pt s p w):=by
 obtain ⟨e1,e2⟩:=h.nil rfl
 subst e1;subst e2
 refine (move_any ma most log.length s p w h.blk hg hm aP).mono ?_
 intro en w' hw
 unfold Moved at hw;unfold vy
 split at hw
 ·rename_i he;rw [if_pos he];exact hw
 ·rename_i he;rw [if_neg he]
  obtain ⟨h1,h2,h3⟩:=hw
  refine ⟨.slice none 0 0,.slice none 0 0,h1,h2.weak fun i _ hi=>.inl hi,⟨?_,by simp,fun _=>⟨rfl,rfl⟩,by simp [Value.ownBlock],by simp [Value.ownBlock]⟩,fun b hb=>.inl hb⟩
  have:(log++[(s,p)]).length=log.length+1:=by simp
  rw [this];exact h3
theorem xL {ma most n:Nat} {mv pt:Value} {w:World} {k:Bool} (h:w.heap[ma]? = some (.cells #[mv,pt,.int .i64 (most:Nat),.int .i64 (n:Nat),.bool k] 126 (0,0))) :
 w.cell? ⟨ma,0,none⟩=some mv/\w.cell? ⟨ma,1,none⟩=some pt/\w.cell? ⟨ma,2,none⟩=some (.int .i64 (most:Nat))/\w.cell? ⟨ma,3,none⟩=some (.int .i64 (n:Nat))/\w.cell? ⟨ma,4,none⟩=some (.bool k)/\(∀ o,w.frozen? ⟨ma,o,none⟩=false) :=
 ⟨by simp [World.cell?,h],by simp [World.cell?,h],by simp [World.cell?,h],by simp [World.cell?,h],by simp [World.cell?,h],fun o=>by simp [World.frozen?,h]⟩
set_option maxRecDepth 100000 in
theorem moveS_keep (most ma:Nat) (log:List (Bs×Int)) (mv pt:Value) (s:Bs) (p:Int) (w:World) (h:MS true most ma log mv pt w) (hg:jH w) (hm:most<=16777216) (aP:log.length<=most) :
 Calls Tryz.prog 109 #[.pointer (some ⟨ma,0,none⟩),str s,.int .i64 p] w (vy true most ma log mv pt s p w):=by
 obtain ⟨c0,c1,c2,c3,c4,cf⟩:=xL h.blk
 have f3:=cf 3;clear cf
 obtain ⟨te,pe,aE⟩:=hg
 have H:=bc h;clear h
 generalize hL:log.length=n at *
 have HL:=bc hL;clear hL
 by_cases he:n=most
 ·have hd:((n:Int) == (most:Int))=true:=by rw [beq_iff_eq];omega
  have HE:=bc he;clear he
  go_enter Tryz.func109,Tryz.ntmps109
  go_wp2_with fail
  go_quiet (fail)
  go_wp2_with fail
  go_quiet (fail)
  go_wp2_with fail
  refine bodyPost_ret (v:=.tuple #[.int .i64 0,.iface te pe]) (by simp [results,Tryz.results109,go_sem]) rfl ?_
  unfold vy
  rw [if_pos (HL.out.trans HE.out)]
  exact ⟨te,pe,rfl,by first | exact zi (bi _ _) _ | exact zi (zi (bi _ _) _) _⟩
 ·have hd:((n:Int) == (most:Int))=false:=by rw [beq_eq_false_iff_ne];omega
  have HE:=bc he;clear he
  have hw:IntKind.i64.wrap ((n:Int)+1)=(n:Int)+1:=by
   rw [show (n:Int)+1=((n+1:Nat):Int) from by omega];exact qu _ (by omega)
  obtain ⟨am,cm,em⟩:=(H.out.rows rfl).1.slice
  obtain ⟨ap,cp,ep⟩:=(H.out.rows rfl).2.slice
  rw [HL.out] at em ep
  subst em;subst ep
  go_enter Tryz.func109,Tryz.ntmps109
  go_wp2_with fail
  go_quiet (fail)
  have dF:(w.drewN nq).heap[ma]? = some (.cells #[.slice am n cm,.slice ap n cp,.int .i64 (most:Nat),.int .i64 (log.length:Nat),.bool true] 126 (0,0)):=H.out.blk
  have hd3:(w.drewN nq).cell? ⟨ma,3,none⟩=some (.int .i64 (n:Nat)):=c3
  have hdf:(w.drewN nq).frozen? ⟨ma,3,none⟩=false:=f3
  obtain ⟨W,hW⟩:=zzN ((w.drewN nq).setCell ⟨ma,3,none⟩ (.int .i64 ((n:Int)+1)))
  have tZ:W.heap[ma]? = some (.cells #[.slice am n cm,.slice ap n cp,.int .i64 (most:Nat),.int .i64 ((n+1:Nat):Int),.bool true] 126 (0,0)):=by
   rw [<- hW,zO dF];rfl
  have cK:But (· = ma) w W:=by rw [<- hW];exact But.setCell (m:=(· = ma)) (p:=⟨ma,3,none⟩) (xH (But.refl _ _) _) (.inl rfl) _
  obtain ⟨d0,d1,d2,d3,d4,df⟩:=xL tZ
  have df0:=df 0;clear df
  have HW:=bc hW;have HB:=bc tZ;have Dj:=bc cK
  clear hW tZ cK dF
  clear c0 c1 c2 c3 c4 f3
  go_upto_region 4 with (fail)
  rw [HW.out]
  go_wp2_with (at_builtin;refine zW rfl _ _ 30 rfl 9 (str []) 1 16 Tryz.underlying30 Tryz.infoStr0 rfl (by decide) (.slice am n cm) n (jk log) rfl ?c1 _ 1 [str s] rfl ?c2 ?c3 ?c4 ?_)
  case c1 =>
   have h0:=(H.out.rows rfl).1
   rw [HL.out] at h0
   exact (h0.keep fun g o hg ho=>by rw [Dj.out.block g (zZ ho) (H.out.neM g hg).1];exact ho).alloc _
  case c2=>exact zM.litk #[str s] rfl (by simp [str,Value.oneCell']) _ (by simp)
  case c3=>unfold maxLen;omega
  case c4=>omega
  intro a' c' w7 dP cJ cB
  have cZ:ma<W.heap.size:=zZ HB.out
  have tQ:w7.heap[ma]? = some (.cells #[.slice am n cm,.slice ap n cp,.int .i64 (most:Nat),.int .i64 ((n+1:Nat):Int),.bool true] 126 (0,0)):=by
   rw [cJ.block ma (by rw [zK];omega) (fun e=>(H.out.neM ma e).1 rfl),Below.heap_alloc _ _ _ cZ];exact HB.out
  have n7:(w7.setCell ⟨ma,0,none⟩ (.slice a' (n+1) c')).heap[ma]? = some (.cells #[.slice a' (n+1) c',.slice ap n cp,.int .i64 (most:Nat),.int .i64 ((n+1:Nat):Int),.bool true] 126 (0,0)):=by
   rw [zO tQ];rfl
  obtain ⟨b0,b1,b2,b3,b4,bf⟩:=xL tQ
  have bf0:=bf 0;clear bf
  obtain ⟨g0,g1,g2,g3,g4,gf⟩:=xL n7
  have gf1:=gf 1;clear gf
  have hW1:But (MBk ma (.slice am n cm) (.slice ap n cp)) w (w7.setCell ⟨ma,0,none⟩ (.slice a' (n+1) c')):=by
   refine But.setCell (p:=⟨ma,0,none⟩) ?_ (.inl (.inl rfl)) _
   have h1:But (MBk ma (.slice am n cm) (.slice ap n cp)) w (W.alloc (.cells #[str s] 9)):=(Dj.out.weak fun i _ hi=>.inl hi).alloc _
   exact h1.trans' cJ fun i _ hi=>.inr (.inl hi)
  have hz:W.heap.size+1<=w7.heap.size:=by have:=cJ.size;rwa [zK] at this
  have aq:Own (w7.setCell ⟨ma,0,none⟩ (.slice a' (n+1) c')) 9 1 (.slice a' (n+1) c') (n+1) (jk log++[str s]):=by
   refine dP.keep fun g o hg ho=>?_
   rw [b5 _ _ _ _ (by
    intro e
    have e:g=ma:=by simpa using e
    subst e
    rcases cB g hg with h | h
    ·exact (H.out.neM g h).1 rfl
    ·have:g=W.heap.size+1:=by simpa using h
     omega)];exact ho
  have hO2:Own (w7.setCell ⟨ma,0,none⟩ (.slice a' (n+1) c')) 3 1 (.slice ap n cp) n (jU log):=by
   have h0:=(H.out.rows rfl).2
   rw [HL.out] at h0
   refine h0.keep fun g o hg ho=>?_
   have cX:g≠ma:=H.out.neP g hg
   have h2:W.heap[g]? = some o:=by rw [Dj.out.block g (zZ ho) cX];exact ho
   rw [b5 _ _ _ _ (by simpa using cX),cJ.block g (by rw [zK];have:=zZ h2;omega) (fun e=>(H.out.neM g e).2 hg),Below.heap_alloc _ _ _ (zZ h2)];exact h2
  have hG1:∀ g,(Value.slice a' (n+1) c').ownBlock=some g->(Value.slice am n cm).ownBlock=some g\/w.heap.size<=g:=by
   intro g hg
   rcases cB g hg with h | h
   ·exact .inl h
   ·have:g=W.heap.size+1:=by simpa using h
    have:=Dj.out.size;exact .inr (by omega)
  obtain ⟨V,hV⟩:=zzN (w7.setCell ⟨ma,0,none⟩ (.slice a' (n+1) c'))
  rw [hV] at n7 g0 g1 g2 g3 g4 gf1 hW1 aq hO2
  have HV:=bc hV;have HV1:=bc n7;have HV2:=bc hW1;have HV3:=bc aq;have HV4:=bc hO2;have HG:=bc hG1
  clear hV n7 hW1 aq hO2 hG1 dP cJ cB tQ
  clear d0 d1 d2 d3 d4 df0
  go_upto_region 6 with (fail)
  rw [HV.out]
  go_wp2_with (at_builtin;refine zW rfl _ _ 31 rfl 3 (.int .i64 0) 1 8 Tryz.underlying31 Tryz.infoInt rfl (by decide) (.slice ap n cp) n (jU log) rfl ?e1 _ 1 [.int .i64 p] rfl ?e2 ?e3 ?e4 ?_)
  case e1=>exact HV4.out.alloc _
  case e2=>exact zM.litk #[.int .i64 p] rfl (by simp [Value.oneCell']) _ (by simp)
  case e3=>unfold maxLen;omega
  case e4=>omega
  intro a2 c2 w9 ho9 tp hg9
  have hltV:ma<V.heap.size:=zZ HV1.out
  have tK:w9.heap[ma]? = some (.cells #[.slice a' (n+1) c',.slice ap n cp,.int .i64 (most:Nat),.int .i64 ((n+1:Nat):Int),.bool true] 126 (0,0)):=by
   rw [tp.block ma (by rw [zK];omega) (fun e=>H.out.neP ma e rfl),Below.heap_alloc _ _ _ hltV];exact HV1.out
  have nN:(w9.setCell ⟨ma,1,none⟩ (.slice a2 (n+1) c2)).heap[ma]? = some (.cells #[.slice a' (n+1) c',.slice a2 (n+1) c2,.int .i64 (most:Nat),.int .i64 ((n+1:Nat):Int),.bool true] 126 (0,0)):=by
   rw [zO tK];rfl
  obtain ⟨u0,u1,u2,u3,u4,uf⟩:=xL tK
  have uf1:=uf 1;clear uf
  obtain ⟨v0,v1,v2,v3,v4,vf⟩:=xL nN
  clear vf
  have eP:But (MBk ma (.slice am n cm) (.slice ap n cp)) w (w9.setCell ⟨ma,1,none⟩ (.slice a2 (n+1) c2)):=by
   refine But.setCell (p:=⟨ma,1,none⟩) ?_ (.inl (.inl rfl)) _
   exact (HV2.out.alloc _).trans' tp fun i _ hi=>.inr (.inr hi)
  have tR:w.heap.size<=W.heap.size:=Dj.out.size
  have hzV:w.heap.size<=V.heap.size:=HV2.out.size
  have hlM:∀ g,(Value.slice a' (n+1) c').ownBlock=some g->g<V.heap.size:=fun g hg=>HV3.out.lt hg
  have aU:∀ g,(Value.slice a' (n+1) c').ownBlock=some g->g≠ma/\(Value.slice ap n cp).ownBlock≠some g:=by
   intro g hg
   rcases HG.out g hg with h | h
   ·exact H.out.neM g h
   ·refine ⟨?_,fun e=>?_⟩
    ·have:=zZ H.out.blk;omega
    ·have:=(H.out.rows rfl).2.lt e;omega
  have BF:∀ g,(Value.slice a2 (n+1) c2).ownBlock=some g->(Value.slice ap n cp).ownBlock=some g\/g=V.heap.size+1:=by
   intro g hg
   rcases hg9 g hg with h | h
   ·exact .inl h
   ·exact .inr (by simpa using h)
  have hOM:Own (w9.setCell ⟨ma,1,none⟩ (.slice a2 (n+1) c2)) 9 1 (.slice a' (n+1) c') (n+1) (jk log++[str s]):=by
   refine HV3.out.keep fun g o hg ho=>?_
   obtain ⟨k1,k2⟩:=aU g hg
   have:=hlM g hg
   rw [b5 _ _ _ _ (by simpa using k1),tp.block g (by rw [zK];omega) k2,Below.heap_alloc _ _ _ this];exact ho
  have hOP:Own (w9.setCell ⟨ma,1,none⟩ (.slice a2 (n+1) c2)) 3 1 (.slice a2 (n+1) c2) (n+1) (jU log++[.int .i64 p]):=by
   refine ho9.keep fun g o hg ho=>?_
   rw [b5 _ _ _ _ (by
    intro e
    have e:g=ma:=by simpa using e
    subst e
    rcases BF g hg with h | h
    ·exact H.out.neP g h rfl
    ·omega)];exact ho
  have hMS:MS true most ma (log++[(s,p)]) (.slice a' (n+1) c') (.slice a2 (n+1) c2) (w9.setCell ⟨ma,1,none⟩ (.slice a2 (n+1) c2)):=by
   have b_:(log++[(s,p)]).length=n+1:=by rw [List.length_append,HL.out];rfl
   refine ⟨by rw [b_];exact nN,fun _=>⟨by rw [b_,wb];exact hOM,by rw [b_,logP_snoc];exact hOP⟩,fun h=>(Bool.noConfusion h),fun g hg=>⟨(aU g hg).1,fun e=>?_⟩,fun g hg=>?_⟩
   ·rcases BF g e with h | h
    ·exact (aU g hg).2 h
    ·have:=hlM g hg;omega
   ·rcases BF g hg with h | h
    ·exact H.out.neP g h
    ·omega
  have cU:∀ b,MBk ma (.slice a' (n+1) c') (.slice a2 (n+1) c2) b->MBk ma (.slice am n cm) (.slice ap n cp) b\/w.heap.size<=b:=by
   rintro b (h | h | h)
   ·exact .inl (.inl h)
   ·rcases HG.out b h with h | h
    ·exact .inl (.inr (.inl h))
    ·exact .inr h
   ·rcases BF b h with h | h
    ·exact .inl (.inr (.inr h))
    ·exact .inr (by omega)
  have HF:=bc (bm eP (bm hMS cU));clear eP hMS cU hOM hOP BF aU hlM nN tK ho9 tp hg9
  clear g0 g1 g2 g3 g4 gf1
  go_wp2_with fail
  refine bodyPost_ret (v:=.tuple #[.int .i64 (n:Nat),.nilIface]) (by simp [results,Tryz.results109,go_sem]) rfl ?_
  unfold vy
  rw [if_neg (fun e=>HE.out (HL.out.symm.trans e)),HL.out]
  exact ⟨_,_,rfl,HF.out.1,HF.out.2.1,HF.out.2.2⟩
theorem uN (keeps:Bool) (most ma:Nat) (log:List (Bs×Int)) (mv pt:Value) (s:Bs) (p:Int) (w:World) (h:MS keeps most ma log mv pt w) (hg:jH w) (hm:most<=16777216) (aP:log.length<=most) :
 Calls Tryz.prog 109 #[.pointer (some ⟨ma,0,none⟩),str s,.int .i64 p] w (vy keeps most ma log mv pt s p w):=by
 cases keeps with
 | true=>exact moveS_keep most ma log mv pt s p w h hg hm aP
 | false=>exact moveS_none most ma log mv pt s p w h hg hm aP
def encFr (f:Fr):List DV:=[kp f.yes,kp f.no,.sl 181 4 f.env.length (qQ f.env),.val (.int .i64 (f.begun:Nat)),.val (str f.path)]
def jT:List Fr->List DV
 | []=>[]
 | f::fs=>encFr f++jT fs
theorem uU:∀ (xs ys:List Fr),jT (xs++ys)=jT xs++jT ys
 | [],ys=>by simp [jT]
 | x::xs,ys=>by simp [jT,uU xs ys]
theorem xG:∀ fs:List Fr,(jT fs).length=fs.length*5
 | []=>by simp [jT]
 | f::fs=>by rw [jT,List.length_append,xG fs];simp [encFr];omega
mutual
def nB:Bd->Prop
 | .leaf _=>True
 | .ask _ ss y n=>ss.length<=15/\nBs ss/\nB y/\nB n
def nBs:List Bd->Prop
 | []=>True
 | b::bs=>nB b/\nBs bs
end
mutual
def okC (n:Nat):Clo->Prop
 | .mk b e _ p=>nB b/\ue n e/\e.length<=16*n/\p.length<=2*n
def ue (n:Nat):List Clo->Prop
 | []=>True
 | c::cs=>okC n c/\ue n cs
end
mutual
theorem okC_mono {n m:Nat} (h:n<=m):∀ c,okC n c->okC m c
 | .mk b e _ p,k=>by
   rw [okC] at *
   exact ⟨k.1,jd h e k.2.1,by have:=k.2.2.1;omega,by have:=k.2.2.2;omega⟩
theorem jd {n m:Nat} (h:n<=m):∀ cs,ue n cs->ue m cs
 | [],k=>by rw [ue] at *;trivial
 | c::cs,k=>by rw [ue] at *;exact ⟨okC_mono h c k.1,jd h cs k.2⟩
end
theorem okCs_at {n:Nat}:∀ (cs:List Clo),ue n cs->∀ (i:Nat) (c:Clo),cs[i]? = some c->okC n c
 | [],_,i,c,h=>by simp at h
 | x::cs,k,i,c,h=>by
   rw [ue] at k
   cases i with
   | zero=>simp at h;subst h;exact k.1
   | succ i=>exact okCs_at cs k.2 i c (by simpa using h)
theorem pT {n:Nat}:∀ (xs ys:List Clo),ue n xs->ue n ys->ue n (xs++ys)
 | [],ys,_,h=>h
 | x::xs,ys,h,k=>by rw [ue] at h;exact ⟨h.1,pT xs ys h.2 k⟩
theorem xA {n m:Nat} {env:List Clo} {p:Bs} (he:ue n env) (hl:env.length<=16*n) (hp:p.length+2<=2*n):∀ (ss:List Bd) (i:Nat),i+ss.length<=100->nBs ss->ue n (zq env m p i ss)
 | [],i,_,_=>by rw [zq,ue];trivial
 | s::ss,i,hi,h=>by
   rw [nBs] at h
   simp only [List.length_cons] at hi
   rw [zq,ue]
   refine ⟨?_,xA he hl hp ss (i+1) (by omega) h.2⟩
   rw [okC]
   refine ⟨h.1,he,hl,?_⟩
   have:=qx 1 i (by omega)
   simp only [List.length_append];omega
def Chg (ma:Nat) (mv pt:Value) (B:Nat) (sv:Value) (i:Nat):Prop:=MBk ma mv pt i\/i=B\/sv.ownBlock=some i
theorem vO {Ch Ch':Nat->Prop} {w w':World} (hb:But Ch w w') (hn:∀ i,Ch' i->Ch i\/w.heap.size<=i) {d:DV} {v:Value} (h:Rep (fun i=>¬ Ch i) w d v):Rep (fun i=>¬ Ch' i) w' d v :=
 (Rep.keep fun b o hf ho=>⟨fun e=>by
  rcases hn b e with h | h
  ·exact hf h
  ·have:=zZ ho;omega,by rw [hb.block b (zZ ho) hf];exact ho⟩).1 d v h
theorem y4 {Ch Ch':Nat->Prop} {w w':World} (hb:But Ch w w') (hn:∀ i,Ch' i->Ch i\/w.heap.size<=i) {d:List DV} {v:List Value} (h:zG (fun i=>¬ Ch i) w d v):zG (fun i=>¬ Ch' i) w' d v :=
 (Rep.keep fun b o hf ho=>⟨fun e=>by
  rcases hn b e with h | h
  ·exact hf h
  ·have:=zZ ho;omega,by rw [hb.block b (zZ ho) hf];exact ho⟩).2 d v h
structure FrOk (n:Nat) (f:Fr):Prop where
 fit:frFit f
 yes:nB f.yes
 no:nB f.no
 env:ue n f.env
 len:f.env.length<=16*n
 path:f.path.length<=2*n
theorem FrOk.mono {n m:Nat} {f:Fr} (h:FrOk n f) (k:n<=m):FrOk m f:=⟨h.fit,h.yes,h.no,jd k _ h.env,by have:=h.len;omega,by have:=h.path;omega⟩
def jK (xs:List (Bs×Nat)):List (Bs×Int):=xs.map fun y=>(y.1,(y.2:Int))
structure RunPl (R:Option (UInt8×List (Bs×Int))) (most:Nat) (b:Bd) (env:List Clo) (begun:Nat) (path:Bs) (st:List Fr) (log:List (Bs×Int)):Prop where
 le:log.length<=most
 goes:R=(vI (most-log.length) log.length b env begun path st).map fun x=>(x.1,log++jK x.2)
 fit:∃ hand,kw env hand/\kJ hand b
 nb:nB b
 oke:ue log.length env
 len:env.length<=16*log.length
 lpath:path.length<=2*log.length
 frs:∀ f∈st,FrOk log.length f
 stl:st.length<=log.length
structure RunAt (keeps:Bool) (most ma:Nat) (nW nU:Value) (w:World) (B:Nat) (b:Bd) (env:List Clo) (begun:Nat) (path:Bs) (st:List Fr) (log:List (Bs×Int)) (mv pt:Value) (bv ev sv:Value) (cells:List Value) (wr:World):Prop where
 ms:MS keeps most ma log mv pt wr
 rb:Rep (fun i=>¬ Chg ma mv pt B sv i) wr (kp b) bv
 re:Rep (fun i=>¬ Chg ma mv pt B sv i) wr (.sl 181 4 env.length (qQ env)) ev
 own:Own wr 177 5 sv st.length cells
 rs:zG (fun i=>¬ Chg ma mv pt B sv i) wr (jT st.reverse) cells
 beg:wr.heap[B]? = some (.cells #[.int .i64 (begun:Nat),str path] 115 (0,0))
 but:But (MBk ma nW nU) w wr
 new:∀ i,MBk ma mv pt i->MBk ma nW nU i\/w.heap.size<=i
 bB:w.heap.size<=B/\¬ MBk ma mv pt B
 sB:∀ g,sv.ownBlock=some g->w.heap.size<=g/\g≠B/\¬ MBk ma mv pt g
theorem gA {R:Option (UInt8×List (Bs×Int))} {most:Nat} {c:UInt8} {env:List Clo} {begun:Nat} {path:Bs} {f:Fr} {st:List Fr} {log:List (Bs×Int)} (h:RunPl R most (.leaf c) env begun path (f::st) log) (hc:c≠117) (hm:log.length≠most) :
 RunPl R most (if c=116 then f.yes else f.no) f.env f.begun f.path st (log++[(c::path,(begun:Int))]):=by
 obtain ⟨d_,m_,ct,eK,aF,b_,AZ,mC,fJ⟩:=h
 have hl:(log++[(c::path,(begun:Int))]).length=log.length+1:=by simp
 have k:=mC f (by simp)
 obtain ⟨hand,k1,k2,k3⟩:=k.fit
 refine ⟨by rw [hl];omega,?_,⟨hand,k1,by split <;> assumption⟩,by { split;exact k.yes;exact k.no },by rw [hl];exact jd (by omega) _ k.env,by rw [hl];have:=k.len;omega,by rw [hl];have:=k.path;omega,fun g hg=>by rw [hl];exact (mC g (by simp [hg])).mono (by omega),by rw [hl];simp at fJ;omega⟩
 rw [m_,hl]
 obtain ⟨d,hd⟩:∃ d,most-log.length=d+1:=⟨most-log.length-1,by omega⟩
 rw [hd,uD hc,show most-(log.length+1)=d from by omega,Option.map_map]
 congr 1
 funext x
 simp [jK]
theorem runpl_ask {R:Option (UInt8×List (Bs×Int))} {most:Nat} {v:Nat} {ss:List Bd} {y n:Bd} {env:List Clo} {begun:Nat} {path:Bs} {st:List Fr} {log:List (Bs×Int)} (h:RunPl R most (.ask v ss y n) env begun path st log) (hm:log.length≠most) {e:Clo} (he:env[v]? = some e) :
 RunPl R most e.body (e.env++zq env log.length e.path 0 ss) log.length e.path (⟨y,n,env,begun,path⟩::st) (log++[(113::e.path,(e.begun:Int))]):=by
 obtain ⟨d_,m_,ct,eK,aF,b_,AZ,mC,fJ⟩:=h
 have hl:(log++[(113::e.path,(e.begun:Int))]).length=log.length+1:=by simp
 obtain ⟨hand,k1,k2⟩:=ct
 obtain ⟨e',lw,dg,j1,j2⟩:=ask_next k2 k1 log.length
 rw [he] at lw;simp at lw;subst lw
 have eT:=okCs_at _ aF _ _ he
 rw [nB] at eK
 obtain ⟨eb,ee,eg,ep⟩:=e
 rw [okC] at eT
 simp only [Clo.body,Clo.env,Clo.begun,Clo.path] at *
 refine ⟨by rw [hl];omega,?_,⟨dg,j1,j2⟩,eT.1,?_,?_,?_,?_,?_⟩
 ·rw [m_,hl]
  obtain ⟨d,hd⟩:∃ d,most-log.length=d+1:=⟨most-log.length-1,by omega⟩
  rw [hd,yA _ _ _ _ _ _ _ _ _ _ he,show most-(log.length+1)=d from by omega,Option.map_map]
  simp only [Clo.body,Clo.env,Clo.begun,Clo.path]
  congr 1
  funext x
  simp [jK]
 ·rw [hl]
  exact pT _ _ (jd (by omega) _ eT.2.1) (xA (jd (by omega) _ aF) (by omega) (by have:=eT.2.2.2;omega) ss 0 (by omega) eK.2.1)
 ·rw [hl,List.length_append,kn];have:=eT.2.2.1;omega
 ·rw [hl];have:=eT.2.2.2;omega
 ·intro f hf
  rw [hl]
  rcases List.mem_cons.1 hf with rfl | hf
  ·exact ⟨frame_next k2 k1 begun path,eK.2.2.1,eK.2.2.2,jd (by omega) _ aF,by simp only;omega,by simp only;omega⟩
  ·exact (mC f hf).mono (by omega)
 ·rw [hl];simp only [List.length_cons];omega
def RunPost (R:Option (UInt8×List (Bs×Int))) (keeps:Bool) (most ma:Nat) (mv pt:Value) (w:World) (en:Ending) (w':World):Prop :=
 But (MBk ma mv pt) w w'/\(R=none->∃ te pe,en=.returned (.tuple #[str [],.iface te pe])) /\
  (∀ c log,R=some (c,log)->en=.returned (.tuple #[str [c],.nilIface])/\∃ mv' pt',MS keeps most ma log mv' pt' w'/\(∀ i,MBk ma mv' pt' i->MBk ma mv pt i\/w.heap.size<=i))
def RunRel (R:Option (UInt8×List (Bs×Int))) (keeps:Bool) (most ma:Nat) (nW nU:Value) (w:World) (B:Nat) (bv ev sv:Value) (wr:World):Prop :=
 ∃ b env begun path st log mv pt cells,RunPl R most b env begun path st log/\RunAt keeps most ma nW nU w B b env begun path st log mv pt bv ev sv cells wr
def leftM (most ma:Nat) (wr:World):Nat:=match wr.heap[ma]? with
 | some (.cells c _ _)=>most-(intOf (c.getD 3 (.int .i64 0))).toNat
 | _=>0
theorem x9 {keeps:Bool} {most ma:Nat} {log:List (Bs×Int)} {mv pt:Value} {w:World} (h:MS keeps most ma log mv pt w):leftM most ma w=most-log.length:=by
 unfold leftM
 rw [h.blk]
 simp [intOf]
theorem env0_fit:∀ (ar:List Bd) (ts:List Ty) (i:Nat),zg (ts.map Ty.args) ar->kw (zq [] 0 [] i ar) ts
 | [],ts,i,h=>by
   rw [zg] at h
   have:ts=[]:=by simpa using h
   subst this;simp [zq,kw]
 | a::ar,ts,i,h=>by
   rw [zg] at h
   obtain ⟨h',eN,e,h1,h2⟩:=h
   cases ts with
   | nil=>simp at e
   | cons t ts =>
     simp only [List.map_cons,List.cons.injEq] at e
     obtain ⟨rfl,rfl⟩:=e
     rw [zq,kw]
     refine ⟨t,ts,rfl,?_,env0_fit ar ts (i+1) h2⟩
     rw [bM]
     exact ⟨[],by rw [kw],by simpa using h1⟩
theorem subs_open {F:Nat->Prop} {w:World} {ss:List Bd} {v:Value} (h:Rep F w (.sl 55 1 ss.length (qJ ss)) v) :
 ∃ a c us,v=.slice a ss.length c/\zG F w (qJ ss) us/\∀ k,k<ss.length->∃ b o u,a=some ⟨b,o,none⟩/\us[k]? = some (.pointer (some ⟨u,0,none⟩))/\F b/\w.cell? ⟨b,o+k,none⟩=some (.pointer (some ⟨u,0,none⟩)):=by
 rw [kP] at h
 obtain ⟨hl,a,cap,rfl,hn,hz,h⟩:=h
 rcases h with h0 | ⟨b,o,c,fr,rfl,hb,hc,hr⟩
 ·have:ss=[]:=List.eq_nil_of_length_eq_zero h0
  subst this
  exact ⟨a,cap,[],rfl,by rw [qJ];exact zC.2 rfl,fun k hk=>by simp at hk⟩
 ·refine ⟨_,cap,_,rfl,hr,fun k hk=>?_⟩
  obtain ⟨u,hu,mP⟩:=hr.at (i:=k) (d:=kp ss[k]) (by rw [bC,List.getElem?_eq_getElem hk];rfl)
  obtain ⟨ub,rfl⟩:=kU mP
  refine ⟨b,o,ub,rfl,hu,hb,?_⟩
  rw [Nat.mul_one,List.getElem?_take,if_pos hk,List.getElem?_drop] at hu
  simp only [World.cell?,hc];simpa using hu
theorem bY {ma:Nat} {mv pt:Value} {w w':World} (hg:qF w/\jH w) (hn:∀ i,MBk ma mv pt i->p_ i/\i≠0) (hb:But (MBk ma mv pt) w w'):qF w'/\jH w' :=
 ⟨hg.1.but hb fun i hi=>(hn i hi).1,hg.2.but hb fun e=>(hn _ e).2 rfl⟩
theorem gl {ma:Nat} {mv pt:Value} {w:World} (hg:qF w/\jH w) (hn:∀ i,MBk ma mv pt i->p_ i/\i≠0) {i:Nat} (hi:MBk ma mv pt i\/w.heap.size<=i):p_ i/\i≠0:=by
 rcases hi with hi | hi
 ·exact hn i hi
 ·refine ⟨hg.1.new hi,?_⟩
  obtain ⟨te,pe,h⟩:=hg.2
  have h2:0<w.heap.size:=be w _ h
  omega
theorem run_start {keeps:Bool} {most ma:Nat} {mv pt iK iZ:Value} {w w1 w3 w4:World} {O:Obj} {b:Bd} {ar:List Bd} {bv:Value} {us:List Value} {ea:Option Addr} {ec:Nat}
 (hO:O=.cells #[.int .i64 ((0:Nat):Int),str []] 115)
 (b9:But (MBk ma mv pt) w w1) (fv:MS keeps most ma [([113],-1)] iK iZ w1) (cT:∀ b,MBk ma iK iZ b->MBk ma mv pt b\/w.heap.size<=b)
 (cP:Below (w1.alloc O).heap.size (w1.alloc O) w3) (cA:Below w3.heap.size w3 w4) (nd:Own w4 181 4 (.slice ea ar.length ec) ar.length (xz us (.slice none 0 0) 0 [] ar.length))
 (lq:∀ g,(Value.slice ea ar.length ec).ownBlock=some g->w3.heap.size<=g) (rb:Rep (fun i=>¬ MBk ma mv pt i) w (kp b) bv) (rg:zG (fun i=>¬ MBk ma mv pt i) w (qJ ar) us) (hma:∀ i,MBk ma iK iZ i->i<w1.heap.size) :
 RunAt keeps most ma mv pt w w1.heap.size b (zq [] 0 [] 0 ar) 0 [] [] [([113],-1)] iK iZ bv (.slice ea ar.length ec) (.slice none 0 0) [] w4:=by
 have tS:w1.heap.size+1<=w3.heap.size:=by have:=cP.size;rwa [zK] at this
 have dX:But (MBk ma mv pt) w w4:=((b9.alloc O).trans (But.ofBelow cP)).trans (But.ofBelow cA)
 have aL:Below w1.heap.size w1 w4:=(((bi w1.heap.size w1).alloc (br _) O).trans (cP.mono (by rw [zK];omega))).trans (cA.mono (by omega))
 have d8:=b9.size
 have hn:∀ i,Chg ma iK iZ w1.heap.size (.slice none 0 0) i->MBk ma mv pt i\/w.heap.size<=i:=by
  rintro i (h | h | h)
  ·exact cT i h
  ·exact .inr (by omega)
  ·simp [Value.ownBlock] at h
 have mZ:Rep (fun i=>¬ Chg ma iK iZ w1.heap.size (.slice none 0 0) i) w4 (.sl 181 4 ([]:List Clo).length (qQ [])) (.slice none 0 0):=kP.2 ⟨rfl,none,0,rfl,br _,fun _=>rfl,.inl rfl⟩
 have mr:=ents_rep (env:=[]) (m:=0) (p:=[]) (y4 dX hn rg) mZ ar.length (br _)
 have dI:(zq [] 0 [] 0 ar).take ar.length=zq [] 0 [] 0 ar:=List.take_of_length_le (by rw [kn];exact br _)
 rw [dI] at mr
 refine ⟨fv.but (But.ofBelow (m:=fun _=>False) aL) (fun _ _ h=>h),vO dX hn rb,?_,World.ownsRow_nil _ _ _ _,zC.2 rfl,?_,dX,cT,⟨by omega,fun h=>?_⟩,fun g h=>by simp [Value.ownBlock] at h⟩
 ·rw [kn]
  refine nd.rep (fun g hg=>?_) mr
  have h3:=lq g hg
  rintro (h | h | h)
  ·have:=hma g h;omega
  ·omega
  ·simp [Value.ownBlock] at h
 ·subst hO
  rw [cA.block _ (by omega),cP.block _ (by rw [zK];omega)]
  exact zS _ _
 ·have:=hma _ h;omega
theorem MS.drew {keeps:Bool} {most ma:Nat} {log:List (Bs×Int)} {mv pt:Value} {w:World} (h:MS keeps most ma log mv pt w):MS keeps most ma log mv pt w.drew:=h.but (m:=fun _=>False) (But.refl _ _).drew fun _ _ h=>h
theorem jH.drew {w:World} (h:jH w):jH w.drew:=h
theorem wD {w w':World} (h:Below w.drew.heap.size w.drew w'):Below w.heap.size w w':=⟨h.os,h.tape,h.output,h.size,h.block⟩
theorem but_ud {m:Nat->Prop} {w w':World} (h:But m w.drew w'):But m w w':=⟨h.os,h.tape,h.output,h.size,h.block⟩
theorem wl {m:Nat->Prop} {w w':World} {a b c:Addr} {u v x:Value} (hb:But m w w') (ha:w.cell? a=some u) (hbb:w.cell? b=some v) (hc:w.cell? c=some x) (na:¬ m a.block) (nb:¬ m b.block) (nc:¬ m c.block) :
 w'.cell? a=some u/\w'.cell? b=some v/\w'.cell? c=some x :=
 ⟨(hb.cell (be w _ ha) na).trans ha,(hb.cell (be w _ hbb) nb).trans hbb,(hb.cell (be w _ hc) nc).trans hc⟩
theorem frame_top {F:Nat->Prop} {wr:World} {sv:Value} {f:Fr} {st:List Fr} {cells:List Value} (ho:Own wr 177 5 sv (st.length+1) cells) (hr:zG F wr (jT (f::st).reverse) cells) :
 ∃ g c yv nv ev cells1,sv=.slice (some ⟨g,0,none⟩) (st.length+1) c/\st.length+1<=c/\wr.cell? ⟨g,st.length*5,none⟩=some yv/\wr.cell? ⟨g,st.length*5+1,none⟩=some nv/\wr.cell? ⟨g,st.length*5+2,none⟩=some ev /\
   wr.cell? ⟨g,st.length*5+3,none⟩=some (.int .i64 (f.begun:Nat))/\wr.cell? ⟨g,st.length*5+4,none⟩=some (str f.path)/\cells=cells1++[yv,nv,ev,.int .i64 (f.begun:Nat),str f.path]/\cells1.length=st.length*5 /\
   zG F wr (jT st.reverse) cells1/\Rep F wr (kp f.yes) yv/\Rep F wr (kp f.no) nv/\Rep F wr (.sl 181 4 f.env.length (qQ f.env)) ev:=by
 rw [List.reverse_cons,uU] at hr
 have hs:=hr.split
 rw [xG,List.length_reverse] at hs
 obtain ⟨h1,h2⟩:=hs
 simp only [jT,encFr,List.append_nil,zJ,zC,zI] at h2
 obtain ⟨yv,_,e1,k1,nv,_,rfl,k2,ev,_,rfl,k3,_,_,rfl,rfl,_,_,rfl,rfl,rfl⟩:=h2
 have fK:cells=cells.take (st.length*5)++[yv,nv,ev,.int .i64 (f.begun:Nat),str f.path]:=by rw [<- e1,List.take_append_drop]
 have hl:(cells.take (st.length*5)).length=st.length*5:=by
  have:=ho.1;rw [List.length_take];omega
 have at5:∀ (j:Nat) (u:Value),[yv,nv,ev,.int .i64 (f.begun:Nat),str f.path][j]? = some u->cells[st.length*5+j]? = some u:=by
  intro j u hj
  rw [fK,List.getElem?_append_right (by omega),hl,Nat.add_sub_cancel_left];exact hj
 obtain ⟨g,c,es,sZ⟩:=ho.at (at5 0 yv rfl)
 subst es
 have get:∀ (j:Nat) (u:Value),[yv,nv,ev,.int .i64 (f.begun:Nat),str f.path][j]? = some u->wr.cell? ⟨g,st.length*5+j,none⟩=some u:=by
  intro j u hj
  obtain ⟨g',c',es,hc⟩:=ho.at (at5 j u hj)
  simp only [Value.slice.injEq,Option.some.injEq,Addr.mk.injEq,and_true,true_and] at es
  obtain ⟨rfl,rfl⟩:=es
  exact hc
 have dz:st.length+1<=c:=by
  rcases ho.2 with ⟨e,_⟩ | ⟨g',cap,cur,e,_,_,mT,_⟩
  ·simp at e
  ·simp only [Value.slice.injEq,true_and] at e
   rw [e.2];exact mT
 exact ⟨g,c,yv,nv,ev,_,rfl,dz,get 0 _ rfl,get 1 _ rfl,get 2 _ rfl,get 3 _ rfl,get 4 _ rfl,fK,hl,h1,k1,k2,k3⟩
theorem heap_push (w:World) (o:Obj) {i:Nat} (h:i<w.heap.size):(w.alloc o).heap[i]? = w.heap[i]?:=Below.heap_alloc _ _ _ h
theorem gL {keeps:Bool} {most ma:Nat} {mv pt:Value} {w:World} {B:Nat} {b0 nb:Bd} {env:List Clo} {begun:Nat} {path:Bs} {f:Fr} {st:List Fr} {log log':List (Bs×Int)} {cD cC cr cd bv ev:Value} {g sc:Nat} {cells cells1:List Value} {wr w1:World} {O:Obj} {nv fe:Value} {tl:List Value}
 (h:RunAt keeps most ma mv pt w B b0 env begun path (f::st) log cD cC bv ev (.slice (some ⟨g,0,none⟩) (st.length+1) sc) cells wr)
 (fK:cells=cells1++tl) (rF:cells1.length=st.length*5)
 (cw:zG (fun i=>¬ Chg ma cD cC B (.slice (some ⟨g,0,none⟩) (st.length+1) sc) i) wr (jT st.reverse) cells1)
 (rn:Rep (fun i=>¬ Chg ma cD cC B (.slice (some ⟨g,0,none⟩) (st.length+1) sc) i) wr (kp nb) nv)
 (re:Rep (fun i=>¬ Chg ma cD cC B (.slice (some ⟨g,0,none⟩) (st.length+1) sc) i) wr (.sl 181 4 f.env.length (qQ f.env)) fe)
 (b9:But (MBk ma cD cC) wr w1) (mm:MS keeps most ma log' cr cd w1) (hn:∀ b,MBk ma cr cd b->MBk ma cD cC b\/wr.heap.size<=b) {W:World}
 (hW:W=((w1.alloc O).setCell ⟨B,0,none⟩ (.int .i64 (f.begun:Nat))).setCell ⟨B,1,none⟩ (str f.path)) :
 RunAt keeps most ma mv pt w B nb f.env f.begun f.path st log' cr cd nv fe (.slice (some ⟨g,0,none⟩) st.length sc) cells1 W.drew:=by
 subst hW
 have i6:=zZ h.beg
 have du:=b9.size
 have dr:=h.sB g rfl
 have b8:But (Chg ma cD cC B (.slice (some ⟨g,0,none⟩) (st.length+1) sc)) wr (((w1.alloc O).setCell ⟨B,0,none⟩ (.int .i64 (f.begun:Nat))).setCell ⟨B,1,none⟩ (str f.path)).drew :=
  (((b9.weak fun i _ hi=>.inl hi).alloc O).setCell (p:=⟨B,0,none⟩) (.inl (.inr (.inl rfl))) _ |>.setCell (p:=⟨B,1,none⟩) (.inl (.inr (.inl rfl))) _).drew
 have e_:∀ i,MBk ma cr cd i->i≠B:=by
  rintro i hi rfl
  rcases hn _ hi with h' | h'
  ·exact h.bB.2 h'
  ·omega
 have s5:∀ i,Chg ma cr cd B (.slice (some ⟨g,0,none⟩) st.length sc) i->Chg ma cD cC B (.slice (some ⟨g,0,none⟩) (st.length+1) sc) i\/wr.heap.size<=i:=by
  rintro i (hi | hi | hi)
  ·rcases hn i hi with h' | h'
   ·exact .inl (.inl h')
   ·exact .inr h'
  ·exact .inl (.inr (.inl hi))
  ·exact .inl (.inr (.inr hi))
 have db:w1.heap[B]? = some (.cells #[.int .i64 (begun:Nat),str path] 115 (0,0)):=by rw [b9.block B i6 h.bB.2];exact h.beg
 have hbl2:(w1.alloc O).heap[B]? = some (.cells #[.int .i64 (begun:Nat),str path] 115 (0,0)):=zX db
 have tR:=h.but.size
 refine ⟨?_,vO b8 s5 rn,vO b8 s5 re,?_,y4 b8 s5 cw,?_,?_,?_,⟨h.bB.1,fun hi=>e_ _ hi rfl⟩,fun g' ch=>?_⟩
 ·refine mm.but (m:=fun i=>i=B) ?_ fun b hb e=>e_ b hb e
  exact (((But.refl (fun i=>i=B) w1).alloc O).setCell (p:=⟨B,0,none⟩) (.inl rfl) _ |>.setCell (p:=⟨B,1,none⟩) (.inl rfl) _).drew
 ·have hs:=h.own.short (m:=st.length) (by simp) (by simp)
  rw [fK,<- rF,List.take_left] at hs
  refine (hs.keep fun g' o ch ho=>?_)
  have e:g'=g:=by simpa [Value.ownBlock] using ch.symm
  subst e
  have cZ:=zZ ho
  show (((w1.alloc O).setCell ⟨B,0,none⟩ (.int .i64 (f.begun:Nat))).setCell ⟨B,1,none⟩ (str f.path)).heap[g']? = _
  rw [b5 _ _ _ _ dr.2.1,b5 _ _ _ _ dr.2.1,heap_push _ _ (by omega),b9.block g' cZ dr.2.2]
  exact ho
 ·show (((w1.alloc O).setCell ⟨B,0,none⟩ (.int .i64 (f.begun:Nat))).setCell ⟨B,1,none⟩ (str f.path)).heap[B]? = _
  rw [zO (zO hbl2)];rfl
 ·refine h.but.trans' b8 fun i hi hh=>?_
  rcases hh with hh | hh | hh
  ·rcases h.new i hh with h' | h'
   ·exact h'
   ·omega
  ·subst hh;have:=h.bB.1;omega
  ·have:=(h.sB i hh).1;omega
 ·intro i hi
  rcases hn i hi with h' | h'
  ·exact h.new i h'
  ·exact .inr (by omega)
 ·have e:g'=g:=by simpa [Value.ownBlock] using ch.symm
  subst e
  refine ⟨dr.1,dr.2.1,fun hi=>?_⟩
  rcases hn _ hi with h' | h'
  ·exact dr.2.2 h'
  ·have:=h.own.lt (g:=g') rfl;omega
def v8 (most:Nat) (b:Bd) (ar:List Bd):Option (UInt8×List (Bs×Int)):=(vI (most-1) 1 b (zq [] 0 [] 0 ar) 0 [] []).map fun x=>(x.1,[([113],-1)]++jK x.2)
theorem env_at {F:Nat->Prop} {w:World} {env:List Clo} {ev:Value} (h:Rep F w (.sl 181 4 env.length (qQ env)) ev) {v:Nat} {c:Clo} (hc:env[v]? = some c) :
 ∃ b o cap u ea ec,ev=.slice (some ⟨b,o,none⟩) env.length cap/\F b/\b<w.heap.size/\w.cell? ⟨b,o+v*4,none⟩=some (.pointer (some ⟨u,0,none⟩))/\w.cell? ⟨b,o+v*4+1,none⟩=some (.slice ea c.env.length ec) /\
   w.cell? ⟨b,o+v*4+2,none⟩=some (.int .i64 (c.begun:Nat))/\w.cell? ⟨b,o+v*4+3,none⟩=some (str c.path)/\Rep F w (kp c.body) (.pointer (some ⟨u,0,none⟩))/\Rep F w (.sl 181 4 c.env.length (qQ c.env)) (.slice ea c.env.length ec):=by
 have hv:=(List.getElem?_eq_some_iff.1 hc).1
 rw [kP] at h
 obtain ⟨hl,a,cap,rfl,hn,hz,h⟩:=h
 rcases h with h0 | ⟨b,o,cs,fr,rfl,hb,hcs,hr⟩
 ·omega
 have lV:qQ env=qQ (env.take v)++(encC c++qQ (env.drop (v+1))):=by
  have e:env=env.take v++c::env.drop (v+1):=by
   have:env[v]=c:=(List.getElem?_eq_some_iff.1 hc).2
   rw [<- this,List.getElem_cons_drop,List.take_append_drop]
  conv=>lhs;rw [e]
  rw [vD,qQ]
 rw [lV] at hr
 have h2:=hr.split.2
 rw [wW,List.length_take,Nat.min_eq_left (by omega)] at h2
 have h3:=h2.split.1
 rw [pu] at h3
 obtain ⟨cb,ce,cg,cp⟩:=c
 simp only [encC,zJ,zC,zI] at h3
 obtain ⟨x0,_,e1,k1,x1,_,rfl,k2,_,_,rfl,rfl,_,_,rfl,rfl,rfl⟩:=h3
 obtain ⟨u,rfl⟩:=kU k1
 obtain ⟨ea,ec,rfl⟩:∃ a c,x1=.slice a ce.length c:=by
  have h:=k2;rw [kP] at h;obtain ⟨_,a,c,e,_⟩:=h;exact ⟨a,c,e⟩
 have get:∀ (j:Nat) (u':Value),j<4->[.pointer (some ⟨u,0,none⟩),.slice ea ce.length ec,.int .i64 (cg:Nat),str cp][j]? = some u'->w.cell? ⟨b,o+v*4+j,none⟩=some u':=by
  intro j u' hj h
  rw [<- e1,List.getElem?_take,if_pos hj,List.getElem?_drop,List.getElem?_take,if_pos (by omega),List.getElem?_drop] at h
  simp only [World.cell?,hcs]
  simpa [Nat.add_assoc] using h
 exact ⟨b,o,cap,u,ea,ec,rfl,hb,zZ hcs,get 0 _ (by omega) rfl,get 1 _ (by omega) rfl,get 2 _ (by omega) rfl,get 3 _ (by omega) rfl,k1,k2⟩
structure Tri (bb B P:Nat) (v:Nat) (sl yv nv:Value) (begun:Nat) (path:Bs) (q0 q1 q2 q3:Value) (w:World):Prop where
 b:w.heap[bb]? = some (.cells #[str [],.int .i64 v,sl,yv,nv] 105 (0,0))
 g:w.heap[B]? = some (.cells #[.int .i64 (begun:Nat),str path] 115 (0,0))
 p:w.heap[P]? = some (.cells #[q0,q1,q2,q3] 181 (0,0))
theorem Tri.but {bb B P v:Nat} {sl yv nv:Value} {begun:Nat} {path:Bs} {q0 q1 q2 q3:Value} {w w':World} {m:Nat->Prop} (h:Tri bb B P v sl yv nv begun path q0 q1 q2 q3 w) (hb:But m w w') (n1:¬ m bb) (n2:¬ m B) (n3:¬ m P):Tri bb B P v sl yv nv begun path q0 q1 q2 q3 w' :=
 ⟨by rw [hb.block _ (zZ h.b) n1];exact h.b,by rw [hb.block _ (zZ h.g) n2];exact h.g,by rw [hb.block _ (zZ h.p) n3];exact h.p⟩
theorem Tri.below {bb B P v:Nat} {sl yv nv:Value} {begun:Nat} {path:Bs} {q0 q1 q2 q3:Value} {w w':World} (h:Tri bb B P v sl yv nv begun path q0 q1 q2 q3 w) (hb:Below w.heap.size w w'):Tri bb B P v sl yv nv begun path q0 q1 q2 q3 w' :=
 h.but (m:=fun _=>False) (But.ofBelow hb) (fun h=>h) (fun h=>h) (fun h=>h)
theorem Tri.drew {bb B P v:Nat} {sl yv nv:Value} {begun:Nat} {path:Bs} {q0 q1 q2 q3:Value} {w:World} (h:Tri bb B P v sl yv nv begun path q0 q1 q2 q3 w):Tri bb B P v sl yv nv begun path q0 q1 q2 q3 w.drew:=⟨h.b,h.g,h.p⟩
theorem Tri.cells {bb B P v:Nat} {sl yv nv:Value} {begun:Nat} {path:Bs} {q0 q1 q2 q3:Value} {w:World} (h:Tri bb B P v sl yv nv begun path q0 q1 q2 q3 w) :
 w.cell? ⟨bb,2,none⟩=some sl/\w.cell? ⟨bb,3,none⟩=some yv/\w.cell? ⟨bb,4,none⟩=some nv/\w.cell? ⟨B,0,none⟩=some (.int .i64 (begun:Nat))/\w.cell? ⟨B,1,none⟩=some (str path) /\
  w.cell? ⟨P,0,none⟩=some q0/\w.cell? ⟨P,1,none⟩=some q1/\w.cell? ⟨P,2,none⟩=some q2/\w.cell? ⟨P,3,none⟩=some q3/\w.frozen? ⟨B,0,none⟩=false/\w.frozen? ⟨B,1,none⟩=false/\P<w.heap.size/\B<w.heap.size/\bb<w.heap.size :=
 ⟨by simp [World.cell?,h.b],by simp [World.cell?,h.b],by simp [World.cell?,h.b],by simp [World.cell?,h.g],by simp [World.cell?,h.g],by simp [World.cell?,h.p],by simp [World.cell?,h.p],by simp [World.cell?,h.p],by simp [World.cell?,h.p],by simp [World.frozen?,h.g],by simp [World.frozen?,h.g],zZ h.p,zZ h.g,zZ h.b⟩
theorem zM.ofOwn {w:World} {e:TypeId} {sz n:Nat} {v:Value} {xs:List Value} (h:Own w e sz v n xs) (hc:∀ u∈xs,u.oneCell'=true):zM sz v n xs w:=by
 refine ⟨h.1,hc,?_⟩
 rcases h.2 with ⟨rfl,rfl⟩ | ⟨g,cap,cur,rfl,_,hg,_,_,_,ht⟩
 ·exact .inr ⟨rfl,rfl⟩
 ·refine .inl ⟨_,cap,rfl,fun j u hj=>?_⟩
  obtain ⟨g',c',e',tx⟩:=h.at hj
  simp only [Value.slice.injEq,Option.some.injEq,Addr.mk.injEq,and_true,true_and] at e'
  obtain ⟨rfl,rfl⟩:=e'
  unfold Addr.add
  split
  ·subst j;exact tx
  ·simpa using tx
theorem ents_one {us:List Value} (hu:∀ u∈us,u.oneCell'=true) {ev:Value} (he:ev.oneCell'=true) (m:Nat) (p:Bs):∀ n,∀ u∈xz us ev m p n,u.oneCell'=true:=by
 intro n
 induction n with
 | zero=>simp [xz]
 | succ n ih =>
   intro u fm
   rw [xz] at fm
   rcases List.mem_append.1 fm with h | h
   ·exact ih u h
   ·simp only [List.mem_cons,List.not_mem_nil,or_false] at h
    rcases h with rfl | rfl | rfl | rfl
    ·rw [List.getD_eq_getElem?_getD]
     cases hq:us[n]? with
     | none=>rfl
     | some x=>exact hu x (List.mem_of_getElem? hq)
    ·exact he
    ·rfl
    ·rfl
theorem xU {F:Nat->Prop} {w:World}:∀ (cs:List Clo) (us:List Value),zG F w (qQ cs) us->∀ u∈us,u.oneCell'=true
 | [],us,h,u,hu=>by rw [qQ,zC] at h;subst h;simp at hu
 | .mk b e g p::cs,us,h,u,hu=>by
   simp only [qQ,encC,List.cons_append,List.nil_append,zJ,zI] at h
   obtain ⟨x0,_,rfl,k1,x1,_,rfl,k2,_,_,rfl,rfl,_,us',rfl,rfl,k3⟩:=h
   simp only [List.mem_cons] at hu
   rcases hu with rfl | rfl | rfl | rfl | hu
   ·obtain ⟨a,rfl⟩:=kU k1;rfl
   ·rw [kP] at k2;obtain ⟨_,a,c,rfl,_⟩:=k2;rfl
   ·rfl
   ·rfl
   ·exact xU cs us' k3 u hu
def SubsAt (w:World) (n:Nat) (us:List Value) (sa:Option Addr):Prop:=∀ k,k<n->∃ b o u,sa=some ⟨b,o,none⟩/\us[k]? = some (.pointer (some ⟨u,0,none⟩))/\w.cell? ⟨b,o+k,none⟩=some (.pointer (some ⟨u,0,none⟩))
theorem SubsAt.below {w w':World} {n:Nat} {us:List Value} {sa:Option Addr} (h:SubsAt w n us sa) (hb:Below w.heap.size w w'):SubsAt w' n us sa:=fun k hk=>by
 obtain ⟨b,o,u,e,hu,hc⟩:=h k hk
 exact ⟨b,o,u,e,hu,(hb.cell (be w _ hc)).trans hc⟩
theorem runat_ask {keeps:Bool} {most ma:Nat} {mv pt:Value} {w:World} {B:Nat} {v:Nat} {ss:List Bd} {y n:Bd} {env:List Clo} {begun:Nat} {path:Bs} {st:List Fr} {log log':List (Bs×Int)} {cD cC cr cd bv ev sv sv' ev' yv nv ubv:Value} {cells us news:List Value} {wr w1 w6:World} {e:Clo}
 (h:RunAt keeps most ma mv pt w B (.ask v ss y n) env begun path st log cD cC bv ev sv cells wr)
 (hy:Rep (fun i=>¬ Chg ma cD cC B sv i) wr (kp y) yv) (Bc:Rep (fun i=>¬ Chg ma cD cC B sv i) wr (kp n) nv) (ri:Rep (fun i=>¬ Chg ma cD cC B sv i) wr (kp e.body) ubv)
 {w4:World} (dT:zG (fun i=>¬ Chg ma cD cC B sv i/\i<wr.heap.size) w4 (qQ e.env) news) (rO:Below w4.heap.size w4 w6) (rg:zG (fun i=>¬ Chg ma cD cC B sv i) wr (qJ ss) us)
 (nJ:But (Chg ma cD cC B sv) wr w6) (d8:But (fun b=>sv.ownBlock=some b) w1 w6) (mm:MS keeps most ma log' cr cd w1)
 (hn:∀ i,MBk ma cr cd i->MBk ma cD cC i\/wr.heap.size<=i) (hz:wr.heap.size<=w1.heap.size) (hB6:w6.heap[B]? = some (.cells #[.int .i64 (begun:Nat),str path] 115 (0,0)))
 (hos:Own w6 177 5 sv' (st.length+1) (cells++[yv,nv,ev,.int .i64 (begun:Nat),str path])) (dr:∀ g,sv'.ownBlock=some g->sv.ownBlock=some g\/w1.heap.size<=g)
 (hoe:Own w6 181 4 ev' (e.env.length+ss.length) (news++xz us ev log.length e.path ss.length)) (dp:∀ g,ev'.ownBlock=some g->w1.heap.size<=g/\sv'.ownBlock≠some g) {W:World}
 (hW:W=(w6.setCell ⟨B,0,none⟩ (.int .i64 (log.length:Nat))).setCell ⟨B,1,none⟩ (str e.path)) :
 RunAt keeps most ma mv pt w B e.body (e.env++zq env log.length e.path 0 ss) log.length e.path (⟨y,n,env,begun,path⟩::st) log' cr cd ubv ev' sv' (cells++[yv,nv,ev,.int .i64 (begun:Nat),str path]) W.drew:=by
 subst hW
 have i6:=zZ h.beg
 have fu:∀ i,MBk ma cr cd i->i<w1.heap.size:=fun i hi=>MBk.lt mm hi
 have nH:∀ g,sv.ownBlock=some g->g<wr.heap.size:=fun g hg=>h.own.lt hg
 have b8:But (Chg ma cD cC B sv) wr ((w6.setCell ⟨B,0,none⟩ (.int .i64 (log.length:Nat))).setCell ⟨B,1,none⟩ (str e.path)).drew :=
  ((nJ.setCell (p:=⟨B,0,none⟩) (.inl (.inr (.inl rfl))) _).setCell (p:=⟨B,1,none⟩) (.inl (.inr (.inl rfl))) _).drew
 have e_:∀ i,MBk ma cr cd i->i≠B:=by
  rintro i hi rfl
  rcases hn _ hi with h' | h'
  ·exact h.bB.2 h'
  ·omega
 have sA:∀ i,MBk ma cr cd i->sv.ownBlock≠some i:=by
  intro i hi hs
  rcases hn _ hi with h' | h'
  ·exact (h.sB i hs).2.2 h'
  ·have:=nH i hs;omega
 have s5:∀ i,Chg ma cr cd B sv' i->Chg ma cD cC B sv i\/wr.heap.size<=i:=by
  rintro i (hi | hi | hi)
  ·rcases hn i hi with h' | h'
   ·exact .inl (.inl h')
   ·exact .inr h'
  ·exact .inl (.inr (.inl hi))
  ·rcases dr i hi with h' | h'
   ·exact .inl (.inr (.inr h'))
   ·exact .inr (by omega)
 have AI:∀ g,sv'.ownBlock=some g->g≠B:=by
  rintro g hg rfl
  rcases dr _ hg with h' | h'
  ·exact (h.sB _ h').2.1 rfl
  ·omega
 have vk:∀ {i:Nat} {o:Obj},i≠B->w6.heap[i]? = some o->(((w6.setCell ⟨B,0,none⟩ (.int .i64 (log.length:Nat))).setCell ⟨B,1,none⟩ (str e.path)).drew).heap[i]? = some o:=by
  intro i o hi ho
  show ((w6.setCell ⟨B,0,none⟩ (.int .i64 (log.length:Nat))).setCell ⟨B,1,none⟩ (str e.path)).heap[i]? = _
  rw [b5 _ _ _ _ hi,b5 _ _ _ _ hi];exact ho
 have hbB6:w6.heap[B]? = some (.cells #[.int .i64 (begun:Nat),str path] 115 (0,0))->(((w6.setCell ⟨B,0,none⟩ (.int .i64 (log.length:Nat))).setCell ⟨B,1,none⟩ (str e.path)).drew).heap[B]? = some (.cells #[.int .i64 (log.length:Nat),str e.path] 115 (0,0)):=by
  intro hb
  show ((w6.setCell ⟨B,0,none⟩ (.int .i64 (log.length:Nat))).setCell ⟨B,1,none⟩ (str e.path)).heap[B]? = _
  rw [zO (zO hb)];rfl
 have lF:=(Rep.keep (F':=fun i=>¬ Chg ma cr cd B sv' i) (w':=((w6.setCell ⟨B,0,none⟩ (.int .i64 (log.length:Nat))).setCell ⟨B,1,none⟩ (str e.path)).drew) fun b o hf ho=>⟨fun e=>by
  rcases s5 b e with h' | h'
  ·exact hf.1 h'
  ·omega,vk (fun e=>hf.1 (.inr (.inl e))) (by rw [rO.block b (zZ ho)];exact ho)⟩).2 _ _ dT
 have BS:=vO b8 s5 h.re
 have mr:=ents_rep (m:=log.length) (p:=e.path) (y4 b8 s5 rg) BS ss.length (br _)
 rw [List.take_of_length_le (by rw [kn];exact br _)] at mr
 have tR:=h.but.size
 refine ⟨?_,vO b8 s5 ri,?_,?_,?_,?_,?_,?_,⟨h.bB.1,fun hi=>e_ _ hi rfl⟩,fun g' ch=>⟨?_,AI g' ch,fun hi=>?_⟩⟩
 ·refine mm.but (m:=fun i=>sv.ownBlock=some i\/i=B) ?_ fun b hb e=>?_
  ·exact (((d8.weak fun i _ hi=>.inl hi).setCell (p:=⟨B,0,none⟩) (.inl (.inr rfl)) _).setCell (p:=⟨B,1,none⟩) (.inl (.inr rfl)) _).drew
  ·rcases e with e | e
   ·exact sA b hb e
   ·exact e_ b hb e
 ·rw [List.length_append,kn,vD]
  refine (hoe.keep fun g o hg ho=>vk (fun e=>by have:=(dp g hg).1;omega) ho).rep (fun g hg=>?_) (zG.append lF mr)
  obtain ⟨k1,k2⟩:=dp g hg
  rintro (hi | hi | hi)
  ·have:=fu g hi;omega
  ·omega
  ·exact k2 hi
 ·exact hos.keep fun g o hg ho=>vk (AI g hg) ho
 ·rw [List.reverse_cons,uU]
  refine zG.append (y4 b8 s5 h.rs) ?_
  simp only [jT,encFr,List.append_nil]
  exact zJ.2 ⟨_,_,rfl,vO b8 s5 hy,zJ.2 ⟨_,_,rfl,vO b8 s5 Bc,zJ.2 ⟨_,_,rfl,BS,zJ.2 ⟨_,_,rfl,zI.2 rfl,zJ.2 ⟨_,_,rfl,zI.2 rfl,zC.2 rfl⟩⟩⟩⟩⟩
 ·exact hbB6 hB6
 ·refine h.but.trans' b8 fun i hi hh=>?_
  rcases hh with hh | hh | hh
  ·rcases h.new i hh with h' | h'
   ·exact h'
   ·omega
  ·subst hh;have:=h.bB.1;omega
  ·have:=(h.sB i hh).1;omega
 ·intro i hi
  rcases hn i hi with h' | h'
  ·exact h.new i h'
  ·exact .inr (by omega)
 ·rcases dr g' ch with h' | h'
  ·exact (h.sB g' h').1
  ·omega
 ·rcases dr g' ch with h' | h'
  ·exact sA g' hi h'
  ·have:=fu g' hi;omega
theorem Tryz.infoFr:(Tryz.prog.info? 177).map (fun i=>(i.zero,i.size,i.bytes))=some (some (.agg #[.pointer none,.pointer none,.slice none 0 0,.int .i64 0,str []]),5,64):=by kernel_rfl
set_option maxRecDepth 100000 in
theorem run_any (keeps:Bool) (most ma:Nat) (mv pt:Value) (b:Bd) (ar:List Bd) (ts:List Ty) (bv:Value) (aa:Option Addr) (ac:Nat) (w:World) (h:MS keeps most ma [] mv pt w) (hg:qF w) (rN:jH w)
 (Bf:∀ i,MBk ma mv pt i->p_ i/\i≠0) (rb:Rep (fun i=>¬ MBk ma mv pt i) w (kp b) bv) (ra:Rep (fun i=>¬ MBk ma mv pt i) w (.sl 55 1 ar.length (qJ ar)) (.slice aa ar.length ac))
 (fa:zg (ts.map Ty.args) ar) (fb:kJ ts b) (nb:nB b) (na:nBs ar) (hl:ar.length<=15) (h1:1<=most) (dy:most<=100000) :
 Calls Tryz.prog 74 #[.pointer (some ⟨ma,0,none⟩),bv,.slice aa ar.length ac] w (RunPost (v8 most b ar) keeps most ma mv pt w):=by
 have hm:most<=16777216:=by omega
 have H:=bc h;have HR:=bc (bm rb ra);have HG:=bc (bm hg rN);have HN:=bc Bf
 have HP:=bc (bm fa (bm fb (bm nb na)))
 clear h rb ra hg rN Bf fa fb nb na
 generalize hRR:v8 most b ar=R
 have Ah:=bc hRR;clear hRR
 go_enter Tryz.func74,Tryz.ntmps74
 go_wp2_with fail
 refine (uN keeps most ma [] mv pt [113] (-1) w H.out HG.out.2 hm (Nat.zero_le _)).mono ?_
 intro en w1 d8
 unfold vy at d8
 rw [if_neg (by simp;omega),List.length_nil] at d8
 obtain ⟨iK,iZ,rfl,b9,fv,cT⟩:=d8
 obtain ⟨aa',ac',us,e,rg,AD⟩:=subs_open HR.out.2
 simp only [Value.slice.injEq,true_and] at e
 obtain ⟨rfl,rfl⟩:=e
 have tw:But (MBk ma mv pt) w (w1.alloc (.cells #[.int .i64 ((0:Nat):Int),str []] 115)):=b9.alloc _
 have mB:=bY HG.out HN.out tw
 have H1:=bc (bm b9 (bm fv cT));clear b9 fv cT
 have HU:=bc (bm rg AD);clear rg AD
 have c_:=bc tw;have HG2:=bc mB;clear tw mB
 go_wp2_with fail
 refine (um ar.length 0 [] _ HG2.out.1 (by omega) (by simp)).mono ?_
 rintro en w3 ⟨pa,pc,rfl,A6,cP,hf3⟩
 have HO3:=bc (bm A6 (bm cP hf3));clear A6 cP hf3
 go_wp2_with fail
 have AC:∀ k,k<ar.length->∃ b o u,aa=some ⟨b,o,none⟩/\us[k]? = some (.pointer (some ⟨u,0,none⟩))/\w3.cell? ⟨b,o+k,none⟩=some (.pointer (some ⟨u,0,none⟩)):=by
  intro k hk
  obtain ⟨b,o,u,e,hu,hF,hc⟩:=HU.out.2 k hk
  have cZ:=be w _ hc
  refine ⟨b,o,u,e,hu,?_⟩
  rw [HO3.out.2.1.cell (p:=⟨b,o+k,none⟩) (b6 cZ c_.out.size),c_.out.cell (p:=⟨b,o+k,none⟩) cZ hF];exact hc
 refine (pv ar.length 0 [] us aa ac none 0 0 pa pc w3 (by omega) AC HO3.out.1).mono ?_
 rintro en w4 ⟨ea,ec,rfl,nd,cA,lq⟩
 have Bq:∀ i,MBk ma iK iZ i->i<w1.heap.size:=fun i hi=>MBk.lt H1.out.2.1 hi
 have hat:=run_start (b:=b) (bv:=bv) rfl H1.out.1 H1.out.2.1 H1.out.2.2 HO3.out.2.1 cA nd lq HR.out.1 HU.out.1 Bq
 have cI:RunPl R most b (zq [] 0 [] 0 ar) 0 [] [] [([113],-1)]:=by
  refine ⟨h1,?_,⟨ts,env0_fit ar ts 0 HP.out.1,HP.out.2.1⟩,HP.out.2.2.1,?_,?_,by simp,by simp,by simp⟩
  ·rw [<- Ah.out];rfl
  ·exact xA (by rw [ue];trivial) (by simp) (by simp) ar 0 (by omega) HP.out.2.2.2
  ·rw [kn];simp;omega
 have cv:=bc (bm cI hat)
 clear cI hat cA nd lq Bq AC H1 HU c_ HG2 HO3 HP HR
 generalize w1.heap.size=B at *
 go_wp2_with fail
 go_loopw [1,11,12] (fun x e s wr=>RunRel R keeps most ma mv pt w B x e s wr) (fun _ _ _ wr=>leftM most ma wr)
 case atStart=>exact ⟨_,_,_,_,_,_,_,_,_,cv.out.1,cv.out.2⟩
 case round =>
  clear cv
  obtain ⟨b,env,begun,path,st,log,cD,cC,cells,cI,mR⟩:=hrel
  have dQ:=bc cI;have dU:=bc mR
  have r_:=bc (bY HG.out HN.out mR.but)
  have rt:=x9 mR.ms
  clear cI mR
  cases b with
  | leaf c =>
    obtain ⟨bb,sl,e,ip,hc,_⟩:=y6 dU.out.rb
    subst e
    have c1:wr.cell? ⟨bb,0,none⟩=some (str [c]):=by simp [World.cell?,hc]
    have HIL:=bc dU.out.rb
    clear hc
    by_cases eO:c=117
    ·subst eO
     have hR:R=some (117,log):=by rw [dQ.out.goes,xM];simp [jK]
     have HR:=bc hR;clear hR
     go_wp2_with fail
     go_ret2
     refine ⟨dU.out.but,fun h=>(by rw [HR.out] at h;simp at h),fun c' log' h=>?_⟩
     rw [HR.out] at h
     simp only [Option.some.injEq,Prod.mk.injEq] at h
     obtain ⟨rfl,rfl⟩:=h
     exact ⟨rfl,_,_,dU.out.ms,dU.out.new⟩
    ·generalize hS:[c]=S at *
     have cX:(S == [117])=false:=by rw [beq_eq_false_iff_ne,<- hS];simpa using eO
     have fA:wr.cell? ⟨B,0,none⟩=some (.int .i64 (begun:Nat)):=by simp [World.cell?,dU.out.beg]
     have tw:wr.cell? ⟨B,1,none⟩=some (str path):=by simp [World.cell?,dU.out.beg]
     have eI:=fun w0=>kN (P:=Tryz.prog) S path (by rw [<- hS];have:=dQ.out.lpath;have:=dQ.out.le;simp;omega) w0
     have HS:=bc hS;clear hS
     have al:=bc eO;clear eO
     go_wp2_with fail
     refine (yu _ _ c _ HIL.out).mono ?_
     rintro en w' ⟨rfl,e⟩
     obtain rfl:wr=w':=e.symm
     go_wp2_with fail
     have nB1:¬ MBk ma cD cC bb:=fun h=>ip (.inl h)
     have nX:¬ MBk ma cD cC B:=dU.out.bB.2
     by_cases mH:log.length=most
     ·have HO:=bc mH;clear mH
      go_region_held3 (fun w'=>w'.cell? ⟨bb,0,none⟩=some (str S)/\w'.cell? ⟨B,1,none⟩=some (str path)/\w'.cell? ⟨B,0,none⟩=some (.int .i64 (begun:Nat)))
       (first
        | exact ⟨c1,tw,fA⟩
        | exact wl (But.ofBelow (m:=fun _=>False) b9) c1 tw fA (fun h=>h) (fun h=>h) (fun h=>h)
        | go_keep)
       (first
        | (go_at_call 109;refine (uN keeps most ma log cD cC (S++path) (begun:Int) _ dU.out.ms.drew r_.out.2.drew hm dQ.out.le).mono ?_;intro en w1 d8;unfold vy at d8;rw [if_pos HO.out] at d8;obtain ⟨te,pe,rfl,mn⟩:=d8;have b9:=wD mn;clear mn))
      go_wp2_with fail
      go_ret2
      have hR:R=none:=by rw [dQ.out.goes,HO.out,Nat.sub_self,xm al.out];rfl
      exact ⟨dU.out.but.trans (But.ofBelow b9),fun _=>⟨te,pe,rfl⟩,fun c' log' h=>by rw [hR] at h;simp at h⟩
     ·have HO:=bc mH;clear mH
      go_region_held3 (fun w'=>w'.cell? ⟨bb,0,none⟩=some (str S)/\w'.cell? ⟨B,1,none⟩=some (str path)/\w'.cell? ⟨B,0,none⟩=some (.int .i64 (begun:Nat)))
       (first
        | exact ⟨c1,tw,fA⟩
        | exact wl b9 c1 tw fA nB1 nX nX
        | go_keep)
       (first
        | (go_at_call 109;refine (uN keeps most ma log cD cC (S++path) (begun:Int) _ dU.out.ms.drew r_.out.2.drew hm dQ.out.le).mono ?_;intro en w1 d8;unfold vy at d8;rw [if_neg HO.out] at d8;obtain ⟨cr,cd,rfl,mn,fv,cT⟩:=d8;have b9:=but_ud mn;clear mn))
      obtain ⟨d1,d2,d3⟩:=wl b9 c1 tw fA nB1 nX nX
      have HM:=bc (bm b9 (bm fv cT));clear b9 fv cT c1 tw fA
      obtain ⟨sa,sc,es⟩:=dU.out.own.slice
      subst es
      have HX:=bc rt;clear rt
      cases st with
      | nil =>
        have hR:R=some (c,log++[(c::path,(begun:Int))]):=by
         obtain ⟨d,hd⟩:∃ d,most-log.length=d+1:=⟨most-log.length-1,by have:=dQ.out.le;have:=HO.out;omega⟩
         rw [dQ.out.goes,hd,xr al.out];rfl
        have HR:=bc hR;clear hR
        rw [List.length_nil]
        go_wp2_with fail
        go_ret2
        refine ⟨dU.out.but.trans' HM.out.1 fun i hi hh=>?_,fun h=>(by rw [HR.out] at h;simp at h),fun c' log' h=>?_⟩
        ·rcases dU.out.new i hh with h | h
         ·exact h
         ·omega
        ·rw [HR.out] at h
         simp only [Option.some.injEq,Prod.mk.injEq] at h
         obtain ⟨rfl,rfl⟩:=h
         refine ⟨by rw [HS.out];rfl,cr,cd,?_,fun i hi=>?_⟩
         ·have:=HM.out.2.1;rw [<- HS.out] at this;exact this
         ·rcases HM.out.2.2 i hi with h | h
          ·exact dU.out.new i h
          ·exact .inr (b7 dU.out.but.size h)
      | cons f st =>
        obtain ⟨g,gc,yv,nv,fe,cells1,es,dz,k0,k1,k2,k3,k4,fK,rF,cw,ry,rn,re⟩:=frame_top dU.out.own dU.out.rs
        simp only [List.length_cons,Value.slice.injEq,true_and] at es
        obtain ⟨rfl,rfl⟩:=es
        obtain ⟨ya,e⟩:=kU ry
        subst e
        obtain ⟨na,e⟩:=kU rn
        subst e
        obtain ⟨fa,fc,e⟩:∃ a c,fe=.slice a f.env.length c:=by
         have h:=re;rw [kP] at h;obtain ⟨_,a,c,e,_⟩:=h;exact ⟨a,c,e⟩
        subst e
        have dr:=dU.out.sB g rfl
        have q0:=(HM.out.1.cell (be wr _ k0) dr.2.2).trans k0
        have q1:=(HM.out.1.cell (be wr _ k1) dr.2.2).trans k1
        have q2:=(HM.out.1.cell (be wr _ k2) dr.2.2).trans k2
        have q3:=(HM.out.1.cell (be wr _ k3) dr.2.2).trans k3
        have q4:=(HM.out.1.cell (be wr _ k4) dr.2.2).trans k4
        have HF:=bc (bm fK (bm rF (bm cw (bm ry (bm rn re)))))
        have fJ:=dQ.out.stl
        rw [List.length_cons] at fJ ⊢
        have HC:=bc dz
        have d_:=dQ.out.le
        clear fK rF cw ry rn re k0 k1 k2 k3 k4 dz
        have nu:(st.length:Int)<=(sc:Int):=by have:=HC.out;omega
        have i6:=zZ dU.out.beg
        have du:=HM.out.1.size
        have hzbb:bb<w1.heap.size:=be w1 _ d1
        have hzB1:B<w1.heap.size:=be w1 _ d2
        by_cases ru:c=116
        ·have hd:(S == [116])=true:=by rw [beq_iff_eq,<- HS.out,ru]
         have oC:=bc ru;clear ru
         go_upto_region 29 with (fail)
         obtain ⟨W2,cM⟩:=zzN (w1.alloc (.cells #[.pointer (some ⟨ya,0,none⟩),.pointer (some ⟨na,0,none⟩),.slice fa f.env.length fc,.int .i64 (f.begun:Nat),str f.path] 177))
         have r2:W2.cell? ⟨w1.heap.size,2,none⟩=some (.slice fa f.env.length fc):=by rw [<- cM];simp
         have r3:W2.cell? ⟨w1.heap.size,3,none⟩=some (.int .i64 (f.begun:Nat)):=by rw [<- cM];simp
         have r4:W2.cell? ⟨w1.heap.size,4,none⟩=some (str f.path):=by rw [<- cM];simp
         have t0:W2.cell? ⟨B,0,none⟩=some (.int .i64 (begun:Nat)):=by rw [<- cM];exact zU d3
         have t1:W2.cell? ⟨B,1,none⟩=some (str path):=by rw [<- cM];exact zU d2
         have dN:W2.heap[B]? = some (.cells #[.int .i64 (begun:Nat),str path] 115 (0,0)):=by rw [<- cM];exact zX (by rw [HM.out.1.block B i6 nX];exact dU.out.beg)
         have u0:W2.frozen? ⟨B,0,none⟩=false:=by simp [World.frozen?,dN]
         have u1:W2.frozen? ⟨B,1,none⟩=false:=by simp [World.frozen?,dN]
         rw [cM]
         have eZ:=bc cM;clear cM dN d1 d2 d3 q0 q1 q2 q3 q4
         have hBP:B≠w1.heap.size:=by omega
         clear eI cX
         go_region
         have mf:MS keeps most ma (log++[(c::path,(begun:Int))]) cr cd w1:=by have:=HM.out.2.1;rw [<- HS.out] at this;exact this
         have cU:=gL (W:=(W2.setCell ⟨B,0,none⟩ (.int .i64 (f.begun:Nat))).setCell ⟨B,1,none⟩ (str f.path)) (nb:=f.yes) dU.out HF.out.1 HF.out.2.1 HF.out.2.2.1 HF.out.2.2.2.1 HF.out.2.2.2.2.2 HM.out.1 mf HM.out.2.2 (by rw [<- eZ.out])
         have dK:=gA dQ.out al.out HO.out
         rw [if_pos oC.out] at dK
         have c9:=bc (bm dK cU);clear dK cU mf
         go_roundw
         case rel=>(repeat apply Exists.intro);exact ⟨⟨_,_,_,_,_,_,_,_,_,c9.out.1,c9.out.2⟩,rfl⟩
         case measure =>
          rw [HX.out]
          have h:=x9 c9.out.2.ms
          have hl:(log++[(c::path,(begun:Int))]).length=log.length+1:=by simp
          have:=dQ.out.le;have:=HO.out
          refine Nat.lt_of_le_of_lt (Nat.le_of_eq h) ?_
          rw [hl];omega
        ·have hd:(S == [116])=false:=by rw [beq_eq_false_iff_ne,<- HS.out];simpa using ru
         have oC:=bc ru;clear ru
         go_upto_region 29 with (fail)
         obtain ⟨W2,cM⟩:=zzN (w1.alloc (.cells #[.pointer (some ⟨ya,0,none⟩),.pointer (some ⟨na,0,none⟩),.slice fa f.env.length fc,.int .i64 (f.begun:Nat),str f.path] 177))
         have r2:W2.cell? ⟨w1.heap.size,2,none⟩=some (.slice fa f.env.length fc):=by rw [<- cM];simp
         have r3:W2.cell? ⟨w1.heap.size,3,none⟩=some (.int .i64 (f.begun:Nat)):=by rw [<- cM];simp
         have r4:W2.cell? ⟨w1.heap.size,4,none⟩=some (str f.path):=by rw [<- cM];simp
         have t0:W2.cell? ⟨B,0,none⟩=some (.int .i64 (begun:Nat)):=by rw [<- cM];exact zU d3
         have t1:W2.cell? ⟨B,1,none⟩=some (str path):=by rw [<- cM];exact zU d2
         have dN:W2.heap[B]? = some (.cells #[.int .i64 (begun:Nat),str path] 115 (0,0)):=by rw [<- cM];exact zX (by rw [HM.out.1.block B i6 nX];exact dU.out.beg)
         have u0:W2.frozen? ⟨B,0,none⟩=false:=by simp [World.frozen?,dN]
         have u1:W2.frozen? ⟨B,1,none⟩=false:=by simp [World.frozen?,dN]
         rw [cM]
         have eZ:=bc cM;clear cM dN d1 d2 d3 q0 q1 q2 q3 q4
         have hBP:B≠w1.heap.size:=by omega
         clear eI cX
         go_region
         have mf:MS keeps most ma (log++[(c::path,(begun:Int))]) cr cd w1:=by have:=HM.out.2.1;rw [<- HS.out] at this;exact this
         have cU:=gL (W:=(W2.setCell ⟨B,0,none⟩ (.int .i64 (f.begun:Nat))).setCell ⟨B,1,none⟩ (str f.path)) (nb:=f.no) dU.out HF.out.1 HF.out.2.1 HF.out.2.2.1 HF.out.2.2.2.2.1 HF.out.2.2.2.2.2 HM.out.1 mf HM.out.2.2 (by rw [<- eZ.out])
         have dK:=gA dQ.out al.out HO.out
         rw [if_neg oC.out] at dK
         have c9:=bc (bm dK cU);clear dK cU mf
         go_roundw
         case rel=>(repeat apply Exists.intro);exact ⟨⟨_,_,_,_,_,_,_,_,_,c9.out.1,c9.out.2⟩,rfl⟩
         case measure =>
          rw [HX.out]
          have h:=x9 c9.out.2.ms
          have hl:(log++[(c::path,(begun:Int))]).length=log.length+1:=by simp
          have:=dQ.out.le;have:=HO.out
          refine Nat.lt_of_le_of_lt (Nat.le_of_eq h) ?_
          rw [hl];omega
  | ask v ss y n =>
    obtain ⟨bb,sl,yv,nv,e,ip,hc,nH,hy,Bc⟩:=yd dU.out.rb
    subst e
    obtain ⟨sa,sc,us,e,rg,AD⟩:=subs_open nH
    subst e
    obtain ⟨ya,e⟩:=kU hy
    subst e
    obtain ⟨na,e⟩:=kU Bc
    subst e
    obtain ⟨hand,ef,bf⟩:=dQ.out.fit
    obtain ⟨e,mZ,_⟩:=ask_next bf ef log.length
    obtain ⟨gb,go,gc,ub,ea',ec',eg,hFg,aE,k0,k1,k2,k3,ri,eT⟩:=env_at dU.out.re mZ
    subst eg
    have c0:wr.cell? ⟨bb,0,none⟩=some (str []):=by simp [World.cell?,hc]
    have c1:wr.cell? ⟨bb,1,none⟩=some (.int .i64 v):=by simp [World.cell?,hc]
    have fS:v<env.length:=(List.getElem?_eq_some_iff.1 mZ).1
    have hvl':(v:Int)<(env.length:Int):=by omega
    have fP:=okCs_at _ dQ.out.oke _ _ mZ
    have cI:e.path.length<=2*log.length/\e.env.length<=16*log.length:=by obtain ⟨_,_,_,_⟩:=e;rw [okC] at fP;exact ⟨fP.2.2.2,fP.2.2.1⟩
    have hss:ss.length<=15:=by have:=dQ.out.nb;rw [nB] at this;exact this.1
    have d_:=dQ.out.le
    have eI:=fun w0=>kN (P:=Tryz.prog) [113] e.path (by simp;omega) w0
    obtain ⟨S,hS⟩:=zzM ([113]++e.path)
    rw [<- hS] at eI
    have HS:=bc hS;clear hS
    have HIL:=bc dU.out.rb
    have HZ:=bc (bm hc (bm rg (bm AD (bm hy (bm Bc (bm mZ (bm ri eT)))))))
    have i6:=zZ dU.out.beg
    have At:=zZ hc
    clear hc rg AD hy Bc mZ ri eT nH bf ef fP
    have nB1:¬ MBk ma cD cC bb:=fun h=>ip (.inl h)
    have nX:¬ MBk ma cD cC B:=dU.out.bB.2
    have fu:∀ i,MBk ma cD cC i->i<wr.heap.size:=fun i hi=>MBk.lt dU.out.ms hi
    have HLT:=bc fu;clear fu
    have HX:=bc rt;clear rt
    go_wp2_with fail
    refine (bZ _ _ v ss y n _ HIL.out).mono ?_
    rintro en w' ⟨rfl,e0⟩
    obtain rfl:wr=w':=e0.symm
    go_upto_region 8 with (fail)
    obtain ⟨W,hW⟩:=zzN (wr.alloc (.cells #[.pointer (some ⟨ub,0,none⟩),.slice ea' e.env.length ec',.int .i64 (e.begun:Nat),str e.path] 181))
    have lQ:Tri bb B wr.heap.size v (.slice sa ss.length sc) (.pointer (some ⟨ya,0,none⟩)) (.pointer (some ⟨na,0,none⟩)) begun path (.pointer (some ⟨ub,0,none⟩)) (.slice ea' e.env.length ec') (.int .i64 (e.begun:Nat)) (str e.path) W:=by
     rw [<- hW];exact ⟨zX HZ.out.1,zX dU.out.beg,zS _ _⟩
    have cK:Below wr.heap.size wr W:=by rw [<- hW];exact (bi _ _).alloc (br _) _
    have m9:W.heap.size=wr.heap.size+1:=by rw [<- hW];exact zK _ _
    have ow:=dU.out.ms.below cK
    have hgW:qF W/\jH W:=⟨r_.out.1.below cK,r_.out.2.but (m:=fun _=>False) (But.ofBelow cK) (fun h=>h)⟩
    rw [hW]
    obtain ⟨t2,t3,t4,g0,g1,p0,p1,p2,p3,_,_,zP,zB,zb⟩:=lQ.cells
    have HT:=bc lQ;have HW:=bc (bm cK (bm ow (bm hgW (bm m9 hW))));clear lQ cK ow hgW m9 hW c0 c1 k0 k1 k2 k3
    have nP:¬ MBk ma cD cC wr.heap.size:=fun h=>Nat.lt_irrefl _ (HLT.out _ h)
    by_cases mH:log.length=most
    ·have HO:=bc mH;clear mH
     go_wp2_with fail
     refine (uN keeps most ma log cD cC S (e.begun:Int) W HW.out.2.1 HW.out.2.2.1.2 hm dQ.out.le).mono ?_
     intro en w1 d8
     unfold vy at d8
     rw [if_pos HO.out] at d8
     obtain ⟨te,pe,rfl,b9⟩:=d8
     go_wp2_with fail
     go_ret2
     have hR:R=none:=by rw [dQ.out.goes,HO.out,Nat.sub_self,yi];rfl
     exact ⟨(dU.out.but.trans (But.ofBelow HW.out.1)).trans (But.ofBelow b9),fun _=>⟨te,pe,rfl⟩,fun c' log' h=>by rw [hR] at h;simp at h⟩
    ·have HO:=bc mH;clear mH
     go_wp2_with fail
     refine (uN keeps most ma log cD cC S (e.begun:Int) W HW.out.2.1 HW.out.2.2.1.2 hm dQ.out.le).mono ?_
     intro en w1 d8
     unfold vy at d8
     rw [if_neg HO.out] at d8
     obtain ⟨cr,cd,rfl,b9,fv,cT⟩:=d8
     have sH:=HT.out.but b9 nB1 nX nP
     clear t2 t3 t4 g0 g1 p0 p1 p2 p3 zP zB zb
     obtain ⟨t2,t3,t4,g0,g1,p0,p1,p2,p3,_,_,zP,zB,zb⟩:=sH.cells
     obtain ⟨sta,stc,es⟩:=dU.out.own.slice
     subst es
     have fJ:=dQ.out.stl
     have aq:Own w1 177 5 (.slice sta st.length stc) st.length cells:=by
      refine dU.out.own.keep fun g o hg ho=>?_
      rw [b9.block g (by have:=HW.out.2.2.2.1;have:=zZ ho;omega) (dU.out.sB g hg).2.2,HW.out.1.block g (zZ ho)];exact ho
     have HM:=bc (bm b9 (bm fv cT));have HT1:=bc sH;have HO1:=bc aq
     clear b9 fv cT sH aq
     have sy:zM 5 (.slice (some ⟨w1.heap.size,0,none⟩) 1 1) 1 [.pointer (some ⟨ya,0,none⟩),.pointer (some ⟨na,0,none⟩),.slice (some ⟨gb,go,none⟩) env.length gc,.int .i64 (begun:Nat),str path] (w1.alloc (.cells #[.pointer (some ⟨ya,0,none⟩),.pointer (some ⟨na,0,none⟩),.slice (some ⟨gb,go,none⟩) env.length gc,.int .i64 (begun:Nat),str path] 177)).drew :=
      (zM.litk #[.pointer (some ⟨ya,0,none⟩),.pointer (some ⟨na,0,none⟩),.slice (some ⟨gb,go,none⟩) env.length gc,.int .i64 (begun:Nat),str path] rfl (by simp [str,Value.oneCell']) _ rfl).drew
     have sG:=Tri.drew (HT1.out.below ((bi _ w1).alloc (br _) (.cells #[.pointer (some ⟨ya,0,none⟩),.pointer (some ⟨na,0,none⟩),.slice (some ⟨gb,go,none⟩) env.length gc,.int .i64 (begun:Nat),str path] 177)))
     have HT1d:=bc sG;clear sG
     have nS1:¬ (Value.slice sta st.length stc).ownBlock=some bb:=fun h=>ip (.inr (.inr h))
     have nS2:¬ (Value.slice sta st.length stc).ownBlock=some B:=fun h=>(dU.out.sB _ h).2.1 rfl
     have nS3:¬ (Value.slice sta st.length stc).ownBlock=some wr.heap.size:=fun h=>Nat.lt_irrefl _ (dU.out.own.lt h)
     have hmax:st.length+1<=maxLen:=by unfold maxLen;omega
     have dm:(st.length+1)*64<=140737488355328:=by omega
     have h05:0<5:=by omega
     have HL:=bc sy;clear sy
     go_wp2_with fail
     go_region_held3 (fun w'=>w'.cell? ⟨bb,3,none⟩=some (.pointer (some ⟨ya,0,none⟩))/\w'.cell? ⟨bb,4,none⟩=some (.pointer (some ⟨na,0,none⟩))/\w'.cell? ⟨B,0,none⟩=some (.int .i64 (begun:Nat))/\w'.cell? ⟨B,1,none⟩=some (str path))
      (first
       | exact ⟨t3,t4,g0,g1⟩
       | exact ⟨t3',t4',g0',g1'⟩
       | go_keep)
      (first
       | (refine kK (by rfl) _ _ _ (by rfl) 177 (.agg #[.pointer none,.pointer none,.slice none 0 0,.int .i64 0,str []]) 5 64 Tryz.underlying175 Tryz.infoFr rfl h05 (.slice sta st.length stc) st.length cells (by rfl) (HO1.out.alloc _).drew _ 1 [.pointer (some ⟨ya,0,none⟩),.pointer (some ⟨na,0,none⟩),.slice (some ⟨gb,go,none⟩) env.length gc,.int .i64 (begun:Nat),str path] (by rfl) HL.out hmax dm ?_;intro a' c' w2 sS b8 mB;have sP:=HT1d.out.but b8 nS1 nS2 nS3;obtain ⟨t2',t3',t4',g0',g1',p0',p1',p2',p3',_,_,zP',zB',zb'⟩:=sP.cells))
     have nA:But (Chg ma cD cC B (.slice sta st.length stc)) wr w2 :=
      (((((But.ofBelow (m:=Chg ma cD cC B (.slice sta st.length stc)) HW.out.1).trans' HM.out.1 (fun i _ hi=>.inl hi)).alloc _).drew).trans' b8 fun i _ hi=>.inr (.inr hi))
     have mY:But (fun b=>(Value.slice sta st.length stc).ownBlock=some b) w1 w2:=(((But.refl _ w1).alloc _).drew).trans b8
     have sf:∀ g,(Value.slice a' (st.length+1) c').ownBlock=some g->(Value.slice sta st.length stc).ownBlock=some g\/w1.heap.size<=g:=by
      intro g hg
      rcases mB g hg with h | h
      ·exact .inl h
      ·have:g=w1.heap.size+1:=by rw [h];exact zK _ _
       exact .inr (by omega)
     have tR:w1.heap.size<=w2.heap.size:=mY.size
     have BE:qF w2 :=
      (bY (w':=w1) HW.out.2.2.1 (fun i hi=>gl HG.out HN.out (dU.out.new i hi)) HM.out.1).1.but mY fun i hi=>(gl HG.out HN.out (.inr (dU.out.sB i hi).1)).1
     have AB:SubsAt w2.drew ss.length us sa:=fun k hk=>by
      obtain ⟨b,o,u,e,hu,hF,hc⟩:=HZ.out.2.2.1 k hk
      exact ⟨b,o,u,e,hu,(nA.cell (p:=⟨b,o+k,none⟩) (be wr _ hc) hF).trans hc⟩
     have Aj:=bc (bm nA (bm mY (bm sS sf)));have HT2:=bc (Tri.drew sP);have HU2:=bc AB
     have HGL:=bc (show qF w2.drew from BE.but (m:=fun _=>False) (But.refl _ _).drew (fun _ h=>h.elim))
     clear nA mY sS sf sP AB BE b8 mB t2 t3 t4 g0 g1 p0 p1 p2 p3 zP zB zb
     have lY:ss.length<=16:=by omega
     have hp1m:e.path.length<=1000000:=by omega
     go_wp2_with fail
     go_region_held3 (fun w'=>w'.cell? ⟨bb,2,none⟩=some (.slice sa ss.length sc)/\w'.cell? ⟨wr.heap.size,3,none⟩=some (str e.path))
      (first
       | exact ⟨t2',p3'⟩
       | exact ⟨x2,x3⟩
       | exact ⟨y2,y3⟩
       | go_keep)
      (first
       | (go_at_call 111;refine (um ss.length log.length e.path _ HGL.out lY hp1m).mono ?_;rintro en w3 ⟨pa3,pc3,rfl,A6,cP,hf3⟩;have sW:=HT2.out.below cP;obtain ⟨x2,_,_,_,_,_,_,_,x3,_⟩:=sW.cells)
       | (go_at_call 110;refine (pv ss.length log.length e.path us sa sc (some ⟨gb,go,none⟩) env.length gc pa3 pc3 _ lY (HU2.out.below cP) A6).mono ?_;rintro en w4 ⟨ea4,ec4,rfl,nd,cA,lq⟩;have sX:=sW.below cA;obtain ⟨y2,_,_,_,_,_,_,_,y3,_⟩:=sX.cells))
     have Bx:Rep (fun i=>¬ Chg ma cD cC B (.slice sta st.length stc) i/\i<wr.heap.size) w4 (.sl 181 4 e.env.length (qQ e.env)) (.slice ea' e.env.length ec') :=
      (Rep.keep fun b o hf ho=>⟨⟨hf,zZ ho⟩,by
       have h2:w2.heap[b]? = some o:=by rw [Aj.out.1.block b (zZ ho) hf];exact ho
       have h3:w3.heap[b]? = some o:=by rw [cP.block b (zZ h2)];exact h2
       rw [cA.block b (zZ h3)];exact h3⟩).1 _ _ HZ.out.2.2.2.2.2.2.2
     obtain ⟨news,dT,iX⟩:=zM.ofRep Bx (xU _)
     have iW:=zM.ofOwn nd (ents_one (oneCell_encBs _ _ HZ.out.2.1) rfl _ _ _)
     have tS:=cP.size
     have hz4:=cA.size
     have HN4:=bc (bm dT (bm iX iW));have H4:=bc (bm nd (bm cA (bm lq (bm cP sX))))
     clear dT iX iW nd cA lq sX sW A6 hf3 cP Bx t2' t3' t4' g0' g1' p0' p1' p2' p3' x2 x3 y2 y3
     obtain ⟨t2,t3,t4,g0,g1,p0,p1,p2,p3,_,_,zP,zB,zb⟩:=H4.out.2.2.2.2.cells
     have mK:=cI.2
     go_wp2_with (at_builtin;refine zW rfl _ _ 172 rfl 181 (.agg #[.pointer none,.slice none 0 0,.int .i64 0,str []]) 4 56 Tryz.underlying172 Tryz.infoEn rfl (by decide) (.slice none 0 0) 0 [] rfl ?c1 _ e.env.length news rfl ?c2 ?c3 ?c4 ?_)
     case c1=>exact World.ownsRow_nil _ _ _ _
     case c2=>exact HN4.out.2.1
     case c3=>unfold maxLen;omega
     case c4=>omega
     intro a5 c5 w5 oy cF hg5
     have tV:Below w4.heap.size w4 w5:=cF.toBelow (br _) fun i _ h=>by simp [Value.ownBlock] at h
     have BG:∀ g,(Value.slice a5 e.env.length c5).ownBlock=some g->g=w4.heap.size:=by
      intro g hg
      rcases hg5 g hg with h | h
      ·simp [Value.ownBlock] at h
      ·exact h
     have H5:=bc (bm oy (bm tV BG));clear oy cF hg5 tV BG
     go_wp2_with (at_builtin;refine zW rfl _ _ 172 rfl 181 (.agg #[.pointer none,.slice none 0 0,.int .i64 0,str []]) 4 56 Tryz.underlying172 Tryz.infoEn rfl (by decide) (.slice a5 e.env.length c5) e.env.length news rfl ?d1 _ ss.length (xz us (.slice (some ⟨gb,go,none⟩) env.length gc) log.length e.path ss.length) rfl ?d2 ?d3 ?d4 ?_)
     case d1=>exact H5.out.1
     case d2=>exact zM.below H5.out.2.1 HN4.out.2.2
     case d3=>unfold maxLen;omega
     case d4=>omega
     intro a6 c6 w6 ho6 cW hg6
     have hz5:=H5.out.2.1.size
     have hz6:=cW.size
     have Ce:Below w4.heap.size w5 w6:=cW.toBelow H5.out.2.1.size fun i hi h=>by have:=H5.out.2.2 i h;omega
     have rO:Below w4.heap.size w4 w6:=H5.out.2.1.trans Ce
     have iY:=H4.out.2.2.2.2.below rO
     have Cf:Below w2.heap.size w2 w6:=by
      have h23:Below w2.heap.size w2 w3:=wD H4.out.2.2.2.1
      exact (zzT h23 H4.out.2.1).trans (rO.mono (by have:=h23.size;have:=H4.out.2.1.size;omega))
     have oR:w2.heap.size<=w4.heap.size:=b7 (show w2.drew.heap.size<=w3.heap.size from tS) hz4
     have dp:∀ g,(Value.slice a6 (e.env.length+ss.length) c6).ownBlock=some g->w4.heap.size<=g:=by
      intro g hg
      rcases hg6 g hg with h | h
      ·have:=H5.out.2.2 g h;omega
      ·omega
     have H6:=bc (bm ho6 (bm rO (bm Cf (bm iY (bm dp (bm oR tR))))))
     clear ho6 cW hg6 Ce rO Cf dp iY t2 t3 t4 g0 g1 p0 p1 p2 p3 zP zB zb
     obtain ⟨t2,t3,t4,g0,g1,p0,p1,p2,p3,fB0,fB1,zP,zB,zb⟩:=H6.out.2.2.2.1.cells
     have hBP:B≠wr.heap.size:=by omega
     clear t2 t3 t4 p1 p2 eI tS hz4 hz5 hz6 oR tR
     go_upto_region 14 with (fail)
     go_region
     have mf:MS keeps most ma (log++[(113::e.path,(e.begun:Int))]) cr cd w1:=by have:=HM.out.2.1;rw [HS.out] at this;exact this
     have k1:But (Chg ma cD cC B (.slice sta st.length stc)) wr w6:=Aj.out.1.trans (But.ofBelow H6.out.2.2.1)
     have k2:But (fun b=>(Value.slice sta st.length stc).ownBlock=some b) w1 w6:=Aj.out.2.1.trans (But.ofBelow H6.out.2.2.1)
     have k3:∀ i,MBk ma cr cd i->MBk ma cD cC i\/wr.heap.size<=i:=fun i hi=>by
      rcases HM.out.2.2 i hi with h | h
      ·exact .inl h
      ·have:=HW.out.2.2.2.1;exact .inr (by omega)
     have k4:wr.heap.size<=w1.heap.size:=by have:=HM.out.1.size;have:=HW.out.2.2.2.1;omega
     have k5:=Aj.out.2.2.1.keep (w':=w6) fun g o hg ho=>by rw [H6.out.2.2.1.block g (zZ ho)];exact ho
     have k6:∀ g,(Value.slice a6 (e.env.length+ss.length) c6).ownBlock=some g->w1.heap.size<=g/\(Value.slice a' (st.length+1) c').ownBlock≠some g:=fun g hg=>by
      have h1:=H6.out.2.2.2.2.1 g hg
      have h2:=H6.out.2.2.2.2.2.1
      have h3:=H6.out.2.2.2.2.2.2
      refine ⟨by omega,fun hs=>?_⟩
      have:=Aj.out.2.2.1.lt hs
      omega
     have cU:=runat_ask (W:=(w6.setCell ⟨B,0,none⟩ (.int .i64 (log.length:Nat))).setCell ⟨B,1,none⟩ (str e.path)) (w1:=w1) (w6:=w6) (w4:=w4) dU.out HZ.out.2.2.2.1 HZ.out.2.2.2.2.1 HZ.out.2.2.2.2.2.2.1 HN4.out.1 H6.out.2.1 HZ.out.2.1
      k1 k2 mf k3 k4 H6.out.2.2.2.1.g k5 Aj.out.2.2.2 H6.out.1 k6 rfl
     have dK:=runpl_ask dQ.out HO.out HZ.out.2.2.2.2.2.1
     have c9:=bc (bm dK cU);clear dK cU mf
     go_roundw
     case rel=>(repeat apply Exists.intro);exact ⟨⟨_,_,_,_,_,_,_,_,_,c9.out.1,c9.out.2⟩,rfl⟩
     case measure =>
      rw [HX.out]
      have h:=x9 c9.out.2.ms
      have hl:(log++[(113::e.path,(e.begun:Int))]).length=log.length+1:=by simp
      have:=dQ.out.le;have:=HO.out
      refine Nat.lt_of_le_of_lt (Nat.le_of_eq h) ?_
      rw [hl];omega
def w_ (t:Ty):Prop:=∀ (F:Nat->Prop) (w:World) (v:Value),Rep F w (jX t) v ->
 Calls Tryz.prog 108 #[.agg #[v]] w fun en w'=>en=.returned (str (kV t))/\Below w.heap.size w w'
theorem textT_drop {ts:List Ty} {k:Nat} {t:Ty} (h:ts[k]? = some t):kV (.mk (ts.drop k))=((([40,62,32]++kV t)++[32])++kV (.mk (ts.drop (k+1))))++[41]:=by
 have hk:=(List.getElem?_eq_some_iff.1 h).1
 have e:ts[k]=t:=(List.getElem?_eq_some_iff.1 h).2
 rw [List.drop_eq_getElem_cons hk,uO,e]
 simp
theorem atomsT_drop (ts:List Ty) (k:Nat):zV (.mk (ts.drop k))<=zV (.mk ts):=by
 have:=ju (ts.take k) (ts.drop k)
 rw [List.take_append_drop] at this
 simp only [zV];omega
theorem l1Text_step (t:Ty) (hl:zV t<=1000) (ih:∀ t',zV t'<zV t->w_ t'):w_ t:=by
 intro F w v hv
 rw [qY] at hv
 obtain ⟨a,cap,e,_,b_,hat⟩:=zF hv
 subst e
 have IH:=bc ih;clear ih
 have AT:=bc hat;clear hat b_ hv
 have hE:=zp t
 have lS:t.args.length<=1000:=by have:=zc t.args;omega
 have E1:=bc hE;clear hE
 have HT:Hid (t=.mk t.args):=by show t=_;cases t;rfl
 go_enter Tryz.func108,Tryz.ntmps108
 go_wp2_with fail
 go_loopw [3,4] (fun o i wr=>∃ k:Nat,k<=t.args.length/\i=.int .i64 ((k:Int)-1)/\o=str (kV (.mk (t.args.drop k)))/\Below w.heap.size w wr/\wr.cell? ⟨w.heap.size,0,none⟩=some (.slice a t.args.length cap)) (fun _ i _=>(intOf i+1).toNat)
 case atStart=>exact ⟨t.args.length,br _,rfl,by rw [List.drop_length,uH],(bi _ _).alloc (br _) _,by simp⟩
 case round =>
  obtain ⟨k,hk,rfl,rfl,hb,hc⟩:=hrel
  cases k with
  | succ k =>
    have dp:(0:Int)<=((k+1:Nat):Int)-1:=by omega
    have hki:((k+1:Nat):Int)-1=(k:Int):=by omega
    have cZ:k<t.args.length:=by omega
    have dd:(k:Int)<(t.args.length:Int):=by omega
    obtain ⟨b',o,u,d,eb,_,co,hd,hu,hr⟩:=AT.out k cZ
    subst eb
    rw [jv,Option.map_eq_some_iff] at hd
    obtain ⟨t',eM,rfl⟩:=hd
    obtain ⟨ua,uc,rfl⟩:=zl hr
    have fm:wr.cell? ⟨b',o+k,none⟩=some (.slice ua t'.args.length uc):=by rw [hb.cell co];exact hu
    have fl:=Rep.below (F':=F) hb (fun _ h=>h) hr
    have hs:=vE eM
    have d_:=jD t.args (k+1)
    have mF:=E1.out
    have IH':=bc (IH.out t' (by omega))
    have l1:=jO 1000 t' (by omega)
    have d1:=atomsT_drop t.args (k+1)
    rw [<- HT.out] at d1
    have l2:=jO 1000 (.mk (t.args.drop (k+1))) (by omega)
    have hx:=textT_drop eM
    obtain ⟨X,hX⟩:=zzN (kV t')
    rw [hX] at hx l1
    have HX:=bc hx
    have HXX:=bc hX
    clear hx hX
    generalize kV (.mk (t.args.drop (k+1)))=R at *
    obtain ⟨O1,h1⟩:=zzM ([40,62,32]++X)
    obtain ⟨O2,h2⟩:=zzM (O1++[32])
    obtain ⟨O3,h3⟩:=zzM (O2++R)
    obtain ⟨O4,h4⟩:=zzM (O3++[41])
    have m1:O1.length=X.length+3:=by rw [h1];simp
    have m2:O2.length=O1.length+1:=by rw [h2];simp
    have m3:O3.length=O2.length+R.length:=by rw [h3];simp
    have fN:=fun w0=>kN (P:=Tryz.prog) [40,62,32] X (by simp;omega) w0
    have mJ:=fun w0=>kN (P:=Tryz.prog) O1 [32] (by simp;omega) w0
    have tX:=fun w0=>kN (P:=Tryz.prog) O2 R (by omega) w0
    have tY:=fun w0=>kN (P:=Tryz.prog) O3 [41] (by simp;omega) w0
    have H4:Hid (kV (.mk (t.args.drop k))=O4):=by show _=_;rw [HX.out,h4,h3,h2,h1]
    rw [<- h1] at fN;rw [<- h2] at mJ;rw [<- h3] at tX;rw [<- h4] at tY
    have hz:=be wr _ hc
    rw [hki]
    clear hs eM mF hu hr l1 l2 d1 h1 h2 h3 h4 m1 m2 m3 d_ hki dp
    go_wp2_with fail
    refine (IH'.out _ _ _ fl).mono ?_
    rintro en w2 ⟨rfl,b8⟩
    rw [HXX.out]
    have cP:=zzT hb b8
    have fQ:w2.cell? ⟨w.heap.size,0,none⟩=some (.slice (some ⟨b',o,none⟩) t.args.length cap):=by rw [b8.cell hz];exact hc
    go_wp2_with fail
    go_roundw
    case rel=>exact ⟨k,by omega,rfl,by rw [H4.out],cP,fQ⟩
    case measure=>simp [intOf]
  | zero =>
    have dp:¬ (0:Int)<=((0:Nat):Int)-1:=by omega
    go_wp2_with fail
    go_ret
    refine ⟨?_,hb⟩
    have e:kV (.mk t.args)=kV t:=by rw [<- HT.out]
    show Ending.returned (str (kV (.mk t.args)))=_
    rw [e]
theorem hH (n:Nat):∀ t,zV t<=n->n<=1000->w_ t:=by
 induction n with
 | zero=>intro t h _;have:=kL t;omega
 | succ n ih=>exact fun t h hn=>l1Text_step t (by omega) (fun t' h'=>ih t' (by omega) (by omega))
def qD (w:World) (a:Option Addr) (xs:List Bs):Prop:=∀ (k:Nat) (s:Bs),xs[k]? = some s->∃ b o,a=some ⟨b,o,none⟩/\w.cell? ⟨b,o+k,none⟩=some (str s)
theorem qD.below {w w':World} {a:Option Addr} {xs:List Bs} (h:qD w a xs) (hb:Below w.heap.size w w'):qD w' a xs:=fun k s hs=>by
 obtain ⟨b,o,e,hc⟩:=h k s hs
 exact ⟨b,o,e,(hb.cell (be w _ hc)).trans hc⟩
theorem Tryz.infoStr:(Tryz.prog.info? 9).map (fun i=>(i.zero,i.size,i.bytes))=some (some (str []),1,16):=by kernel_rfl
theorem qR {ts:List Ty} {t:Ty} (h:t∈ts):1+zV t<=zE ts:=by
 induction ts with
 | nil=>simp at h
 | cons x xs ih =>
   rcases List.mem_cons.1 h with rfl | h
   ·simp [zE]
   ·have:=ih h;simp [zE];omega
mutual
theorem vN:∀ (b:Bd) (hand:List Ty),kJ hand b->(∀ t∈hand,zV t<=15)->nB b
 | .leaf c,hand,_,_=>by rw [nB];trivial
 | .ask v ss y n,hand,h,hh=>by
   rw [kJ] at h
   obtain ⟨t,ht,h1,h2,h3⟩:=h
   have ht15:=hh t (List.mem_of_getElem? ht)
   have hl:=qI _ _ h1
   rw [qL] at hl
   have hm:=zp t
   have Bu:=zc t.args
   rw [nB]
   exact ⟨by omega,g6 ss t.args hand h1 hh (fun a ha=>by have:=qR ha;omega),vN y hand h2 hh,vN n hand h3 hh⟩
theorem g6:∀ (bs:List Bd) (ts hand:List Ty),zg (zu hand ts) bs->(∀ t∈hand,zV t<=15)->(∀ a∈ts,zV a<=15)->nBs bs
 | [],ts,hand,_,_,_=>by rw [nBs];trivial
 | b::bs,ts,hand,h,hh,ht=>by
   rw [zg] at h
   obtain ⟨h',eN,e,h1,h2⟩:=h
   cases ts with
   | nil=>simp [zu] at e
   | cons t ts =>
     simp only [zu,List.map_cons,List.cons.injEq] at e
     obtain ⟨rfl,rfl⟩:=e
     rw [nBs]
     refine ⟨vN b _ h1 fun x hx=>?_,g6 bs ts hand h2 hh fun a ha=>ht a (by simp [ha])⟩
     rcases List.mem_append.1 hx with hx | hx
     ·exact hh x hx
     ·have cQ:=ht t (by simp)
      have hm:=zp t
      have:=qR hx;omega
end
def zk:List Ty->List Bs->Option (List Bd)
 | t::ts,x::xs=>(kX t x).bind fun b=>(zk ts xs).map fun bs=>b::bs
 | _,_=>some []
theorem jz:∀ (ts:List Ty) (xs:List Bs) (bs:List Bd),ts.length=xs.length->zk ts xs=some bs->bs.length=xs.length
 | [],[],bs,_,h=>by simp [zk] at h;subst h;rfl
 | [],x::xs,bs,hl,h=>by simp at hl
 | t::ts,[],bs,hl,h=>by simp at hl
 | t::ts,x::xs,bs,hl,h=>by
   simp only [zk,Option.bind_eq_some_iff,Option.map_eq_some_iff] at h
   obtain ⟨b,_,bs',h2,rfl⟩:=h
   simp [jz ts xs bs' (by simpa using hl) h2]
theorem vG:∀ (ts:List Ty) (xs:List Bs) (bs:List Bd),ts.length=xs.length->(∀ t∈ts,zV t<=15)->zk ts xs=some bs->zg (ts.map Ty.args) bs/\nBs bs
 | [],[],bs,_,_,h=>by simp [zk] at h;subst h;simp [zg,nBs]
 | [],x::xs,bs,hl,_,h=>by simp at hl
 | t::ts,[],bs,hl,_,h=>by simp at hl
 | t::ts,x::xs,bs,hl,ht,h=>by
   simp only [zk,Option.bind_eq_some_iff,Option.map_eq_some_iff] at h
   obtain ⟨b,h1,bs',h2,rfl⟩:=h
   have hg:=(xb (ht t (by simp)) h1).1
   obtain ⟨k1,k2⟩:=vG ts xs bs' (by simpa using hl) (fun a ha=>ht a (by simp [ha])) h2
   refine ⟨⟨_,_,rfl,hg.fit,k1⟩,?_⟩
   rw [nBs]
   exact ⟨vN b _ hg.fit fun a ha=>by have cQ:=ht t (by simp);have hm:=zp t;have:=qR ha;omega,k2⟩
theorem uy:∀ (ts:List Ty) (xs:List Bs) (t:Ty) (x:Bs),ts.length=xs.length->zk (ts++[t]) (xs++[x])=(zk ts xs).bind fun bs=>(kX t x).map fun b=>bs++[b]
 | [],[],t,x,_=>by simp only [List.nil_append,zk,Option.bind_some];cases kX t x <;> rfl
 | [],_::xs,t,x,hl=>by simp at hl
 | _::ts,[],t,x,hl=>by simp at hl
 | t'::ts,x'::xs,t,x,hl=>by
   simp only [List.cons_append,zk]
   cases kX t' x' with
   | none=>rfl
   | some b =>
     simp only [Option.bind_some,uy ts xs t x (by simpa using hl)]
     cases zk ts xs with
     | none=>rfl
     | some bs =>
       simp only [Option.bind_some,Option.map_some]
       cases kX t x <;> rfl
theorem ux:∀ (ts:List Ty) (xs:List Bs) (k:Nat),zk (ts.take k) (xs.take k)=none->zk ts xs=none
 | [],xs,k,h=>by cases xs <;> simp [zk] at h
 | t::ts,[],k,h=>by cases k <;> simp [zk] at h
 | t::ts,x::xs,0,h=>by simp [zk] at h
 | t::ts,x::xs,k+1,h=>by
   simp only [List.take_succ_cons,zk] at h ⊢
   cases hq:kX t x with
   | none=>rfl
   | some b =>
     rw [hq] at h
     simp only [Option.bind_some] at h ⊢
     cases hr:zk (ts.take k) (xs.take k) with
     | none=>rw [ux ts xs k hr];rfl
     | some bs=>rw [hr] at h;simp at h
theorem uP {w:World} {P:Nat} {u v:Value} {T:TypeId} (h:w.heap[P]? = some (.cells #[u,v] T (0,0))) (u0 u1:Value) :
 ∃ W,W=(w.setCell ⟨P,0,none⟩ u0).setCell ⟨P,1,none⟩ u1/\W.cell? ⟨P,0,none⟩=some u0/\W.cell? ⟨P,1,none⟩=some u1/\(∀ B w0,Below B w0 w->B<=P->Below B w0 W)/\(∀ i x,i≠P->w.heap[i]? = some x->W.heap[i]? = some x):=by
 have hc:((w.setCell ⟨P,0,none⟩ u0).setCell ⟨P,1,none⟩ u1).heap[P]? = some (.cells #[u0,u1] T (0,0)):=by rw [zO (zO h)];rfl
 refine ⟨_,rfl,by simp only [World.cell?,hc];rfl,by simp only [World.cell?,hc];rfl,fun B w0 hb hB=>?_,fun i x hi hx=>?_⟩
 ·exact ((hb.setCell (p:=⟨P,0,none⟩) hB _).setCell (p:=⟨P,1,none⟩) hB _)
 ·rw [b5 _ _ _ _ (by simpa using hi),b5 _ _ _ _ (by simpa using hi)];exact hx
theorem uG {w:World} {P:Nat} {u v:Value} {T:TypeId} (h:w.heap[P]? = some (.cells #[u,v] T (0,0))):w.cell? ⟨P,0,none⟩=some u/\w.cell? ⟨P,1,none⟩=some v/\w.frozen? ⟨P,0,none⟩=false/\w.frozen? ⟨P,1,none⟩=false/\P<w.heap.size :=
 ⟨by simp [World.cell?,h],by simp [World.cell?,h],by simp [World.frozen?,h],by simp [World.frozen?,h],zZ h⟩
theorem MS.slices {keeps:Bool} {most ma:Nat} {log:List (Bs×Int)} {mv pt:Value} {w:World} (h:MS keeps most ma log mv pt w):∃ a n k a' n' k',mv=.slice a n k/\pt=.slice a' n' k':=by
 cases keeps with
 | true =>
   obtain ⟨a,c,e⟩:=(h.rows rfl).1.slice
   obtain ⟨a',c',e'⟩:=(h.rows rfl).2.slice
   exact ⟨_,_,_,_,_,_,e,e'⟩
 | false=>exact ⟨_,_,_,_,_,_,(h.nil rfl).1,(h.nil rfl).2⟩
def z_ (most:Nat) (s text:Bs) (xs:List Bs):Option (UInt8×List (Bs×Int)):=(xS s text).bind fun x=>if x.1.args.length=xs.length then (zk x.1.args xs).bind fun bs=>v8 most x.2 bs else none
def OfPost (keeps:Bool) (most:Nat) (s text:Bs) (xs:List Bs) (w:World) (en:Ending) (w':World):Prop :=
 Below w.heap.size w w'/\(z_ most s text xs=none->en=.returned (.tuple #[.agg #[.slice none 0 0,.slice none 0 0],str [],.bool false])) /\
  (∀ c log,z_ most s text xs=some (c,log)->∃ ma a n k a' n' k',en=.returned (.tuple #[.agg #[.slice a n k,.slice a' n' k'],str [c],.bool true])/\MS keeps most ma log (.slice a n k) (.slice a' n' k') w'/\(∀ i,MBk ma (.slice a n k) (.slice a' n' k') i->w.heap.size<=i))
set_option maxRecDepth 100000 in
theorem runOf_any (keeps:Bool) (most:Nat) (s text:Bs) (xs:List Bs) (a:Option Addr) (c:Nat) (w:World) (hg:qF w) (rN:jH w) (hx:qD w a xs) (hs:Lim s.length) (ht:Lim text.length) (eF:∀ x∈xs,Lim x.length) (mV:Lim xs.length) (h1:1<=most) (dy:most<=100000) :
 Calls Tryz.prog 39 #[str s,str text,.slice a xs.length c,.int .i64 (most:Nat),.bool keeps] w (OfPost keeps most s text xs w):=by
 have hxl':=mV.le
 have HX:=bc (bm hx (bm eF rN));clear hx eF rN mV
 go_enter Tryz.func39,Tryz.ntmps39
 go_wp2_with fail
 have dM:Below w.heap.size w (w.alloc (.cells #[.slice none 0 0,.slice none 0 0] 33)):=(bi _ _).alloc (br _) _
 refine (xg s text _ (hg.below dM) hs ht).mono ?_
 rintro en w1 ⟨kv,bv,rfl,b9,cT,dH⟩
 have du:=b9.size
 rw [zK] at du
 have fL:w1.heap[w.heap.size]? = some (.cells #[.slice none 0 0,.slice none 0 0] 33 (0,0)):=by
  rw [b9.block _ (by rw [zK];omega)];exact zS _ _
 have aI:Below w.heap.size w w1:=zzT dM b9
 cases hq:xS s text with
 | none =>
   obtain rfl:=cT hq
   have hR:z_ most s text xs=none:=by unfold z_;rw [hq];rfl
   have HR:=bc hR;clear hq cT dH hR
   obtain ⟨d0,d1,f0,f1,_⟩:=uG fL
   have rx:=bc (bm fL aI);clear fL aI
   go_wp2_with fail
   obtain ⟨W,hW,s0,s1,cK,_⟩:=uP rx.out.1 (.slice none 0 0) (.slice none 0 0)
   rw [<- hW]
   refine bodyPost_ret (v:=.tuple #[.agg #[.slice none 0 0,.slice none 0 0],str [],.bool false]) (by simp [results,Tryz.results39,go_sem,s0,s1]) rfl ?_
   exact ⟨cK _ _ rx.out.2 (br _),fun _=>rfl,fun c' log' h=>by rw [HR.out] at h;simp at h⟩
 | some x =>
   obtain ⟨t,b⟩:=x
   obtain ⟨hk,B9⟩:=dH _ _ hq
   obtain ⟨ba,e⟩:=kU B9
   subst e
   obtain ⟨ak,sk,e,hFk,rL,tA⟩:=zv hk
   subst e
   obtain ⟨ka,kc,e,_,aC,iO⟩:=zF tA
   subst e
   have ck:w1.cell? ⟨ak,0,none⟩=some (.slice ka t.args.length kc):=by simp [World.cell?,rL]
   have BH:zV t<=15:=by
    have:=hq;unfold xS at this
    simp only [Option.bind_eq_bind,Option.bind_eq_some_iff] at this
    obtain ⟨t',h1,b',_,h3⟩:=this
    simp at h3;rw [<- h3.1];exact rdKind_le h1
   have t6:t.args.length<=15:=by have:=zp t;have:=zc t.args;omega
   have hfb:kJ t.args b:=by
    have:=hq;rw [uw,Option.map_eq_some_iff] at this
    obtain ⟨b',h1,h2⟩:=this
    simp at h2;rw [<- h2.1,<- h2.2];exact specStrat_fit h1
   have HQ:=bc (bm hq (bm BH hfb))
   have HK:=bc (bm rL iO);have HBR:=bc B9
   clear hq cT dH hk B9 rL tA aC iO BH hfb hFk
   obtain ⟨d0,d1,f0,f1,_⟩:=uG fL
   have rx:=bc (bm fL aI);clear fL aI dM b9
   by_cases b_:xs.length=t.args.length
   rotate_left
   ·have hd:((xs.length:Int) != (t.args.length:Int))=true:=by rw [bne_iff_ne];omega
    have hR:z_ most s text xs=none:=by unfold z_;rw [HQ.out.1];simp only [Option.bind_some];rw [if_neg (fun h=>b_ h.symm)]
    have HR:=bc hR;clear hR b_
    go_wp2_with fail
    obtain ⟨W,hW,s0,s1,cK,_⟩:=uP rx.out.1 (.slice none 0 0) (.slice none 0 0)
    rw [<- hW]
    refine bodyPost_ret (v:=.tuple #[.agg #[.slice none 0 0,.slice none 0 0],str [],.bool false]) (by simp [results,Tryz.results39,go_sem,s0,s1]) rfl ?_
    exact ⟨cK _ _ rx.out.2 (br _),fun _=>rfl,fun c' log' h=>by rw [HR.out] at h;simp at h⟩
   ·have hd:((xs.length:Int) != (t.args.length:Int))=false:=by rw [b_];simp
    have HL:=bc b_;clear b_
    go_wp2_with fail
    go_loopw [15,43] (fun l i wr=>∃ (k:Nat) (a':Option Addr) (c':Nat) (us:List Value) (bs:List Bd),k<=xs.length/\i=.int .i64 k/\l=.slice a' k c'/\Own wr 55 1 (.slice a' k c') k us/\zG (fun i=>(Value.slice a' k c').ownBlock≠some i) wr (qJ bs) us/\zk (t.args.take k) (xs.take k)=some bs/\Below w1.heap.size w1 wr/\(∀ g,(Value.slice a' k c').ownBlock=some g->w1.heap.size<=g)) (fun _ i _=>xs.length-(intOf i).toNat)
    case atStart=>exact ⟨0,none,0,[],[],Nat.zero_le _,rfl,rfl,World.ownsRow_nil _ _ _ _,by rw [qJ];exact zC.2 rfl,by simp [zk],bi _ _,fun g h=>by simp [Value.ownBlock] at h⟩
    case round =>
     obtain ⟨k,a',c',us,bs,hk,rfl,rfl,ho,hr,dZ,hb,hf⟩:=hrel
     have HO:=bc (bm ho (bm hr (bm dZ hf)));clear ho hr dZ hf
     have B8:Below w.heap.size w wr:=zzT rx.out.2 hb
     have ni:=hg.below B8
     have oY:wr.heap[w.heap.size]? = some (.cells #[.slice none 0 0,.slice none 0 0] 33 (0,0)):=by rw [hb.block _ (zZ rx.out.1)];exact rx.out.1
     clear d0 d1 f0 f1
     obtain ⟨d0,d1,f0,f1,_⟩:=uG oY
     have HB:=bc (bm hb (bm B8 oY));clear hb B8 oY
     by_cases cZ:k<xs.length
     ·obtain ⟨x,aG⟩:∃ x,xs[k]? = some x:=⟨xs[k],by simp [cZ]⟩
      obtain ⟨bs1,os1,es1,rS⟩:=HX.out.1.below HB.out.2.1 k x aG
      subst es1
      have hlx:=HX.out.2.1 x (List.mem_of_getElem? aG)
      have Bw:k<t.args.length:=by have:=HL.out;omega
      obtain ⟨bk,ok,uk,dk,eka,_,l5,n5,sn,mG⟩:=HK.out.2 k Bw
      subst eka
      rw [yx,Option.map_eq_some_iff] at n5
      obtain ⟨tk,dI,rfl⟩:=n5
      obtain ⟨uka,_,euk,_⟩:=zv mG
      subst euk
      have rA:wr.cell? ⟨bk,ok+k,none⟩=some (.pointer (some ⟨uka,0,none⟩)):=by rw [HB.out.1.cell l5];exact sn
      have rP:=Rep.below (F':=fun _=>True) HB.out.1 (fun _ _=>trivial) mG
      have ckr:wr.cell? ⟨ak,0,none⟩=some (.slice (some ⟨bk,ok,none⟩) t.args.length kc):=by rw [HB.out.1.cell (be w1 _ ck)];exact ck
      have rv:zV tk<=15:=by have:=HQ.out.2.1;have hm:=zp t;have:=qR (List.mem_of_getElem? dI);omega
      have Bv:(k:Int)<(t.args.length:Int):=by omega
      have dd:(k:Int)<(xs.length:Int):=by omega
      have HS:=bc (bm aG dI);clear aG dI sn mG
      go_wp2_with fail
      refine (uE _ tk x _ wr ni rP rv hlx).mono ?_
      rintro en w2 ⟨v,rfl,b8,fB,eE⟩
      have ft:zk (t.args.take (k+1)) (xs.take (k+1))=(kX tk x).map fun b=>bs++[b]:=by
       have h1:t.args.take (k+1)=t.args.take k++[tk]:=by rw [List.take_add_one,HS.out.2];rfl
       have h2:xs.take (k+1)=xs.take k++[x]:=by rw [List.take_add_one,HS.out.1];rfl
       rw [h1,h2,uy _ _ _ _ (by rw [List.length_take,List.length_take];omega),HO.out.2.2.1];rfl
      have tE:=bc ft;clear ft
      have oU:w2.heap[w.heap.size]? = some (.cells #[.slice none 0 0,.slice none 0 0] 33 (0,0)):=by rw [b8.block _ (zZ HB.out.2.2)];exact HB.out.2.2
      clear d0 d1 f0 f1
      obtain ⟨d0,d1,f0,f1,_⟩:=uG oU
      have c_:=bc (bm b8 oU);clear b8 oU
      cases oq:kX tk x with
      | none =>
        obtain rfl:=fB oq
        have hR:z_ most s text xs=none:=by
         unfold z_;rw [HQ.out.1];simp only [Option.bind_some];rw [if_pos HL.out.symm,ux _ _ (k+1) (by rw [tE.out,oq];rfl)];rfl
        have HR:=bc hR;clear hR oq fB eE
        go_wp2_with fail
        obtain ⟨W,hW,s0,s1,cK,_⟩:=uP c_.out.2 (.slice none 0 0) (.slice none 0 0)
        rw [<- hW]
        refine bodyPost_ret (v:=.tuple #[.agg #[.slice none 0 0,.slice none 0 0],str [],.bool false]) (by simp [results,Tryz.results39,go_sem,s0,s1]) rfl ?_
        exact ⟨cK _ _ (zzT HB.out.2.1 c_.out.1) (br _),fun _=>rfl,fun c' log' h=>by rw [HR.out] at h;simp at h⟩
      | some bk2 =>
        have hrv:=eE _ oq
        obtain ⟨bv2,ev⟩:=kU hrv
        subst ev
        have HRV:=bc (bm hrv oq);clear hrv oq fB eE
        go_wp2_with (at_builtin;refine zW rfl _ _ 103 rfl 55 (.pointer none) 1 8 Tryz.underlying103 Tryz.infoB rfl (by decide) (.slice a' k c') k us rfl ?c1 _ 1 [.pointer (some ⟨bv2,0,none⟩)] rfl ?c2 ?c3 ?c4 ?_)
        case c1=>exact (HO.out.1.keep fun g o _ ho=>by rw [c_.out.1.block g (zZ ho)];exact ho).alloc _
        case c2=>exact zM.litk #[.pointer (some ⟨bv2,0,none⟩)] rfl (by simp [Value.oneCell']) _ (by simp)
        case c3=>unfold maxLen;omega
        case c4=>omega
        intro a7 c7 w7 dP cJ cB
        have i7:=HB.out.1.size
        have hzr2:=c_.out.1.size
        have sD:∀ g,(Value.slice a' k c').ownBlock=some g->g<wr.heap.size:=fun g hg=>HO.out.1.lt hg
        have ci:Below w1.heap.size w1 w7:=by
         have h1:Below w1.heap.size w1 w2:=HB.out.1.trans (c_.out.1.mono i7)
         refine (h1.alloc h1.size _).trans (cJ.toBelow (by rw [zK];have:=h1.size;omega) fun i hi e=>?_)
         have:=HO.out.2.2.2 i e;omega
        have dl:∀ g,(Value.slice a7 (k+1) c7).ownBlock=some g->(Value.slice a' k c').ownBlock=some g\/g=w2.heap.size+1:=by
         intro g hg
         rcases cB g hg with h | h
         ·exact .inl h
         ·exact .inr (by simpa using h)
        have np:zG (fun i=>(Value.slice a7 (k+1) c7).ownBlock≠some i) w7 (qJ (bs++[bk2])) (us++[.pointer (some ⟨bv2,0,none⟩)]):=by
         rw [wP]
         refine zG.append ?_ ?_
         ·refine (Rep.keep fun b o hf ho=>⟨fun e=>?_,?_⟩).2 _ _ HO.out.2.1
          ·have:=zZ ho
           rcases dl b e with h | h
           ·exact hf h
           ·omega
          ·have h2:w2.heap[b]? = some o:=by rw [c_.out.1.block b (zZ ho)];exact ho
           rw [cJ.block b (by rw [zK];have:=zZ h2;omega) hf];exact zX h2
         ·rw [qJ,qJ]
          refine zG.one ((Rep.keep fun b o hf ho=>⟨fun e=>?_,?_⟩).1 _ _ HRV.out.1)
          ·have:=zZ ho
           rcases dl b e with h | h
           ·have:=sD b h;omega
           ·omega
          ·rw [cJ.block b (by rw [zK];have:=zZ ho;omega) (fun e=>by have:=sD b e;omega)];exact zX ho
        have eA:∀ g,(Value.slice a7 (k+1) c7).ownBlock=some g->w1.heap.size<=g:=by
         intro g hg
         rcases dl g hg with h | h
         ·exact HO.out.2.2.2 g h
         ·omega
        have fW:zk (t.args.take (k+1)) (xs.take (k+1))=some (bs++[bk2]):=by rw [tE.out,HRV.out.2];rfl
        have H7:=bc (bm dP (bm np (bm fW (bm ci eA))));clear dP np fW ci eA cJ cB dl
        go_wp2_with fail
        go_roundw
        case rel=>exact ⟨k+1,a7,c7,_,_,by omega,by go_num,rfl,H7.out.1,H7.out.2.1,H7.out.2.2.1,H7.out.2.2.2.1,H7.out.2.2.2.2⟩
        case measure=>simp [intOf];omega
     ·obtain rfl:k=xs.length:=by omega
      have dZ:=HO.out.2.2.1
      rw [List.take_of_length_le (by rw [HL.out];exact br _),List.take_length] at dZ
      have db:=jz _ _ _ HL.out.symm dZ
      have ff:∀ x∈t.args,zV x<=15:=fun x hx=>by have:=HQ.out.2.1;have hm:=zp t;have:=qR hx;omega
      obtain ⟨o0,hna⟩:=vG _ _ _ HL.out.symm ff dZ
      have eK:=vN b _ HQ.out.2.2 ff
      obtain ⟨W,hW⟩:=zzN (wr.alloc (.cells #[.slice none 0 0,.slice none 0 0,.int .i64 (most:Nat),.int .i64 0,.bool keeps] 126))
      have cK:Below wr.heap.size wr W:=by rw [<- hW];exact (bi _ _).alloc (br _) _
      have m9:W.heap.size=wr.heap.size+1:=by rw [<- hW];exact zK _ _
      have fH:∀ i,MBk wr.heap.size (.slice none 0 0) (.slice none 0 0) i->i=wr.heap.size:=by
       rintro i (h | h | h)
       ·exact h
       ·simp [Value.ownBlock] at h
       ·simp [Value.ownBlock] at h
      have mm:MS keeps most wr.heap.size [] (.slice none 0 0) (.slice none 0 0) W:=by
       refine ⟨by rw [<- hW];exact zS _ _,fun _=>⟨World.ownsRow_nil _ _ _ _,World.ownsRow_nil _ _ _ _⟩,fun _=>⟨rfl,rfl⟩,by simp [Value.ownBlock],by simp [Value.ownBlock]⟩
      have BD:jH W:=HX.out.2.2.but (m:=fun _=>False) (But.ofBelow (zzT HB.out.2.1 cK)) (fun h=>h)
      have Bf:∀ i,MBk wr.heap.size (.slice none 0 0) (.slice none 0 0) i->p_ i/\i≠0:=fun i hi=>gl (ma:=wr.heap.size) (mv:=.slice none 0 0) (pt:=.slice none 0 0) (w:=w) ⟨hg,HX.out.2.2⟩ (fun j hj=>by
       have h1:=fH j hj
       have h2:=HB.out.2.1.size
       refine ⟨hg.new (by omega),?_⟩
       obtain ⟨te,pe,h3⟩:=HX.out.2.2
       have h4:0<w.heap.size:=be w _ h3
       omega) (.inl hi)
      have mu:Rep (fun i=>¬ MBk wr.heap.size (.slice none 0 0) (.slice none 0 0) i) W (kp b) (.pointer (some ⟨ba,0,none⟩)) :=
       (Rep.keep fun i o _ ho=>⟨fun h=>by have:=fH i h;have:=zZ ho;have:=HB.out.1.size;omega,by
        have h2:wr.heap[i]? = some o:=by rw [HB.out.1.block i (zZ ho)];exact ho
        rw [cK.block i (zZ h2)];exact h2⟩).1 _ _ HBR.out
      have mR:Rep (fun i=>¬ MBk wr.heap.size (.slice none 0 0) (.slice none 0 0) i) W (.sl 55 1 bs.length (qJ bs)) (.slice a' bs.length c'):=by
       have h0:Rep (fun _=>True) wr (.sl 55 1 xs.length (qJ bs)) (.slice a' xs.length c') :=
        HO.out.1.rep (fun _ _=>trivial) ((Rep.keep fun _ _ _ ho=>⟨trivial,ho⟩).2 _ _ HO.out.2.1)
       rw [db]
       exact (Rep.keep fun i o _ ho=>⟨fun h=>by have:=fH i h;have:=zZ ho;omega,by rw [cK.block i (zZ ho)];exact ho⟩).1 _ _ h0
      have C:=run_any keeps most wr.heap.size (.slice none 0 0) (.slice none 0 0) b bs t.args (.pointer (some ⟨ba,0,none⟩)) a' c' W mm (ni.below cK) BD Bf mu mR o0 HQ.out.2.2 eK hna (by have:=HL.out;omega) h1 dy
      rw [db] at C
      have hR:z_ most s text xs=v8 most b bs:=by unfold z_;rw [HQ.out.1];simp only [Option.bind_some];rw [if_pos HL.out.symm,dZ];rfl
      have CC:=bc C;have HR:=bc hR;have HW:=bc (bm hW (bm cK (bm m9 fH)))
      clear C hR hW cK m9 fH mm BD Bf mu mR o0 hna eK dZ db ff
      have hlt0:¬ (xs.length:Int)<(xs.length:Int):=by omega
      go_wp2_with fail
      rw [HW.out.1]
      refine CC.out.mono ?_
      rintro en w3 ⟨cP,e_,iQ⟩
      have oV:w3.heap[w.heap.size]? = some (.cells #[.slice none 0 0,.slice none 0 0] 33 (0,0)):=by
       have cZ:=zZ HB.out.2.2
       rw [cP.block _ (by have:=HW.out.2.2.1;omega) (fun h=>by have:=HW.out.2.2.2 _ h;omega),HW.out.2.1.block _ cZ];exact HB.out.2.2
      clear d0 d1 f0 f1
      obtain ⟨d0,d1,f0,f1,_⟩:=uG oV
      have B7:Below w.heap.size w w3:=by
       have h1:=HB.out.2.1.size
       have h2:=HW.out.2.2.1
       exact (HB.out.2.1.trans (HW.out.2.1.mono h1)).trans (cP.toBelow (by omega) fun i hi h=>by have:=HW.out.2.2.2 i h;omega)
      have nV:=bc (bm oV (bm B7 cP));clear oV B7 cP
      cases hR:v8 most b bs with
      | none =>
        obtain ⟨te,pe,rfl⟩:=e_ hR
        have Ah:=bc (HR.out.trans hR);clear hR e_ iQ
        go_wp2_with fail
        obtain ⟨W',Ab,s0,s1,nT,_⟩:=uP nV.out.1 (.slice none 0 0) (.slice none 0 0)
        rw [<- Ab]
        refine bodyPost_ret (v:=.tuple #[.agg #[.slice none 0 0,.slice none 0 0],str [],.bool false]) (by simp [results,Tryz.results39,go_sem,s0,s1]) rfl ?_
        exact ⟨nT _ _ nV.out.2.1 (br _),fun _=>rfl,fun c' log' h=>by rw [Ah.out] at h;simp at h⟩
      | some x =>
        obtain ⟨cc,log⟩:=x
        obtain ⟨rfl,mv,pt,mm,cU⟩:=iQ _ _ hR
        have Ah:=bc (HR.out.trans hR);clear hR e_ iQ
        obtain ⟨a1,n1,k1,a2,n2,k2,rfl,rfl⟩:=mm.slices
        obtain ⟨m0,m1,_⟩:=xL mm.blk
        have HMS:=bc (bm mm cU);clear mm cU
        go_wp2_with fail
        obtain ⟨W',Ab,s0,s1,nT,hkW'⟩:=uP nV.out.1 (.slice a1 n1 k1) (.slice a2 n2 k2)
        rw [<- Ab]
        refine bodyPost_ret (v:=.tuple #[.agg #[.slice a1 n1 k1,.slice a2 n2 k2],str [cc],.bool true]) (by simp [results,Tryz.results39,go_sem,s0,s1]) rfl ?_
        have dp:∀ i,MBk wr.heap.size (.slice a1 n1 k1) (.slice a2 n2 k2) i->wr.heap.size<=i:=fun i hi=>by
         rcases HMS.out.2 i hi with h | h
         ·have:=HW.out.2.2.2 i h;omega
         ·have:=HW.out.2.2.1;omega
        have cZ:=zZ HB.out.2.2
        refine ⟨nT _ _ nV.out.2.1 (br _),fun h=>by rw [Ah.out] at h;simp at h,fun c' log' h=>?_⟩
        rw [Ah.out] at h
        simp only [Option.some.injEq,Prod.mk.injEq] at h
        obtain ⟨rfl,rfl⟩:=h
        refine ⟨wr.heap.size,a1,n1,k1,a2,n2,k2,rfl,?_,fun i hi=>by have:=dp i hi;omega⟩
        have cS:But (fun i=>i=w.heap.size) w3 W':=by
         rw [Ab]
         exact ((But.refl (fun i=>i=w.heap.size) w3).setCell (p:=⟨w.heap.size,0,none⟩) (.inl rfl) _).setCell (p:=⟨w.heap.size,1,none⟩) (.inl rfl) _
        exact HMS.out.1.but cS fun i hi e=>by have:=dp i hi;omega
end Go.Proofs.YtfedjhgaeikjmaaGreatDoor

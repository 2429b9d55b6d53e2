/- Walks of functions that the statement reaches, and plain words. No conditions. -/
import Derived.Deep.Cut
import Derived.StillTailTactics
import Derived.BigRegion
import Derived.Outline
import Derived.Test.YtdhaafoiokkbnaaGreatDoorQ4
set_option linter.unusedVariables false
set_option linter.unusedSimpArgs false
set_option maxHeartbeats 4000000
namespace Go.Proofs.YtdhaafoiokkbnaaGreatDoor
open Go.RowKit
def qg (log:List (Bs×Int)):List Value:=log.map fun x=>str x.1
def qD (log:List (Bs×Int)):List Value:=log.map fun x=>Value.int .i64 x.2
theorem xG (log:List (Bs×Int)) (s:Bs) (p:Int):qg (log++[(s,p)])=qg log++[str s]:=by simp [qg]
theorem logP_snoc (log:List (Bs×Int)) (s:Bs) (p:Int):qD (log++[(s,p)])=qD log++[.int .i64 p]:=by simp [qD]
structure MS (keeps:Bool) (most ma:Nat) (log:List (Bs×Int)) (mv pt:Value) (w:World):Prop where
 blk:w.heap[ma]? = some (.cells #[mv,pt,.int .i64 (most:Nat),.int .i64 (log.length:Nat),.bool keeps] 70 (0,0))
 rows:keeps=true->Own w 9 1 mv log.length (qg log)/\Own w 3 1 pt log.length (qD log)
 nil:keeps=false->mv=.slice none 0 0/\pt=.slice none 0 0
 neM:∀ g,mv.ownBlock=some g->g≠ma/\pt.ownBlock≠some g
 neP:∀ g,pt.ownBlock=some g->g≠ma
def MBk (ma:Nat) (mv pt:Value) (b:Nat):Prop:=b=ma\/mv.ownBlock=some b\/pt.ownBlock=some b
theorem MS.but {keeps:Bool} {most ma:Nat} {log:List (Bs×Int)} {mv pt:Value} {m:Nat->Prop} {w w':World} (h:MS keeps most ma log mv pt w) (hb:But m w w') (hm:∀ b,MBk ma mv pt b->¬ m b):MS keeps most ma log mv pt w' :=
 ⟨by rw [hb.block ma (zZ h.blk) (hm ma (.inl rfl))];exact h.blk,
  fun hk=>⟨(h.rows hk).1.keep fun g o hg ho=>by rw [hb.block g (zZ ho) (hm g (.inr (.inl hg)))];exact ho,(h.rows hk).2.keep fun g o hg ho=>by rw [hb.block g (zZ ho) (hm g (.inr (.inr hg)))];exact ho⟩,
  h.nil,h.neM,h.neP⟩
theorem MS.below {keeps:Bool} {most ma:Nat} {log:List (Bs×Int)} {mv pt:Value} {w w':World} (h:MS keeps most ma log mv pt w) (hb:Below w.heap.size w w'):MS keeps most ma log mv pt w' :=
 h.but (m:=fun _=>False) (But.ofBelow hb) fun _ _ h=>h
theorem MBk.lt {keeps:Bool} {most ma:Nat} {log:List (Bs×Int)} {mv pt:Value} {w:World} (h:MS keeps most ma log mv pt w) {b:Nat} (hb:MBk ma mv pt b):b<w.heap.size:=by
 rcases hb with rfl | hb | hb
 ·exact zZ h.blk
 ·cases keeps with
  | true=>exact (h.rows rfl).1.lt hb
  | false=>rw [(h.nil rfl).1] at hb;simp [Value.ownBlock] at hb
 ·cases keeps with
  | true=>exact (h.rows rfl).2.lt hb
  | false=>rw [(h.nil rfl).2] at hb;simp [Value.ownBlock] at hb
def uU (keeps:Bool) (most ma:Nat) (log:List (Bs×Int)) (mv pt:Value) (s:Bs) (p:Int) (w:World) (en:Ending) (w':World):Prop :=
 if log.length=most then ∃ te pe,en=.returned (.tuple #[.int .i64 0,.iface te pe])/\Below w.heap.size w w'
 else ∃ mv' pt',en=.returned (.tuple #[.int .i64 (log.length:Nat),.nilIface])/\But (MBk ma mv pt) w w'/\MS keeps most ma (log++[(s,p)]) mv' pt' w'/\(∀ b,MBk ma mv' pt' b->MBk ma mv pt b\/w.heap.size<=b)
theorem Tryz.infoInt:(Tryz.prog.info? 3).map (fun i=>(i.zero,i.size,i.bytes))=some (some (.int .i64 0),1,8):=by kernel_rfl
theorem Tryz.infoStr0:(Tryz.prog.info? 9).map (fun i=>(i.zero,i.size,i.bytes))=some (some (str []),1,16):=by kernel_rfl
set_option maxRecDepth 100000 in
theorem moveS_none (most ma:Nat) (log:List (Bs×Int)) (mv pt:Value) (s:Bs) (p:Int) (w:World) (h:MS false most ma log mv pt w) (hg:jp w) (hm:most<=16777216) (iG:log.length<=most) :
 Calls Tryz.prog 47 #[.pointer (some ⟨ma,0,none⟩),str s,.int .i64 p] w (uU false most ma log mv pt s p w):=by
 obtain ⟨e1,e2⟩:=h.nil rfl
 subst e1;subst e2
 refine (move_any ma most log.length s p w h.blk hg hm iG).mono ?_
 intro en w' hw
 unfold Moved at hw;unfold uU
 split at hw
 ·rename_i he;rw [if_pos he];exact hw
 ·rename_i he;rw [if_neg he]
  obtain ⟨h1,h2,h3⟩:=hw
  refine ⟨.slice none 0 0,.slice none 0 0,h1,h2.weak fun i _ hi=>.inl hi,⟨?_,by simp,fun _=>⟨rfl,rfl⟩,by simp [Value.ownBlock],by simp [Value.ownBlock]⟩,fun b hb=>.inl hb⟩
  have:(log++[(s,p)]).length=log.length+1:=by simp
  rw [this];exact h3
theorem xb {ma most n:Nat} {mv pt:Value} {w:World} {k:Bool} (h:w.heap[ma]? = some (.cells #[mv,pt,.int .i64 (most:Nat),.int .i64 (n:Nat),.bool k] 70 (0,0))) :
 w.cell? ⟨ma,0,none⟩=some mv/\w.cell? ⟨ma,1,none⟩=some pt/\w.cell? ⟨ma,2,none⟩=some (.int .i64 (most:Nat))/\w.cell? ⟨ma,3,none⟩=some (.int .i64 (n:Nat))/\w.cell? ⟨ma,4,none⟩=some (.bool k)/\(∀ o,w.frozen? ⟨ma,o,none⟩=false) :=
 ⟨by simp [World.cell?,h],by simp [World.cell?,h],by simp [World.cell?,h],by simp [World.cell?,h],by simp [World.cell?,h],fun o=>by simp [World.frozen?,h]⟩
set_option maxRecDepth 100000 in
theorem moveS_keep (most ma:Nat) (log:List (Bs×Int)) (mv pt:Value) (s:Bs) (p:Int) (w:World) (h:MS true most ma log mv pt w) (hg:jp w) (hm:most<=16777216) (iG:log.length<=most) :
 Calls Tryz.prog 47 #[.pointer (some ⟨ma,0,none⟩),str s,.int .i64 p] w (uU true most ma log mv pt s p w):=by
 obtain ⟨c0,c1,c2,c3,c4,cf⟩:=xb h.blk
 have f3:=cf 3;clear cf
 obtain ⟨te,pe,tx⟩:=hg
 have H:=cH h;clear h
 generalize hL:log.length=n at *
 have HL:=cH hL;clear hL
 by_cases he:n=most
 ·have hd:((n:Int) == (most:Int))=true:=by rw [beq_iff_eq];omega
  have HE:=cH he;clear he
  go_enter Tryz.func47,Tryz.ntmps47
  go_wp2_with fail
  go_quiet (fail)
  go_wp2_with fail
  go_quiet (fail)
  go_wp2_with fail
  refine bodyPost_ret (v:=.tuple #[.int .i64 0,.iface te pe]) (by simp [results,Tryz.results47,go_sem]) rfl ?_
  unfold uU
  rw [if_pos (HL.out.trans HE.out)]
  exact ⟨te,pe,rfl,by first | exact kZ (cE _ _) _ | exact kZ (kZ (cE _ _) _) _⟩
 ·have hd:((n:Int) == (most:Int))=false:=by rw [beq_eq_false_iff_ne];omega
  have HE:=cH he;clear he
  have hw:IntKind.i64.wrap ((n:Int)+1)=(n:Int)+1:=by
   rw [show (n:Int)+1=((n+1:Nat):Int) from by omega];exact qt _ (by omega)
  obtain ⟨am,cm,em⟩:=(H.out.rows rfl).1.slice
  obtain ⟨ap,cp,ep⟩:=(H.out.rows rfl).2.slice
  rw [HL.out] at em ep
  subst em;subst ep
  go_enter Tryz.func47,Tryz.ntmps47
  go_wp2_with fail
  go_quiet (fail)
  have dd:(w.drewN nq).heap[ma]? = some (.cells #[.slice am n cm,.slice ap n cp,.int .i64 (most:Nat),.int .i64 (log.length:Nat),.bool true] 70 (0,0)):=H.out.blk
  have hd3:(w.drewN nq).cell? ⟨ma,3,none⟩=some (.int .i64 (n:Nat)):=c3
  have hdf:(w.drewN nq).frozen? ⟨ma,3,none⟩=false:=f3
  obtain ⟨W,hW⟩:=zzN ((w.drewN nq).setCell ⟨ma,3,none⟩ (.int .i64 ((n:Int)+1)))
  have t_:W.heap[ma]? = some (.cells #[.slice am n cm,.slice ap n cp,.int .i64 (most:Nat),.int .i64 ((n+1:Nat):Int),.bool true] 70 (0,0)):=by
   rw [<- hW,zu dd];rfl
  have cO:But (· = ma) w W:=by rw [<- hW];exact But.setCell (m:=(· = ma)) (p:=⟨ma,3,none⟩) (xq (But.refl _ _) _) (.inl rfl) _
  obtain ⟨d0,d1,d2,d3,d4,df⟩:=xb t_
  have df0:=df 0;clear df
  have HW:=cH hW;have HB:=cH t_;have Ee:=cH cO
  clear hW t_ cO dd
  clear c0 c1 c2 c3 c4 f3
  go_upto_region 4 with (fail)
  rw [HW.out]
  go_wp2_with (at_builtin;refine zG rfl _ _ 23 rfl 9 (str []) 1 16 Tryz.underlying23 Tryz.infoStr0 rfl (by decide) (.slice am n cm) n (qg log) rfl ?c1 _ 1 [str s] rfl ?c2 ?c3 ?c4 ?_)
  case c1 =>
   have h0:=(H.out.rows rfl).1
   rw [HL.out] at h0
   exact (h0.keep fun g o hg ho=>by rw [Ee.out.block g (zZ ho) (H.out.neM g hg).1];exact ho).alloc _
  case c2=>exact zM.litk #[str s] rfl (by simp [str,Value.oneCell']) _ (by simp)
  case c3=>unfold maxLen;omega
  case c4=>omega
  intro a' c' w7 dB cq ci
  have cL:ma<W.heap.size:=zZ HB.out
  have aK:w7.heap[ma]? = some (.cells #[.slice am n cm,.slice ap n cp,.int .i64 (most:Nat),.int .i64 ((n+1:Nat):Int),.bool true] 70 (0,0)):=by
   rw [cq.block ma (by rw [zK];omega) (fun e=>(H.out.neM ma e).1 rfl),Below.heap_alloc _ _ _ cL];exact HB.out
  have rg:(w7.setCell ⟨ma,0,none⟩ (.slice a' (n+1) c')).heap[ma]? = some (.cells #[.slice a' (n+1) c',.slice ap n cp,.int .i64 (most:Nat),.int .i64 ((n+1:Nat):Int),.bool true] 70 (0,0)):=by
   rw [zu aK];rfl
  obtain ⟨b0,b1,b2,b3,b4,bf⟩:=xb aK
  have bf0:=bf 0;clear bf
  obtain ⟨g0,g1,g2,g3,g4,gf⟩:=xb rg
  have gf1:=gf 1;clear gf
  have hW1:But (MBk ma (.slice am n cm) (.slice ap n cp)) w (w7.setCell ⟨ma,0,none⟩ (.slice a' (n+1) c')):=by
   refine But.setCell (p:=⟨ma,0,none⟩) ?_ (.inl (.inl rfl)) _
   have h1:But (MBk ma (.slice am n cm) (.slice ap n cp)) w (W.alloc (.cells #[str s] 9)):=(Ee.out.weak fun i _ hi=>.inl hi).alloc _
   exact h1.trans' cq fun i _ hi=>.inr (.inl hi)
  have hz:W.heap.size+1<=w7.heap.size:=by have:=cq.size;rwa [zK] at this
  have iq:Own (w7.setCell ⟨ma,0,none⟩ (.slice a' (n+1) c')) 9 1 (.slice a' (n+1) c') (n+1) (qg log++[str s]):=by
   refine dB.keep fun g o hg ho=>?_
   rw [cF _ _ _ _ (by
    intro e
    have e:g=ma:=by simpa using e
    subst e
    rcases ci g hg with h | h
    ·exact (H.out.neM g h).1 rfl
    ·have:g=W.heap.size+1:=by simpa using h
     omega)];exact ho
  have hO2:Own (w7.setCell ⟨ma,0,none⟩ (.slice a' (n+1) c')) 3 1 (.slice ap n cp) n (qD log):=by
   have h0:=(H.out.rows rfl).2
   rw [HL.out] at h0
   refine h0.keep fun g o hg ho=>?_
   have hne:g≠ma:=H.out.neP g hg
   have h2:W.heap[g]? = some o:=by rw [Ee.out.block g (zZ ho) hne];exact ho
   rw [cF _ _ _ _ (by simpa using hne),cq.block g (by rw [zK];have:=zZ h2;omega) (fun e=>(H.out.neM g e).2 hg),Below.heap_alloc _ _ _ (zZ h2)];exact h2
  have hG1:∀ g,(Value.slice a' (n+1) c').ownBlock=some g->(Value.slice am n cm).ownBlock=some g\/w.heap.size<=g:=by
   intro g hg
   rcases ci g hg with h | h
   ·exact .inl h
   ·have:g=W.heap.size+1:=by simpa using h
    have:=Ee.out.size;exact .inr (by omega)
  obtain ⟨V,hV⟩:=zzN (w7.setCell ⟨ma,0,none⟩ (.slice a' (n+1) c'))
  rw [hV] at rg g0 g1 g2 g3 g4 gf1 hW1 iq hO2
  have HV:=cH hV;have HV1:=cH rg;have HV2:=cH hW1;have HV3:=cH iq;have HV4:=cH hO2;have HG:=cH hG1
  clear hV rg hW1 iq hO2 hG1 dB cq ci aK
  clear d0 d1 d2 d3 d4 df0
  go_upto_region 6 with (fail)
  rw [HV.out]
  go_wp2_with (at_builtin;refine zG rfl _ _ 26 rfl 3 (.int .i64 0) 1 8 Tryz.underlying26 Tryz.infoInt rfl (by decide) (.slice ap n cp) n (qD log) rfl ?e1 _ 1 [.int .i64 p] rfl ?e2 ?e3 ?e4 ?_)
  case e1=>exact HV4.out.alloc _
  case e2=>exact zM.litk #[.int .i64 p] rfl (by simp [Value.oneCell']) _ (by simp)
  case e3=>unfold maxLen;omega
  case e4=>omega
  intro a2 c2 w9 ho9 hb9 hg9
  have hltV:ma<V.heap.size:=zZ HV1.out
  have aZ:w9.heap[ma]? = some (.cells #[.slice a' (n+1) c',.slice ap n cp,.int .i64 (most:Nat),.int .i64 ((n+1:Nat):Int),.bool true] 70 (0,0)):=by
   rw [hb9.block ma (by rw [zK];omega) (fun e=>H.out.neP ma e rfl),Below.heap_alloc _ _ _ hltV];exact HV1.out
  have rP:(w9.setCell ⟨ma,1,none⟩ (.slice a2 (n+1) c2)).heap[ma]? = some (.cells #[.slice a' (n+1) c',.slice a2 (n+1) c2,.int .i64 (most:Nat),.int .i64 ((n+1:Nat):Int),.bool true] 70 (0,0)):=by
   rw [zu aZ];rfl
  obtain ⟨u0,u1,u2,u3,u4,uf⟩:=xb aZ
  have uf1:=uf 1;clear uf
  obtain ⟨v0,v1,v2,v3,v4,vf⟩:=xb rP
  clear vf
  have fY:But (MBk ma (.slice am n cm) (.slice ap n cp)) w (w9.setCell ⟨ma,1,none⟩ (.slice a2 (n+1) c2)):=by
   refine But.setCell (p:=⟨ma,1,none⟩) ?_ (.inl (.inl rfl)) _
   exact (HV2.out.alloc _).trans' hb9 fun i _ hi=>.inr (.inr hi)
  have s8:w.heap.size<=W.heap.size:=Ee.out.size
  have hzV:w.heap.size<=V.heap.size:=HV2.out.size
  have hlM:∀ g,(Value.slice a' (n+1) c').ownBlock=some g->g<V.heap.size:=fun g hg=>HV3.out.lt hg
  have iY:∀ g,(Value.slice a' (n+1) c').ownBlock=some g->g≠ma/\(Value.slice ap n cp).ownBlock≠some g:=by
   intro g hg
   rcases HG.out g hg with h | h
   ·exact H.out.neM g h
   ·refine ⟨?_,fun e=>?_⟩
    ·have:=zZ H.out.blk;omega
    ·have:=(H.out.rows rfl).2.lt e;omega
  have CJ:∀ g,(Value.slice a2 (n+1) c2).ownBlock=some g->(Value.slice ap n cp).ownBlock=some g\/g=V.heap.size+1:=by
   intro g hg
   rcases hg9 g hg with h | h
   ·exact .inl h
   ·exact .inr (by simpa using h)
  have hOM:Own (w9.setCell ⟨ma,1,none⟩ (.slice a2 (n+1) c2)) 9 1 (.slice a' (n+1) c') (n+1) (qg log++[str s]):=by
   refine HV3.out.keep fun g o hg ho=>?_
   obtain ⟨k1,k2⟩:=iY g hg
   have:=hlM g hg
   rw [cF _ _ _ _ (by simpa using k1),hb9.block g (by rw [zK];omega) k2,Below.heap_alloc _ _ _ this];exact ho
  have hOP:Own (w9.setCell ⟨ma,1,none⟩ (.slice a2 (n+1) c2)) 3 1 (.slice a2 (n+1) c2) (n+1) (qD log++[.int .i64 p]):=by
   refine ho9.keep fun g o hg ho=>?_
   rw [cF _ _ _ _ (by
    intro e
    have e:g=ma:=by simpa using e
    subst e
    rcases CJ g hg with h | h
    ·exact H.out.neP g h rfl
    ·omega)];exact ho
  have hMS:MS true most ma (log++[(s,p)]) (.slice a' (n+1) c') (.slice a2 (n+1) c2) (w9.setCell ⟨ma,1,none⟩ (.slice a2 (n+1) c2)):=by
   have cA:(log++[(s,p)]).length=n+1:=by rw [List.length_append,HL.out];rfl
   refine ⟨by rw [cA];exact rP,fun _=>⟨by rw [cA,xG];exact hOM,by rw [cA,logP_snoc];exact hOP⟩,fun h=>(Bool.noConfusion h),fun g hg=>⟨(iY g hg).1,fun e=>?_⟩,fun g hg=>?_⟩
   ·rcases CJ g e with h | h
    ·exact (iY g hg).2 h
    ·have:=hlM g hg;omega
   ·rcases CJ g hg with h | h
    ·exact H.out.neP g h
    ·omega
  have ch:∀ b,MBk ma (.slice a' (n+1) c') (.slice a2 (n+1) c2) b->MBk ma (.slice am n cm) (.slice ap n cp) b\/w.heap.size<=b:=by
   rintro b (h | h | h)
   ·exact .inl (.inl h)
   ·rcases HG.out b h with h | h
    ·exact .inl (.inr (.inl h))
    ·exact .inr h
   ·rcases CJ b h with h | h
    ·exact .inl (.inr (.inr h))
    ·exact .inr (by omega)
  have HF:=cH (cB fY (cB hMS ch));clear fY hMS ch hOM hOP CJ iY hlM rP aZ ho9 hb9 hg9
  clear g0 g1 g2 g3 g4 gf1
  go_wp2_with fail
  refine bodyPost_ret (v:=.tuple #[.int .i64 (n:Nat),.nilIface]) (by simp [results,Tryz.results47,go_sem]) rfl ?_
  unfold uU
  rw [if_neg (fun e=>HE.out (HL.out.symm.trans e)),HL.out]
  exact ⟨_,_,rfl,HF.out.1,HF.out.2.1,HF.out.2.2⟩
theorem up (keeps:Bool) (most ma:Nat) (log:List (Bs×Int)) (mv pt:Value) (s:Bs) (p:Int) (w:World) (h:MS keeps most ma log mv pt w) (hg:jp w) (hm:most<=16777216) (iG:log.length<=most) :
 Calls Tryz.prog 47 #[.pointer (some ⟨ma,0,none⟩),str s,.int .i64 p] w (uU keeps most ma log mv pt s p w):=by
 cases keeps with
 | true=>exact moveS_keep most ma log mv pt s p w h hg hm iG
 | false=>exact moveS_none most ma log mv pt s p w h hg hm iG
def encFr (f:Fr):List DV:=[kr f.yes,kr f.no,.sl 126 4 f.env.length (qX f.env),.val (.int .i64 (f.begun:Nat)),.val (str f.path)]
def ju:List Fr->List DV
 | []=>[]
 | f::fs=>encFr f++ju fs
theorem uL:∀ (xs ys:List Fr),ju (xs++ys)=ju xs++ju ys
 | [],ys=>by simp [ju]
 | x::xs,ys=>by simp [ju,uL xs ys]
theorem xk:∀ fs:List Fr,(ju fs).length=fs.length*5
 | []=>by simp [ju]
 | f::fs=>by rw [ju,List.length_append,xk fs];simp [encFr];omega
mutual
def nB:Bd->Prop
 | .leaf _=>True
 | .ask _ ss y n=>ss.length<=15/\nBs ss/\nB y/\nB n
def nBs:List Bd->Prop
 | []=>True
 | b::bs=>nB b/\nBs bs
end
mutual
def okC (n:Nat):Clo->Prop
 | .mk b e _ p=>nB b/\yP n e/\e.length<=16*n/\p.length<=2*n
def yP (n:Nat):List Clo->Prop
 | []=>True
 | c::cs=>okC n c/\yP n cs
end
mutual
theorem okC_mono {n m:Nat} (h:n<=m):∀ c,okC n c->okC m c
 | .mk b e _ p,k=>by
   rw [okC] at *
   exact ⟨k.1,j6 h e k.2.1,by have:=k.2.2.1;omega,by have:=k.2.2.2;omega⟩
theorem j6 {n m:Nat} (h:n<=m):∀ cs,yP n cs->yP m cs
 | [],k=>by rw [yP] at *;trivial
 | c::cs,k=>by rw [yP] at *;exact ⟨okC_mono h c k.1,j6 h cs k.2⟩
end
theorem okCs_at {n:Nat}:∀ (cs:List Clo),yP n cs->∀ (i:Nat) (c:Clo),cs[i]? = some c->okC n c
 | [],_,i,c,h=>by simp at h
 | x::cs,k,i,c,h=>by
   rw [yP] at k
   cases i with
   | zero=>simp at h;subst h;exact k.1
   | succ i=>exact okCs_at cs k.2 i c (by simpa using h)
theorem p7 {n:Nat}:∀ (xs ys:List Clo),yP n xs->yP n ys->yP n (xs++ys)
 | [],ys,_,h=>h
 | x::xs,ys,h,k=>by rw [yP] at h;exact ⟨h.1,p7 xs ys h.2 k⟩
theorem xt {n m:Nat} {env:List Clo} {p:Bs} (he:yP n env) (hl:env.length<=16*n) (hp:p.length+2<=2*n):∀ (ss:List Bd) (i:Nat),i+ss.length<=100->nBs ss->yP n (zD env m p i ss)
 | [],i,_,_=>by rw [zD,yP];trivial
 | s::ss,i,hi,h=>by
   rw [nBs] at h
   simp only [List.length_cons] at hi
   rw [zD,yP]
   refine ⟨?_,xt he hl hp ss (i+1) (by omega) h.2⟩
   rw [okC]
   refine ⟨h.1,he,hl,?_⟩
   have:=qn 1 i (by omega)
   simp only [List.length_append];omega
def Chg (ma:Nat) (mv pt:Value) (B:Nat) (sv:Value) (i:Nat):Prop:=MBk ma mv pt i\/i=B\/sv.ownBlock=some i
theorem v9 {Ch Ch':Nat->Prop} {w w':World} (hb:But Ch w w') (hn:∀ i,Ch' i->Ch i\/w.heap.size<=i) {d:DV} {v:Value} (h:Rep (fun i=>¬ Ch i) w d v):Rep (fun i=>¬ Ch' i) w' d v :=
 (Rep.keep fun b o hf ho=>⟨fun e=>by
  rcases hn b e with h | h
  ·exact hf h
  ·have:=zZ ho;omega,by rw [hb.block b (zZ ho) hf];exact ho⟩).1 d v h
theorem xP {Ch Ch':Nat->Prop} {w w':World} (hb:But Ch w w') (hn:∀ i,Ch' i->Ch i\/w.heap.size<=i) {d:List DV} {v:List Value} (h:zH (fun i=>¬ Ch i) w d v):zH (fun i=>¬ Ch' i) w' d v :=
 (Rep.keep fun b o hf ho=>⟨fun e=>by
  rcases hn b e with h | h
  ·exact hf h
  ·have:=zZ ho;omega,by rw [hb.block b (zZ ho) hf];exact ho⟩).2 d v h
structure FrOk (n:Nat) (f:Fr):Prop where
 fit:frFit f
 yes:nB f.yes
 no:nB f.no
 env:yP n f.env
 len:f.env.length<=16*n
 path:f.path.length<=2*n
theorem FrOk.mono {n m:Nat} {f:Fr} (h:FrOk n f) (k:n<=m):FrOk m f:=⟨h.fit,h.yes,h.no,j6 k _ h.env,by have:=h.len;omega,by have:=h.path;omega⟩
def kK (xs:List (Bs×Nat)):List (Bs×Int):=xs.map fun y=>(y.1,(y.2:Int))
structure RunPl (R:Option (UInt8×List (Bs×Int))) (most:Nat) (b:Bd) (env:List Clo) (begun:Nat) (path:Bs) (st:List Fr) (log:List (Bs×Int)):Prop where
 le:log.length<=most
 goes:R=(qm (most-log.length) log.length b env begun path st).map fun x=>(x.1,log++kK x.2)
 fit:∃ hand,km env hand/\kX hand b
 nb:nB b
 oke:yP log.length env
 len:env.length<=16*log.length
 lpath:path.length<=2*log.length
 frs:∀ f∈st,FrOk log.length f
 stl:st.length<=log.length
structure RunAt (keeps:Bool) (most ma:Nat) (rQ rZ:Value) (w:World) (B:Nat) (b:Bd) (env:List Clo) (begun:Nat) (path:Bs) (st:List Fr) (log:List (Bs×Int)) (mv pt:Value) (bv ev sv:Value) (cells:List Value) (wr:World):Prop where
 ms:MS keeps most ma log mv pt wr
 rb:Rep (fun i=>¬ Chg ma mv pt B sv i) wr (kr b) bv
 re:Rep (fun i=>¬ Chg ma mv pt B sv i) wr (.sl 126 4 env.length (qX env)) ev
 own:Own wr 122 5 sv st.length cells
 rs:zH (fun i=>¬ Chg ma mv pt B sv i) wr (ju st.reverse) cells
 beg:wr.heap[B]? = some (.cells #[.int .i64 (begun:Nat),str path] 99 (0,0))
 but:But (MBk ma rQ rZ) w wr
 new:∀ i,MBk ma mv pt i->MBk ma rQ rZ i\/w.heap.size<=i
 bB:w.heap.size<=B/\¬ MBk ma mv pt B
 sB:∀ g,sv.ownBlock=some g->w.heap.size<=g/\g≠B/\¬ MBk ma mv pt g
theorem hU {R:Option (UInt8×List (Bs×Int))} {most:Nat} {c:UInt8} {env:List Clo} {begun:Nat} {path:Bs} {f:Fr} {st:List Fr} {log:List (Bs×Int)} (h:RunPl R most (.leaf c) env begun path (f::st) log) (hc:c≠117) (hm:log.length≠most) :
 RunPl R most (if c=116 then f.yes else f.no) f.env f.begun f.path st (log++[(c::path,(begun:Int))]):=by
 obtain ⟨eX,n7,dP,ez,iF,cA,BS,mt,fx⟩:=h
 have hl:(log++[(c::path,(begun:Int))]).length=log.length+1:=by simp
 have k:=mt f (by simp)
 obtain ⟨hand,k1,k2,k3⟩:=k.fit
 refine ⟨by rw [hl];omega,?_,⟨hand,k1,by split <;> assumption⟩,by { split;exact k.yes;exact k.no },by rw [hl];exact j6 (by omega) _ k.env,by rw [hl];have:=k.len;omega,by rw [hl];have:=k.path;omega,fun g hg=>by rw [hl];exact (mt g (by simp [hg])).mono (by omega),by rw [hl];simp at fx;omega⟩
 rw [n7,hl]
 obtain ⟨d,hd⟩:∃ d,most-log.length=d+1:=⟨most-log.length-1,by omega⟩
 rw [hd,qp hc,show most-(log.length+1)=d from by omega,Option.map_map]
 congr 1
 funext x
 simp [kK]
theorem runpl_ask {R:Option (UInt8×List (Bs×Int))} {most:Nat} {v:Nat} {ss:List Bd} {y n:Bd} {env:List Clo} {begun:Nat} {path:Bs} {st:List Fr} {log:List (Bs×Int)} (h:RunPl R most (.ask v ss y n) env begun path st log) (hm:log.length≠most) {e:Clo} (he:env[v]? = some e) :
 RunPl R most e.body (e.env++zD env log.length e.path 0 ss) log.length e.path (⟨y,n,env,begun,path⟩::st) (log++[(113::e.path,(e.begun:Int))]):=by
 obtain ⟨eX,n7,dP,ez,iF,cA,BS,mt,fx⟩:=h
 have hl:(log++[(113::e.path,(e.begun:Int))]).length=log.length+1:=by simp
 obtain ⟨hand,k1,k2⟩:=dP
 obtain ⟨e',iN,eU,j1,j2⟩:=ask_next k2 k1 log.length
 rw [he] at iN;simp at iN;subst iN
 have fN:=okCs_at _ iF _ _ he
 rw [nB] at ez
 obtain ⟨eb,ee,eg,ep⟩:=e
 rw [okC] at fN
 simp only [Clo.body,Clo.env,Clo.begun,Clo.path] at *
 refine ⟨by rw [hl];omega,?_,⟨eU,j1,j2⟩,fN.1,?_,?_,?_,?_,?_⟩
 ·rw [n7,hl]
  obtain ⟨d,hd⟩:∃ d,most-log.length=d+1:=⟨most-log.length-1,by omega⟩
  rw [hd,qb _ _ _ _ _ _ _ _ _ _ he,show most-(log.length+1)=d from by omega,Option.map_map]
  simp only [Clo.body,Clo.env,Clo.begun,Clo.path]
  congr 1
  funext x
  simp [kK]
 ·rw [hl]
  exact p7 _ _ (j6 (by omega) _ fN.2.1) (xt (j6 (by omega) _ iF) (by omega) (by have:=fN.2.2.2;omega) ss 0 (by omega) ez.2.1)
 ·rw [hl,List.length_append,qJ];have:=fN.2.2.1;omega
 ·rw [hl];have:=fN.2.2.2;omega
 ·intro f hf
  rw [hl]
  rcases List.mem_cons.1 hf with rfl | hf
  ·exact ⟨frame_next k2 k1 begun path,ez.2.2.1,ez.2.2.2,j6 (by omega) _ iF,by simp only;omega,by simp only;omega⟩
  ·exact (mt f hf).mono (by omega)
 ·rw [hl];simp only [List.length_cons];omega
def RunPost (R:Option (UInt8×List (Bs×Int))) (keeps:Bool) (most ma:Nat) (mv pt:Value) (w:World) (en:Ending) (w':World):Prop :=
 But (MBk ma mv pt) w w'/\(R=none->∃ te pe,en=.returned (.tuple #[str [],.iface te pe])) /\
  (∀ c log,R=some (c,log)->en=.returned (.tuple #[str [c],.nilIface])/\∃ mv' pt',MS keeps most ma log mv' pt' w'/\(∀ i,MBk ma mv' pt' i->MBk ma mv pt i\/w.heap.size<=i))
def RunRel (R:Option (UInt8×List (Bs×Int))) (keeps:Bool) (most ma:Nat) (rQ rZ:Value) (w:World) (B:Nat) (bv ev sv:Value) (wr:World):Prop :=
 ∃ b env begun path st log mv pt cells,RunPl R most b env begun path st log/\RunAt keeps most ma rQ rZ w B b env begun path st log mv pt bv ev sv cells wr
def leftM (most ma:Nat) (wr:World):Nat:=match wr.heap[ma]? with
 | some (.cells c _ _)=>most-(intOf (c.getD 3 (.int .i64 0))).toNat
 | _=>0
theorem wM {keeps:Bool} {most ma:Nat} {log:List (Bs×Int)} {mv pt:Value} {w:World} (h:MS keeps most ma log mv pt w):leftM most ma w=most-log.length:=by
 unfold leftM
 rw [h.blk]
 simp [intOf]
theorem env0_fit:∀ (ar:List Bd) (ts:List Ty) (i:Nat),za (ts.map Ty.args) ar->km (zD [] 0 [] i ar) ts
 | [],ts,i,h=>by
   rw [za] at h
   have:ts=[]:=by simpa using h
   subst this;simp [zD,km]
 | a::ar,ts,i,h=>by
   rw [za] at h
   obtain ⟨h',fE,e,h1,h2⟩:=h
   cases ts with
   | nil=>simp at e
   | cons t ts =>
     simp only [List.map_cons,List.cons.injEq] at e
     obtain ⟨rfl,rfl⟩:=e
     rw [zD,km]
     refine ⟨t,ts,rfl,?_,env0_fit ar ts (i+1) h2⟩
     rw [b7]
     exact ⟨[],by rw [km],by simpa using h1⟩
theorem subs_open {F:Nat->Prop} {w:World} {ss:List Bd} {v:Value} (h:Rep F w (.sl 55 1 ss.length (qW ss)) v) :
 ∃ a c us,v=.slice a ss.length c/\zH F w (qW ss) us/\∀ k,k<ss.length->∃ b o u,a=some ⟨b,o,none⟩/\us[k]? = some (.pointer (some ⟨u,0,none⟩))/\F b/\w.cell? ⟨b,o+k,none⟩=some (.pointer (some ⟨u,0,none⟩)):=by
 rw [kM] at h
 obtain ⟨hl,a,cap,rfl,hn,hz,h⟩:=h
 rcases h with h0 | ⟨b,o,c,fr,rfl,hb,hc,hr⟩
 ·have:ss=[]:=List.eq_nil_of_length_eq_zero h0
  subst this
  exact ⟨a,cap,[],rfl,by rw [qW];exact zF.2 rfl,fun k hk=>by simp at hk⟩
 ·refine ⟨_,cap,_,rfl,hr,fun k hk=>?_⟩
  obtain ⟨u,hu,fK⟩:=hr.at (i:=k) (d:=kr ss[k]) (by rw [be,List.getElem?_eq_getElem hk];rfl)
  obtain ⟨ub,rfl⟩:=kC fK
  refine ⟨b,o,ub,rfl,hu,hb,?_⟩
  rw [Nat.mul_one,List.getElem?_take,if_pos hk,List.getElem?_drop] at hu
  simp only [World.cell?,hc];simpa using hu
theorem bw {ma:Nat} {mv pt:Value} {w w':World} (hg:qL w/\jp w) (hn:∀ i,MBk ma mv pt i->gR i/\i≠0) (hb:But (MBk ma mv pt) w w'):qL w'/\jp w' :=
 ⟨hg.1.but hb fun i hi=>(hn i hi).1,hg.2.but hb fun e=>(hn _ e).2 rfl⟩
theorem bE {ma:Nat} {mv pt:Value} {w:World} (hg:qL w/\jp w) (hn:∀ i,MBk ma mv pt i->gR i/\i≠0) {i:Nat} (hi:MBk ma mv pt i\/w.heap.size<=i):gR i/\i≠0:=by
 rcases hi with hi | hi
 ·exact hn i hi
 ·refine ⟨hg.1.new hi,?_⟩
  obtain ⟨te,pe,h⟩:=hg.2
  have h2:0<w.heap.size:=cD w _ h
  omega
theorem run_start {keeps:Bool} {most ma:Nat} {mv pt ib ir:Value} {w w1 w3 w4:World} {O:Obj} {b:Bd} {ar:List Bd} {bv:Value} {us:List Value} {ea:Option Addr} {ec:Nat}
 (hO:O=.cells #[.int .i64 ((0:Nat):Int),str []] 99)
 (cT:But (MBk ma mv pt) w w1) (mD:MS keeps most ma [([113],-1)] ib ir w1) (dY:∀ b,MBk ma ib ir b->MBk ma mv pt b\/w.heap.size<=b)
 (cr:Below (w1.alloc O).heap.size (w1.alloc O) w3) (dJ:Below w3.heap.size w3 w4) (nE:Own w4 126 4 (.slice ea ar.length ec) ar.length (xn us (.slice none 0 0) 0 [] ar.length))
 (oh:∀ g,(Value.slice ea ar.length ec).ownBlock=some g->w3.heap.size<=g) (rb:Rep (fun i=>¬ MBk ma mv pt i) w (kr b) bv) (sO:zH (fun i=>¬ MBk ma mv pt i) w (qW ar) us) (hma:∀ i,MBk ma ib ir i->i<w1.heap.size) :
 RunAt keeps most ma mv pt w w1.heap.size b (zD [] 0 [] 0 ar) 0 [] [] [([113],-1)] ib ir bv (.slice ea ar.length ec) (.slice none 0 0) [] w4:=by
 have aN:w1.heap.size+1<=w3.heap.size:=by have:=cr.size;rwa [zK] at this
 have dx:But (MBk ma mv pt) w w4:=((cT.alloc O).trans (But.ofBelow cr)).trans (But.ofBelow dJ)
 have iI:Below w1.heap.size w1 w4:=(((cE w1.heap.size w1).alloc (cC _) O).trans (cr.mono (by rw [zK];omega))).trans (dJ.mono (by omega))
 have eP:=cT.size
 have hn:∀ i,Chg ma ib ir w1.heap.size (.slice none 0 0) i->MBk ma mv pt i\/w.heap.size<=i:=by
  rintro i (h | h | h)
  ·exact dY i h
  ·exact .inr (by omega)
  ·simp [Value.ownBlock] at h
 have hev:Rep (fun i=>¬ Chg ma ib ir w1.heap.size (.slice none 0 0) i) w4 (.sl 126 4 ([]:List Clo).length (qX [])) (.slice none 0 0):=kM.2 ⟨rfl,none,0,rfl,cC _,fun _=>rfl,.inl rfl⟩
 have nL:=ents_rep (env:=[]) (m:=0) (p:=[]) (xP dx hn sO) hev ar.length (cC _)
 have d6:(zD [] 0 [] 0 ar).take ar.length=zD [] 0 [] 0 ar:=List.take_of_length_le (by rw [qJ];exact cC _)
 rw [d6] at nL
 refine ⟨mD.but (But.ofBelow (m:=fun _=>False) iI) (fun _ _ h=>h),v9 dx hn rb,?_,World.ownsRow_nil _ _ _ _,zF.2 rfl,?_,dx,dY,⟨by omega,fun h=>?_⟩,fun g h=>by simp [Value.ownBlock] at h⟩
 ·rw [qJ]
  refine nE.rep (fun g hg=>?_) nL
  have h3:=oh g hg
  rintro (h | h | h)
  ·have:=hma g h;omega
  ·omega
  ·simp [Value.ownBlock] at h
 ·subst hO
  rw [dJ.block _ (by omega),cr.block _ (by rw [zK];omega)]
  exact zT _ _
 ·have:=hma _ h;omega
theorem MS.drew {keeps:Bool} {most ma:Nat} {log:List (Bs×Int)} {mv pt:Value} {w:World} (h:MS keeps most ma log mv pt w):MS keeps most ma log mv pt w.drew:=h.but (m:=fun _=>False) (But.refl _ _).drew fun _ _ h=>h
theorem jp.drew {w:World} (h:jp w):jp w.drew:=h
theorem wm {w w':World} (h:Below w.drew.heap.size w.drew w'):Below w.heap.size w w':=⟨h.os,h.tape,h.output,h.size,h.block⟩
theorem but_ud {m:Nat->Prop} {w w':World} (h:But m w.drew w'):But m w w':=⟨h.os,h.tape,h.output,h.size,h.block⟩
theorem pE {m:Nat->Prop} {w w':World} {a b c:Addr} {u v x:Value} (hb:But m w w') (ha:w.cell? a=some u) (hbb:w.cell? b=some v) (hc:w.cell? c=some x) (na:¬ m a.block) (nb:¬ m b.block) (nc:¬ m c.block) :
 w'.cell? a=some u/\w'.cell? b=some v/\w'.cell? c=some x :=
 ⟨(hb.cell (cD w _ ha) na).trans ha,(hb.cell (cD w _ hbb) nb).trans hbb,(hb.cell (cD w _ hc) nc).trans hc⟩
theorem frame_top {F:Nat->Prop} {wr:World} {sv:Value} {f:Fr} {st:List Fr} {cells:List Value} (ho:Own wr 122 5 sv (st.length+1) cells) (hr:zH F wr (ju (f::st).reverse) cells) :
 ∃ g c yv nv ev cells1,sv=.slice (some ⟨g,0,none⟩) (st.length+1) c/\st.length+1<=c/\wr.cell? ⟨g,st.length*5,none⟩=some yv/\wr.cell? ⟨g,st.length*5+1,none⟩=some nv/\wr.cell? ⟨g,st.length*5+2,none⟩=some ev /\
   wr.cell? ⟨g,st.length*5+3,none⟩=some (.int .i64 (f.begun:Nat))/\wr.cell? ⟨g,st.length*5+4,none⟩=some (str f.path)/\cells=cells1++[yv,nv,ev,.int .i64 (f.begun:Nat),str f.path]/\cells1.length=st.length*5 /\
   zH F wr (ju st.reverse) cells1/\Rep F wr (kr f.yes) yv/\Rep F wr (kr f.no) nv/\Rep F wr (.sl 126 4 f.env.length (qX f.env)) ev:=by
 rw [List.reverse_cons,uL] at hr
 have hs:=hr.split
 rw [xk,List.length_reverse] at hs
 obtain ⟨h1,h2⟩:=hs
 simp only [ju,encFr,List.append_nil,zV,zF,zj] at h2
 obtain ⟨yv,_,e1,k1,nv,_,rfl,k2,ev,_,rfl,k3,_,_,rfl,rfl,_,_,rfl,rfl,rfl⟩:=h2
 have fv:cells=cells.take (st.length*5)++[yv,nv,ev,.int .i64 (f.begun:Nat),str f.path]:=by rw [<- e1,List.take_append_drop]
 have hl:(cells.take (st.length*5)).length=st.length*5:=by
  have:=ho.1;rw [List.length_take];omega
 have at5:∀ (j:Nat) (u:Value),[yv,nv,ev,.int .i64 (f.begun:Nat),str f.path][j]? = some u->cells[st.length*5+j]? = some u:=by
  intro j u hj
  rw [fv,List.getElem?_append_right (by omega),hl,Nat.add_sub_cancel_left];exact hj
 obtain ⟨g,c,es,rW⟩:=ho.at (at5 0 yv rfl)
 subst es
 have get:∀ (j:Nat) (u:Value),[yv,nv,ev,.int .i64 (f.begun:Nat),str f.path][j]? = some u->wr.cell? ⟨g,st.length*5+j,none⟩=some u:=by
  intro j u hj
  obtain ⟨g',c',es,hc⟩:=ho.at (at5 j u hj)
  simp only [Value.slice.injEq,Option.some.injEq,Addr.mk.injEq,and_true,true_and] at es
  obtain ⟨rfl,rfl⟩:=es
  exact hc
 have d9:st.length+1<=c:=by
  rcases ho.2 with ⟨e,_⟩ | ⟨g',cap,cur,e,_,_,nZ,_⟩
  ·simp at e
  ·simp only [Value.slice.injEq,true_and] at e
   rw [e.2];exact nZ
 exact ⟨g,c,yv,nv,ev,_,rfl,d9,get 0 _ rfl,get 1 _ rfl,get 2 _ rfl,get 3 _ rfl,get 4 _ rfl,fv,hl,h1,k1,k2,k3⟩
theorem heap_push (w:World) (o:Obj) {i:Nat} (h:i<w.heap.size):(w.alloc o).heap[i]? = w.heap[i]?:=Below.heap_alloc _ _ _ h
theorem hH {keeps:Bool} {most ma:Nat} {mv pt:Value} {w:World} {B:Nat} {b0 nb:Bd} {env:List Clo} {begun:Nat} {path:Bs} {f:Fr} {st:List Fr} {log log':List (Bs×Int)} {dZ c_ dN dM bv ev:Value} {g sc:Nat} {cells cells1:List Value} {wr w1:World} {O:Obj} {nv fe:Value} {tl:List Value}
 (h:RunAt keeps most ma mv pt w B b0 env begun path (f::st) log dZ c_ bv ev (.slice (some ⟨g,0,none⟩) (st.length+1) sc) cells wr)
 (fv:cells=cells1++tl) (nA:cells1.length=st.length*5)
 (dH:zH (fun i=>¬ Chg ma dZ c_ B (.slice (some ⟨g,0,none⟩) (st.length+1) sc) i) wr (ju st.reverse) cells1)
 (rn:Rep (fun i=>¬ Chg ma dZ c_ B (.slice (some ⟨g,0,none⟩) (st.length+1) sc) i) wr (kr nb) nv)
 (re:Rep (fun i=>¬ Chg ma dZ c_ B (.slice (some ⟨g,0,none⟩) (st.length+1) sc) i) wr (.sl 126 4 f.env.length (qX f.env)) fe)
 (cT:But (MBk ma dZ c_) wr w1) (nR:MS keeps most ma log' dN dM w1) (hn:∀ b,MBk ma dN dM b->MBk ma dZ c_ b\/wr.heap.size<=b) {W:World}
 (hW:W=((w1.alloc O).setCell ⟨B,0,none⟩ (.int .i64 (f.begun:Nat))).setCell ⟨B,1,none⟩ (str f.path)) :
 RunAt keeps most ma mv pt w B nb f.env f.begun f.path st log' dN dM nv fe (.slice (some ⟨g,0,none⟩) st.length sc) cells1 W.drew:=by
 subst hW
 have ia:=zZ h.beg
 have eK:=cT.size
 have eG:=h.sB g rfl
 have cS:But (Chg ma dZ c_ B (.slice (some ⟨g,0,none⟩) (st.length+1) sc)) wr (((w1.alloc O).setCell ⟨B,0,none⟩ (.int .i64 (f.begun:Nat))).setCell ⟨B,1,none⟩ (str f.path)).drew :=
  (((cT.weak fun i _ hi=>.inl hi).alloc O).setCell (p:=⟨B,0,none⟩) (.inl (.inr (.inl rfl))) _ |>.setCell (p:=⟨B,1,none⟩) (.inl (.inr (.inl rfl))) _).drew
 have fq:∀ i,MBk ma dN dM i->i≠B:=by
  rintro i hi rfl
  rcases hn _ hi with h' | h'
  ·exact h.bB.2 h'
  ·omega
 have tf:∀ i,Chg ma dN dM B (.slice (some ⟨g,0,none⟩) st.length sc) i->Chg ma dZ c_ B (.slice (some ⟨g,0,none⟩) (st.length+1) sc) i\/wr.heap.size<=i:=by
  rintro i (hi | hi | hi)
  ·rcases hn i hi with h' | h'
   ·exact .inl (.inl h')
   ·exact .inr h'
  ·exact .inl (.inr (.inl hi))
  ·exact .inl (.inr (.inr hi))
 have dr:w1.heap[B]? = some (.cells #[.int .i64 (begun:Nat),str path] 99 (0,0)):=by rw [cT.block B ia h.bB.2];exact h.beg
 have hbl2:(w1.alloc O).heap[B]? = some (.cells #[.int .i64 (begun:Nat),str path] 99 (0,0)):=zY dr
 have s8:=h.but.size
 refine ⟨?_,v9 cS tf rn,v9 cS tf re,?_,xP cS tf dH,?_,?_,?_,⟨h.bB.1,fun hi=>fq _ hi rfl⟩,fun g' dF=>?_⟩
 ·refine nR.but (m:=fun i=>i=B) ?_ fun b hb e=>fq b hb e
  exact (((But.refl (fun i=>i=B) w1).alloc O).setCell (p:=⟨B,0,none⟩) (.inl rfl) _ |>.setCell (p:=⟨B,1,none⟩) (.inl rfl) _).drew
 ·have hs:=h.own.short (m:=st.length) (by simp) (by simp)
  rw [fv,<- nA,List.take_left] at hs
  refine (hs.keep fun g' o dF ho=>?_)
  have e:g'=g:=by simpa [Value.ownBlock] using dF.symm
  subst e
  have cL:=zZ ho
  show (((w1.alloc O).setCell ⟨B,0,none⟩ (.int .i64 (f.begun:Nat))).setCell ⟨B,1,none⟩ (str f.path)).heap[g']? = _
  rw [cF _ _ _ _ eG.2.1,cF _ _ _ _ eG.2.1,heap_push _ _ (by omega),cT.block g' cL eG.2.2]
  exact ho
 ·show (((w1.alloc O).setCell ⟨B,0,none⟩ (.int .i64 (f.begun:Nat))).setCell ⟨B,1,none⟩ (str f.path)).heap[B]? = _
  rw [zu (zu hbl2)];rfl
 ·refine h.but.trans' cS fun i hi hh=>?_
  rcases hh with hh | hh | hh
  ·rcases h.new i hh with h' | h'
   ·exact h'
   ·omega
  ·subst hh;have:=h.bB.1;omega
  ·have:=(h.sB i hh).1;omega
 ·intro i hi
  rcases hn i hi with h' | h'
  ·exact h.new i h'
  ·exact .inr (by omega)
 ·have e:g'=g:=by simpa [Value.ownBlock] using dF.symm
  subst e
  refine ⟨eG.1,eG.2.1,fun hi=>?_⟩
  rcases hn _ hi with h' | h'
  ·exact eG.2.2 h'
  ·have:=h.own.lt (g:=g') rfl;omega
def v8 (most:Nat) (b:Bd) (ar:List Bd):Option (UInt8×List (Bs×Int)):=(qm (most-1) 1 b (zD [] 0 [] 0 ar) 0 [] []).map fun x=>(x.1,[([113],-1)]++kK x.2)
theorem env_at {F:Nat->Prop} {w:World} {env:List Clo} {ev:Value} (h:Rep F w (.sl 126 4 env.length (qX env)) ev) {v:Nat} {c:Clo} (hc:env[v]? = some c) :
 ∃ b o cap u ea ec,ev=.slice (some ⟨b,o,none⟩) env.length cap/\F b/\b<w.heap.size/\w.cell? ⟨b,o+v*4,none⟩=some (.pointer (some ⟨u,0,none⟩))/\w.cell? ⟨b,o+v*4+1,none⟩=some (.slice ea c.env.length ec) /\
   w.cell? ⟨b,o+v*4+2,none⟩=some (.int .i64 (c.begun:Nat))/\w.cell? ⟨b,o+v*4+3,none⟩=some (str c.path)/\Rep F w (kr c.body) (.pointer (some ⟨u,0,none⟩))/\Rep F w (.sl 126 4 c.env.length (qX c.env)) (.slice ea c.env.length ec):=by
 have hv:=(List.getElem?_eq_some_iff.1 hc).1
 rw [kM] at h
 obtain ⟨hl,a,cap,rfl,hn,hz,h⟩:=h
 rcases h with h0 | ⟨b,o,cs,fr,rfl,hb,hcs,hr⟩
 ·omega
 have oG:qX env=qX (env.take v)++(encC c++qX (env.drop (v+1))):=by
  have e:env=env.take v++c::env.drop (v+1):=by
   have:env[v]=c:=(List.getElem?_eq_some_iff.1 hc).2
   rw [<- this,List.getElem_cons_drop,List.take_append_drop]
  conv=>lhs;rw [e]
  rw [vx,qX]
 rw [oG] at hr
 have h2:=hr.split.2
 rw [wj,List.length_take,Nat.min_eq_left (by omega)] at h2
 have h3:=h2.split.1
 rw [gV] at h3
 obtain ⟨cb,ce,cg,cp⟩:=c
 simp only [encC,zV,zF,zj] at h3
 obtain ⟨x0,_,e1,k1,x1,_,rfl,k2,_,_,rfl,rfl,_,_,rfl,rfl,rfl⟩:=h3
 obtain ⟨u,rfl⟩:=kC k1
 obtain ⟨ea,ec,rfl⟩:∃ a c,x1=.slice a ce.length c:=by
  have h:=k2;rw [kM] at h;obtain ⟨_,a,c,e,_⟩:=h;exact ⟨a,c,e⟩
 have get:∀ (j:Nat) (u':Value),j<4->[.pointer (some ⟨u,0,none⟩),.slice ea ce.length ec,.int .i64 (cg:Nat),str cp][j]? = some u'->w.cell? ⟨b,o+v*4+j,none⟩=some u':=by
  intro j u' hj h
  rw [<- e1,List.getElem?_take,if_pos hj,List.getElem?_drop,List.getElem?_take,if_pos (by omega),List.getElem?_drop] at h
  simp only [World.cell?,hcs]
  simpa [Nat.add_assoc] using h
 exact ⟨b,o,cap,u,ea,ec,rfl,hb,zZ hcs,get 0 _ (by omega) rfl,get 1 _ (by omega) rfl,get 2 _ (by omega) rfl,get 3 _ (by omega) rfl,k1,k2⟩
structure Tri (bb B P:Nat) (v:Nat) (sl yv nv:Value) (begun:Nat) (path:Bs) (q0 q1 q2 q3:Value) (w:World):Prop where
 b:w.heap[bb]? = some (.cells #[str [],.int .i64 v,sl,yv,nv] 120 (0,0))
 g:w.heap[B]? = some (.cells #[.int .i64 (begun:Nat),str path] 99 (0,0))
 p:w.heap[P]? = some (.cells #[q0,q1,q2,q3] 126 (0,0))
theorem Tri.but {bb B P v:Nat} {sl yv nv:Value} {begun:Nat} {path:Bs} {q0 q1 q2 q3:Value} {w w':World} {m:Nat->Prop} (h:Tri bb B P v sl yv nv begun path q0 q1 q2 q3 w) (hb:But m w w') (n1:¬ m bb) (n2:¬ m B) (n3:¬ m P):Tri bb B P v sl yv nv begun path q0 q1 q2 q3 w' :=
 ⟨by rw [hb.block _ (zZ h.b) n1];exact h.b,by rw [hb.block _ (zZ h.g) n2];exact h.g,by rw [hb.block _ (zZ h.p) n3];exact h.p⟩
theorem Tri.below {bb B P v:Nat} {sl yv nv:Value} {begun:Nat} {path:Bs} {q0 q1 q2 q3:Value} {w w':World} (h:Tri bb B P v sl yv nv begun path q0 q1 q2 q3 w) (hb:Below w.heap.size w w'):Tri bb B P v sl yv nv begun path q0 q1 q2 q3 w' :=
 h.but (m:=fun _=>False) (But.ofBelow hb) (fun h=>h) (fun h=>h) (fun h=>h)
theorem Tri.drew {bb B P v:Nat} {sl yv nv:Value} {begun:Nat} {path:Bs} {q0 q1 q2 q3:Value} {w:World} (h:Tri bb B P v sl yv nv begun path q0 q1 q2 q3 w):Tri bb B P v sl yv nv begun path q0 q1 q2 q3 w.drew:=⟨h.b,h.g,h.p⟩
theorem Tri.cells {bb B P v:Nat} {sl yv nv:Value} {begun:Nat} {path:Bs} {q0 q1 q2 q3:Value} {w:World} (h:Tri bb B P v sl yv nv begun path q0 q1 q2 q3 w) :
 w.cell? ⟨bb,2,none⟩=some sl/\w.cell? ⟨bb,3,none⟩=some yv/\w.cell? ⟨bb,4,none⟩=some nv/\w.cell? ⟨B,0,none⟩=some (.int .i64 (begun:Nat))/\w.cell? ⟨B,1,none⟩=some (str path) /\
  w.cell? ⟨P,0,none⟩=some q0/\w.cell? ⟨P,1,none⟩=some q1/\w.cell? ⟨P,2,none⟩=some q2/\w.cell? ⟨P,3,none⟩=some q3/\w.frozen? ⟨B,0,none⟩=false/\w.frozen? ⟨B,1,none⟩=false/\P<w.heap.size/\B<w.heap.size/\bb<w.heap.size :=
 ⟨by simp [World.cell?,h.b],by simp [World.cell?,h.b],by simp [World.cell?,h.b],by simp [World.cell?,h.g],by simp [World.cell?,h.g],by simp [World.cell?,h.p],by simp [World.cell?,h.p],by simp [World.cell?,h.p],by simp [World.cell?,h.p],by simp [World.frozen?,h.g],by simp [World.frozen?,h.g],zZ h.p,zZ h.g,zZ h.b⟩
theorem zM.ofOwn {w:World} {e:TypeId} {sz n:Nat} {v:Value} {xs:List Value} (h:Own w e sz v n xs) (hc:∀ u∈xs,u.oneCell'=true):zM sz v n xs w:=by
 refine ⟨h.1,hc,?_⟩
 rcases h.2 with ⟨rfl,rfl⟩ | ⟨g,cap,cur,rfl,_,hg,_,_,_,ht⟩
 ·exact .inr ⟨rfl,rfl⟩
 ·refine .inl ⟨_,cap,rfl,fun j u hj=>?_⟩
  obtain ⟨g',c',e',si⟩:=h.at hj
  simp only [Value.slice.injEq,Option.some.injEq,Addr.mk.injEq,and_true,true_and] at e'
  obtain ⟨rfl,rfl⟩:=e'
  unfold Addr.add
  split
  ·subst j;exact si
  ·simpa using si
theorem ents_one {us:List Value} (hu:∀ u∈us,u.oneCell'=true) {ev:Value} (he:ev.oneCell'=true) (m:Nat) (p:Bs):∀ n,∀ u∈xn us ev m p n,u.oneCell'=true:=by
 intro n
 induction n with
 | zero=>simp [xn]
 | succ n ih =>
   intro u mL
   rw [xn] at mL
   rcases List.mem_append.1 mL with h | h
   ·exact ih u h
   ·simp only [List.mem_cons,List.not_mem_nil,or_false] at h
    rcases h with rfl | rfl | rfl | rfl
    ·rw [List.getD_eq_getElem?_getD]
     cases hq:us[n]? with
     | none=>rfl
     | some x=>exact hu x (List.mem_of_getElem? hq)
    ·exact he
    ·rfl
    ·rfl
theorem xA {F:Nat->Prop} {w:World}:∀ (cs:List Clo) (us:List Value),zH F w (qX cs) us->∀ u∈us,u.oneCell'=true
 | [],us,h,u,hu=>by rw [qX,zF] at h;subst h;simp at hu
 | .mk b e g p::cs,us,h,u,hu=>by
   simp only [qX,encC,List.cons_append,List.nil_append,zV,zj] at h
   obtain ⟨x0,_,rfl,k1,x1,_,rfl,k2,_,_,rfl,rfl,_,us',rfl,rfl,k3⟩:=h
   simp only [List.mem_cons] at hu
   rcases hu with rfl | rfl | rfl | rfl | hu
   ·obtain ⟨a,rfl⟩:=kC k1;rfl
   ·rw [kM] at k2;obtain ⟨_,a,c,rfl,_⟩:=k2;rfl
   ·rfl
   ·rfl
   ·exact xA cs us' k3 u hu
def SubsAt (w:World) (n:Nat) (us:List Value) (sa:Option Addr):Prop:=∀ k,k<n->∃ b o u,sa=some ⟨b,o,none⟩/\us[k]? = some (.pointer (some ⟨u,0,none⟩))/\w.cell? ⟨b,o+k,none⟩=some (.pointer (some ⟨u,0,none⟩))
theorem SubsAt.below {w w':World} {n:Nat} {us:List Value} {sa:Option Addr} (h:SubsAt w n us sa) (hb:Below w.heap.size w w'):SubsAt w' n us sa:=fun k hk=>by
 obtain ⟨b,o,u,e,hu,hc⟩:=h k hk
 exact ⟨b,o,u,e,hu,(hb.cell (cD w _ hc)).trans hc⟩
theorem runat_ask {keeps:Bool} {most ma:Nat} {mv pt:Value} {w:World} {B:Nat} {v:Nat} {ss:List Bd} {y n:Bd} {env:List Clo} {begun:Nat} {path:Bs} {st:List Fr} {log log':List (Bs×Int)} {dZ c_ dN dM bv ev sv sv' ev' yv nv ubv:Value} {cells us news:List Value} {wr w1 w6:World} {e:Clo}
 (h:RunAt keeps most ma mv pt w B (.ask v ss y n) env begun path st log dZ c_ bv ev sv cells wr)
 (hy:Rep (fun i=>¬ Chg ma dZ c_ B sv i) wr (kr y) yv) (B9:Rep (fun i=>¬ Chg ma dZ c_ B sv i) wr (kr n) nv) (sg:Rep (fun i=>¬ Chg ma dZ c_ B sv i) wr (kr e.body) ubv)
 {w4:World} (dl:zH (fun i=>¬ Chg ma dZ c_ B sv i/\i<wr.heap.size) w4 (qX e.env) news) (sM:Below w4.heap.size w4 w6) (sO:zH (fun i=>¬ Chg ma dZ c_ B sv i) wr (qW ss) us)
 (n9:But (Chg ma dZ c_ B sv) wr w6) (eP:But (fun b=>sv.ownBlock=some b) w1 w6) (nR:MS keeps most ma log' dN dM w1)
 (hn:∀ i,MBk ma dN dM i->MBk ma dZ c_ i\/wr.heap.size<=i) (hz:wr.heap.size<=w1.heap.size) (hB6:w6.heap[B]? = some (.cells #[.int .i64 (begun:Nat),str path] 99 (0,0)))
 (hos:Own w6 122 5 sv' (st.length+1) (cells++[yv,nv,ev,.int .i64 (begun:Nat),str path])) (eG:∀ g,sv'.ownBlock=some g->sv.ownBlock=some g\/w1.heap.size<=g)
 (hoe:Own w6 126 4 ev' (e.env.length+ss.length) (news++xn us ev log.length e.path ss.length)) (eV:∀ g,ev'.ownBlock=some g->w1.heap.size<=g/\sv'.ownBlock≠some g) {W:World}
 (hW:W=(w6.setCell ⟨B,0,none⟩ (.int .i64 (log.length:Nat))).setCell ⟨B,1,none⟩ (str e.path)) :
 RunAt keeps most ma mv pt w B e.body (e.env++zD env log.length e.path 0 ss) log.length e.path (⟨y,n,env,begun,path⟩::st) log' dN dM ubv ev' sv' (cells++[yv,nv,ev,.int .i64 (begun:Nat),str path]) W.drew:=by
 subst hW
 have ia:=zZ h.beg
 have mE:∀ i,MBk ma dN dM i->i<w1.heap.size:=fun i hi=>MBk.lt nR hi
 have rJ:∀ g,sv.ownBlock=some g->g<wr.heap.size:=fun g hg=>h.own.lt hg
 have cS:But (Chg ma dZ c_ B sv) wr ((w6.setCell ⟨B,0,none⟩ (.int .i64 (log.length:Nat))).setCell ⟨B,1,none⟩ (str e.path)).drew :=
  ((n9.setCell (p:=⟨B,0,none⟩) (.inl (.inr (.inl rfl))) _).setCell (p:=⟨B,1,none⟩) (.inl (.inr (.inl rfl))) _).drew
 have fq:∀ i,MBk ma dN dM i->i≠B:=by
  rintro i hi rfl
  rcases hn _ hi with h' | h'
  ·exact h.bB.2 h'
  ·omega
 have tF:∀ i,MBk ma dN dM i->sv.ownBlock≠some i:=by
  intro i hi hs
  rcases hn _ hi with h' | h'
  ·exact (h.sB i hs).2.2 h'
  ·have:=rJ i hs;omega
 have tf:∀ i,Chg ma dN dM B sv' i->Chg ma dZ c_ B sv i\/wr.heap.size<=i:=by
  rintro i (hi | hi | hi)
  ·rcases hn i hi with h' | h'
   ·exact .inl (.inl h')
   ·exact .inr h'
  ·exact .inl (.inr (.inl hi))
  ·rcases eG i hi with h' | h'
   ·exact .inl (.inr (.inr h'))
   ·exact .inr (by omega)
 have By:∀ g,sv'.ownBlock=some g->g≠B:=by
  rintro g hg rfl
  rcases eG _ hg with h' | h'
  ·exact (h.sB _ h').2.1 rfl
  ·omega
 have uZ:∀ {i:Nat} {o:Obj},i≠B->w6.heap[i]? = some o->(((w6.setCell ⟨B,0,none⟩ (.int .i64 (log.length:Nat))).setCell ⟨B,1,none⟩ (str e.path)).drew).heap[i]? = some o:=by
  intro i o hi ho
  show ((w6.setCell ⟨B,0,none⟩ (.int .i64 (log.length:Nat))).setCell ⟨B,1,none⟩ (str e.path)).heap[i]? = _
  rw [cF _ _ _ _ hi,cF _ _ _ _ hi];exact ho
 have hbB6:w6.heap[B]? = some (.cells #[.int .i64 (begun:Nat),str path] 99 (0,0))->(((w6.setCell ⟨B,0,none⟩ (.int .i64 (log.length:Nat))).setCell ⟨B,1,none⟩ (str e.path)).drew).heap[B]? = some (.cells #[.int .i64 (log.length:Nat),str e.path] 99 (0,0)):=by
  intro hb
  show ((w6.setCell ⟨B,0,none⟩ (.int .i64 (log.length:Nat))).setCell ⟨B,1,none⟩ (str e.path)).heap[B]? = _
  rw [zu (zu hb)];rfl
 have oS:=(Rep.keep (F':=fun i=>¬ Chg ma dN dM B sv' i) (w':=((w6.setCell ⟨B,0,none⟩ (.int .i64 (log.length:Nat))).setCell ⟨B,1,none⟩ (str e.path)).drew) fun b o hf ho=>⟨fun e=>by
  rcases tf b e with h' | h'
  ·exact hf.1 h'
  ·omega,uZ (fun e=>hf.1 (.inr (.inl e))) (by rw [sM.block b (zZ ho)];exact ho)⟩).2 _ _ dl
 have C9:=v9 cS tf h.re
 have nL:=ents_rep (m:=log.length) (p:=e.path) (xP cS tf sO) C9 ss.length (cC _)
 rw [List.take_of_length_le (by rw [qJ];exact cC _)] at nL
 have s8:=h.but.size
 refine ⟨?_,v9 cS tf sg,?_,?_,?_,?_,?_,?_,⟨h.bB.1,fun hi=>fq _ hi rfl⟩,fun g' dF=>⟨?_,By g' dF,fun hi=>?_⟩⟩
 ·refine nR.but (m:=fun i=>sv.ownBlock=some i\/i=B) ?_ fun b hb e=>?_
  ·exact (((eP.weak fun i _ hi=>.inl hi).setCell (p:=⟨B,0,none⟩) (.inl (.inr rfl)) _).setCell (p:=⟨B,1,none⟩) (.inl (.inr rfl)) _).drew
  ·rcases e with e | e
   ·exact tF b hb e
   ·exact fq b hb e
 ·rw [List.length_append,qJ,vx]
  refine (hoe.keep fun g o hg ho=>uZ (fun e=>by have:=(eV g hg).1;omega) ho).rep (fun g hg=>?_) (zH.append oS nL)
  obtain ⟨k1,k2⟩:=eV g hg
  rintro (hi | hi | hi)
  ·have:=mE g hi;omega
  ·omega
  ·exact k2 hi
 ·exact hos.keep fun g o hg ho=>uZ (By g hg) ho
 ·rw [List.reverse_cons,uL]
  refine zH.append (xP cS tf h.rs) ?_
  simp only [ju,encFr,List.append_nil]
  exact zV.2 ⟨_,_,rfl,v9 cS tf hy,zV.2 ⟨_,_,rfl,v9 cS tf B9,zV.2 ⟨_,_,rfl,C9,zV.2 ⟨_,_,rfl,zj.2 rfl,zV.2 ⟨_,_,rfl,zj.2 rfl,zF.2 rfl⟩⟩⟩⟩⟩
 ·exact hbB6 hB6
 ·refine h.but.trans' cS fun i hi hh=>?_
  rcases hh with hh | hh | hh
  ·rcases h.new i hh with h' | h'
   ·exact h'
   ·omega
  ·subst hh;have:=h.bB.1;omega
  ·have:=(h.sB i hh).1;omega
 ·intro i hi
  rcases hn i hi with h' | h'
  ·exact h.new i h'
  ·exact .inr (by omega)
 ·rcases eG g' dF with h' | h'
  ·exact (h.sB g' h').1
  ·omega
 ·rcases eG g' dF with h' | h'
  ·exact tF g' hi h'
  ·have:=mE g' hi;omega
theorem Tryz.infoFr:(Tryz.prog.info? 122).map (fun i=>(i.zero,i.size,i.bytes))=some (some (.agg #[.pointer none,.pointer none,.slice none 0 0,.int .i64 0,str []]),5,64):=by kernel_rfl
set_option maxRecDepth 100000 in
theorem run_any (keeps:Bool) (most ma:Nat) (mv pt:Value) (b:Bd) (ar:List Bd) (ts:List Ty) (bv:Value) (aa:Option Addr) (ac:Nat) (w:World) (h:MS keeps most ma [] mv pt w) (hg:qL w) (tu:jp w)
 (Ca:∀ i,MBk ma mv pt i->gR i/\i≠0) (rb:Rep (fun i=>¬ MBk ma mv pt i) w (kr b) bv) (ra:Rep (fun i=>¬ MBk ma mv pt i) w (.sl 55 1 ar.length (qW ar)) (.slice aa ar.length ac))
 (fa:za (ts.map Ty.args) ar) (fb:kX ts b) (nb:nB b) (na:nBs ar) (hl:ar.length<=15) (h1:1<=most) (eQ:most<=100000) :
 Calls Tryz.prog 29 #[.pointer (some ⟨ma,0,none⟩),bv,.slice aa ar.length ac] w (RunPost (v8 most b ar) keeps most ma mv pt w):=by
 have hm:most<=16777216:=by omega
 have H:=cH h;have HR:=cH (cB rb ra);have HG:=cH (cB hg tu);have HN:=cH Ca
 have HP:=cH (cB fa (cB fb (cB nb na)))
 clear h rb ra hg tu Ca fa fb nb na
 generalize hRR:v8 most b ar=R
 have A3:=cH hRR;clear hRR
 go_enter Tryz.func29,Tryz.ntmps29
 go_wp2_with fail
 refine (up keeps most ma [] mv pt [113] (-1) w H.out HG.out.2 hm (Nat.zero_le _)).mono ?_
 intro en w1 eP
 unfold uU at eP
 rw [if_neg (by simp;omega),List.length_nil] at eP
 obtain ⟨ib,ir,rfl,cT,mD,dY⟩:=eP
 obtain ⟨aa',ac',us,e,sO,Bu⟩:=subs_open HR.out.2
 simp only [Value.slice.injEq,true_and] at e
 obtain ⟨rfl,rfl⟩:=e
 have au:But (MBk ma mv pt) w (w1.alloc (.cells #[.int .i64 ((0:Nat):Int),str []] 99)):=cT.alloc _
 have mr:=bw HG.out HN.out au
 have H1:=cH (cB cT (cB mD dY));clear cT mD dY
 have HU:=cH (cB sO Bu);clear sO Bu
 have dS:=cH au;have HG2:=cH mr;clear au mr
 go_wp2_with fail
 refine (yX ar.length 0 [] _ HG2.out.1 (by omega) (by simp)).mono ?_
 rintro en w3 ⟨pa,pc,rfl,B3,cr,hf3⟩
 have HO3:=cH (cB B3 (cB cr hf3));clear B3 cr hf3
 go_wp2_with fail
 have Bt:∀ k,k<ar.length->∃ b o u,aa=some ⟨b,o,none⟩/\us[k]? = some (.pointer (some ⟨u,0,none⟩))/\w3.cell? ⟨b,o+k,none⟩=some (.pointer (some ⟨u,0,none⟩)):=by
  intro k hk
  obtain ⟨b,o,u,e,hu,hF,hc⟩:=HU.out.2 k hk
  have cL:=cD w _ hc
  refine ⟨b,o,u,e,hu,?_⟩
  rw [HO3.out.2.1.cell (p:=⟨b,o+k,none⟩) (cM cL dS.out.size),dS.out.cell (p:=⟨b,o+k,none⟩) cL hF];exact hc
 refine (gJ ar.length 0 [] us aa ac none 0 0 pa pc w3 (by omega) Bt HO3.out.1).mono ?_
 rintro en w4 ⟨ea,ec,rfl,nE,dJ,oh⟩
 have Cn:∀ i,MBk ma ib ir i->i<w1.heap.size:=fun i hi=>MBk.lt H1.out.2.1 hi
 have hat:=run_start (b:=b) (bv:=bv) rfl H1.out.1 H1.out.2.1 H1.out.2.2 HO3.out.2.1 dJ nE oh HR.out.1 HU.out.1 Cn
 have dU:RunPl R most b (zD [] 0 [] 0 ar) 0 [] [] [([113],-1)]:=by
  refine ⟨h1,?_,⟨ts,env0_fit ar ts 0 HP.out.1,HP.out.2.1⟩,HP.out.2.2.1,?_,?_,by simp,by simp,by simp⟩
  ·rw [<- A3.out];rfl
  ·exact xt (by rw [yP];trivial) (by simp) (by simp) ar 0 (by omega) HP.out.2.2.2
  ·rw [qJ];simp;omega
 have dE:=cH (cB dU hat)
 clear dU hat dJ nE oh Cn Bt H1 HU dS HG2 HO3 HP HR
 generalize w1.heap.size=B at *
 go_wp2_with fail
 go_loopw [1,11,12] (fun x e s wr=>RunRel R keeps most ma mv pt w B x e s wr) (fun _ _ _ wr=>leftM most ma wr)
 case atStart=>exact ⟨_,_,_,_,_,_,_,_,_,dE.out.1,dE.out.2⟩
 case round =>
  clear dE
  obtain ⟨b,env,begun,path,st,log,dZ,c_,cells,dU,m9⟩:=hrel
  have dL:=cH dU;have du:=cH m9
  have n6:=cH (bw HG.out HN.out m9.but)
  have sw:=wM m9.ms
  clear dU m9
  cases b with
  | leaf c =>
    obtain ⟨bb,sl,e,ah,hc,_⟩:=xH du.out.rb
    subst e
    have c1:wr.cell? ⟨bb,0,none⟩=some (str [c]):=by simp [World.cell?,hc]
    have HIL:=cH du.out.rb
    clear hc
    by_cases fS:c=117
    ·subst fS
     have hR:R=some (117,log):=by rw [dL.out.goes,jc];simp [kK]
     have HR:=cH hR;clear hR
     go_wp2_with fail
     go_ret2
     refine ⟨du.out.but,fun h=>(by rw [HR.out] at h;simp at h),fun c' log' h=>?_⟩
     rw [HR.out] at h
     simp only [Option.some.injEq,Prod.mk.injEq] at h
     obtain ⟨rfl,rfl⟩:=h
     exact ⟨rfl,_,_,du.out.ms,du.out.new⟩
    ·generalize hS:[c]=S at *
     have hne:(S == [117])=false:=by rw [beq_eq_false_iff_ne,<- hS];simpa using fS
     have fU:wr.cell? ⟨B,0,none⟩=some (.int .i64 (begun:Nat)):=by simp [World.cell?,du.out.beg]
     have au:wr.cell? ⟨B,1,none⟩=some (str path):=by simp [World.cell?,du.out.beg]
     have er:=fun w0=>kG (P:=Tryz.prog) S path (by rw [<- hS];have:=dL.out.lpath;have:=dL.out.le;simp;omega) w0
     have HS:=cH hS;clear hS
     have ig:=cH fS;clear fS
     go_wp2_with fail
     refine (y8 _ _ c _ HIL.out).mono ?_
     rintro en w' ⟨rfl,e⟩
     obtain rfl:wr=w':=e.symm
     go_wp2_with fail
     have nB1:¬ MBk ma dZ c_ bb:=fun h=>ah (.inl h)
     have rK:¬ MBk ma dZ c_ B:=du.out.bB.2
     by_cases mm:log.length=most
     ·have HO:=cH mm;clear mm
      go_region_held3 (fun w'=>w'.cell? ⟨bb,0,none⟩=some (str S)/\w'.cell? ⟨B,1,none⟩=some (str path)/\w'.cell? ⟨B,0,none⟩=some (.int .i64 (begun:Nat)))
       (first
        | exact ⟨c1,au,fU⟩
        | exact pE (But.ofBelow (m:=fun _=>False) cT) c1 au fU (fun h=>h) (fun h=>h) (fun h=>h)
        | go_keep)
       (first
        | (go_at_call 47;refine (up keeps most ma log dZ c_ (S++path) (begun:Int) _ du.out.ms.drew n6.out.2.drew hm dL.out.le).mono ?_;intro en w1 eP;unfold uU at eP;rw [if_pos HO.out] at eP;obtain ⟨te,pe,rfl,nw⟩:=eP;have cT:=wm nw;clear nw))
      go_wp2_with fail
      go_ret2
      have hR:R=none:=by rw [dL.out.goes,HO.out,Nat.sub_self,v7 ig.out];rfl
      exact ⟨du.out.but.trans (But.ofBelow cT),fun _=>⟨te,pe,rfl⟩,fun c' log' h=>by rw [hR] at h;simp at h⟩
     ·have HO:=cH mm;clear mm
      go_region_held3 (fun w'=>w'.cell? ⟨bb,0,none⟩=some (str S)/\w'.cell? ⟨B,1,none⟩=some (str path)/\w'.cell? ⟨B,0,none⟩=some (.int .i64 (begun:Nat)))
       (first
        | exact ⟨c1,au,fU⟩
        | exact pE cT c1 au fU nB1 rK rK
        | go_keep)
       (first
        | (go_at_call 47;refine (up keeps most ma log dZ c_ (S++path) (begun:Int) _ du.out.ms.drew n6.out.2.drew hm dL.out.le).mono ?_;intro en w1 eP;unfold uU at eP;rw [if_neg HO.out] at eP;obtain ⟨dN,dM,rfl,nw,mD,dY⟩:=eP;have cT:=but_ud nw;clear nw))
      obtain ⟨d1,d2,d3⟩:=pE cT c1 au fU nB1 rK rK
      have HM:=cH (cB cT (cB mD dY));clear cT mD dY c1 au fU
      obtain ⟨sa,sc,es⟩:=du.out.own.slice
      subst es
      have HX:=cH sw;clear sw
      cases st with
      | nil =>
        have hR:R=some (c,log++[(c::path,(begun:Int))]):=by
         obtain ⟨d,hd⟩:∃ d,most-log.length=d+1:=⟨most-log.length-1,by have:=dL.out.le;have:=HO.out;omega⟩
         rw [dL.out.goes,hd,vY ig.out];rfl
        have HR:=cH hR;clear hR
        rw [List.length_nil]
        go_wp2_with fail
        go_ret2
        refine ⟨du.out.but.trans' HM.out.1 fun i hi hh=>?_,fun h=>(by rw [HR.out] at h;simp at h),fun c' log' h=>?_⟩
        ·rcases du.out.new i hh with h | h
         ·exact h
         ·omega
        ·rw [HR.out] at h
         simp only [Option.some.injEq,Prod.mk.injEq] at h
         obtain ⟨rfl,rfl⟩:=h
         refine ⟨by rw [HS.out];rfl,dN,dM,?_,fun i hi=>?_⟩
         ·have:=HM.out.2.1;rw [<- HS.out] at this;exact this
         ·rcases HM.out.2.2 i hi with h | h
          ·exact du.out.new i h
          ·exact .inr (cR du.out.but.size h)
      | cons f st =>
        obtain ⟨g,gc,yv,nv,fe,cells1,es,d9,k0,k1,k2,k3,k4,fv,nA,dH,ry,rn,re⟩:=frame_top du.out.own du.out.rs
        simp only [List.length_cons,Value.slice.injEq,true_and] at es
        obtain ⟨rfl,rfl⟩:=es
        obtain ⟨ya,e⟩:=kC ry
        subst e
        obtain ⟨na,e⟩:=kC rn
        subst e
        obtain ⟨fa,fc,e⟩:∃ a c,fe=.slice a f.env.length c:=by
         have h:=re;rw [kM] at h;obtain ⟨_,a,c,e,_⟩:=h;exact ⟨a,c,e⟩
        subst e
        have eG:=du.out.sB g rfl
        have q0:=(HM.out.1.cell (cD wr _ k0) eG.2.2).trans k0
        have q1:=(HM.out.1.cell (cD wr _ k1) eG.2.2).trans k1
        have q2:=(HM.out.1.cell (cD wr _ k2) eG.2.2).trans k2
        have q3:=(HM.out.1.cell (cD wr _ k3) eG.2.2).trans k3
        have q4:=(HM.out.1.cell (cD wr _ k4) eG.2.2).trans k4
        have HF:=cH (cB fv (cB nA (cB dH (cB ry (cB rn re)))))
        have fx:=dL.out.stl
        rw [List.length_cons] at fx ⊢
        have HC:=cH d9
        have eX:=dL.out.le
        clear fv nA dH ry rn re k0 k1 k2 k3 k4 d9
        have rA:(st.length:Int)<=(sc:Int):=by have:=HC.out;omega
        have ia:=zZ du.out.beg
        have eK:=HM.out.1.size
        have hzbb:bb<w1.heap.size:=cD w1 _ d1
        have hzB1:B<w1.heap.size:=cD w1 _ d2
        by_cases sL:c=116
        ·have hd:(S == [116])=true:=by rw [beq_iff_eq,<- HS.out,sL]
         have Au:=cH sL;clear sL
         go_upto_region 29 with (fail)
         obtain ⟨W2,dQ⟩:=zzN (w1.alloc (.cells #[.pointer (some ⟨ya,0,none⟩),.pointer (some ⟨na,0,none⟩),.slice fa f.env.length fc,.int .i64 (f.begun:Nat),str f.path] 122))
         have r2:W2.cell? ⟨w1.heap.size,2,none⟩=some (.slice fa f.env.length fc):=by rw [<- dQ];simp
         have r3:W2.cell? ⟨w1.heap.size,3,none⟩=some (.int .i64 (f.begun:Nat)):=by rw [<- dQ];simp
         have r4:W2.cell? ⟨w1.heap.size,4,none⟩=some (str f.path):=by rw [<- dQ];simp
         have t0:W2.cell? ⟨B,0,none⟩=some (.int .i64 (begun:Nat)):=by rw [<- dQ];exact zX d3
         have t1:W2.cell? ⟨B,1,none⟩=some (str path):=by rw [<- dQ];exact zX d2
         have db:W2.heap[B]? = some (.cells #[.int .i64 (begun:Nat),str path] 99 (0,0)):=by rw [<- dQ];exact zY (by rw [HM.out.1.block B ia rK];exact du.out.beg)
         have u0:W2.frozen? ⟨B,0,none⟩=false:=by simp [World.frozen?,db]
         have u1:W2.frozen? ⟨B,1,none⟩=false:=by simp [World.frozen?,db]
         rw [dQ]
         have eL:=cH dQ;clear dQ db d1 d2 d3 q0 q1 q2 q3 q4
         have hBP:B≠w1.heap.size:=by omega
         clear er hne
         go_region
         have nN:MS keeps most ma (log++[(c::path,(begun:Int))]) dN dM w1:=by have:=HM.out.2.1;rw [<- HS.out] at this;exact this
         have ch:=hH (W:=(W2.setCell ⟨B,0,none⟩ (.int .i64 (f.begun:Nat))).setCell ⟨B,1,none⟩ (str f.path)) (nb:=f.yes) du.out HF.out.1 HF.out.2.1 HF.out.2.2.1 HF.out.2.2.2.1 HF.out.2.2.2.2.2 HM.out.1 nN HM.out.2.2 (by rw [<- eL.out])
         have dO:=hU dL.out ig.out HO.out
         rw [if_pos Au.out] at dO
         have dR:=cH (cB dO ch);clear dO ch nN
         go_roundw
         case rel=>(repeat apply Exists.intro);exact ⟨⟨_,_,_,_,_,_,_,_,_,dR.out.1,dR.out.2⟩,rfl⟩
         case measure =>
          rw [HX.out]
          have h:=wM dR.out.2.ms
          have hl:(log++[(c::path,(begun:Int))]).length=log.length+1:=by simp
          have:=dL.out.le;have:=HO.out
          refine Nat.lt_of_le_of_lt (Nat.le_of_eq h) ?_
          rw [hl];omega
        ·have hd:(S == [116])=false:=by rw [beq_eq_false_iff_ne,<- HS.out];simpa using sL
         have Au:=cH sL;clear sL
         go_upto_region 29 with (fail)
         obtain ⟨W2,dQ⟩:=zzN (w1.alloc (.cells #[.pointer (some ⟨ya,0,none⟩),.pointer (some ⟨na,0,none⟩),.slice fa f.env.length fc,.int .i64 (f.begun:Nat),str f.path] 122))
         have r2:W2.cell? ⟨w1.heap.size,2,none⟩=some (.slice fa f.env.length fc):=by rw [<- dQ];simp
         have r3:W2.cell? ⟨w1.heap.size,3,none⟩=some (.int .i64 (f.begun:Nat)):=by rw [<- dQ];simp
         have r4:W2.cell? ⟨w1.heap.size,4,none⟩=some (str f.path):=by rw [<- dQ];simp
         have t0:W2.cell? ⟨B,0,none⟩=some (.int .i64 (begun:Nat)):=by rw [<- dQ];exact zX d3
         have t1:W2.cell? ⟨B,1,none⟩=some (str path):=by rw [<- dQ];exact zX d2
         have db:W2.heap[B]? = some (.cells #[.int .i64 (begun:Nat),str path] 99 (0,0)):=by rw [<- dQ];exact zY (by rw [HM.out.1.block B ia rK];exact du.out.beg)
         have u0:W2.frozen? ⟨B,0,none⟩=false:=by simp [World.frozen?,db]
         have u1:W2.frozen? ⟨B,1,none⟩=false:=by simp [World.frozen?,db]
         rw [dQ]
         have eL:=cH dQ;clear dQ db d1 d2 d3 q0 q1 q2 q3 q4
         have hBP:B≠w1.heap.size:=by omega
         clear er hne
         go_region
         have nN:MS keeps most ma (log++[(c::path,(begun:Int))]) dN dM w1:=by have:=HM.out.2.1;rw [<- HS.out] at this;exact this
         have ch:=hH (W:=(W2.setCell ⟨B,0,none⟩ (.int .i64 (f.begun:Nat))).setCell ⟨B,1,none⟩ (str f.path)) (nb:=f.no) du.out HF.out.1 HF.out.2.1 HF.out.2.2.1 HF.out.2.2.2.2.1 HF.out.2.2.2.2.2 HM.out.1 nN HM.out.2.2 (by rw [<- eL.out])
         have dO:=hU dL.out ig.out HO.out
         rw [if_neg Au.out] at dO
         have dR:=cH (cB dO ch);clear dO ch nN
         go_roundw
         case rel=>(repeat apply Exists.intro);exact ⟨⟨_,_,_,_,_,_,_,_,_,dR.out.1,dR.out.2⟩,rfl⟩
         case measure =>
          rw [HX.out]
          have h:=wM dR.out.2.ms
          have hl:(log++[(c::path,(begun:Int))]).length=log.length+1:=by simp
          have:=dL.out.le;have:=HO.out
          refine Nat.lt_of_le_of_lt (Nat.le_of_eq h) ?_
          rw [hl];omega
  | ask v ss y n =>
    obtain ⟨bb,sl,yv,nv,e,ah,hc,rJ,hy,B9⟩:=xJ du.out.rb
    subst e
    obtain ⟨sa,sc,us,e,sO,Bu⟩:=subs_open rJ
    subst e
    obtain ⟨ya,e⟩:=kC hy
    subst e
    obtain ⟨na,e⟩:=kC B9
    subst e
    obtain ⟨hand,ef,bf⟩:=dL.out.fit
    obtain ⟨e,hev,_⟩:=ask_next bf ef log.length
    obtain ⟨gb,go,gc,ub,ea',ec',eg,hFg,tx,k0,k1,k2,k3,sg,fN⟩:=env_at du.out.re hev
    subst eg
    have c0:wr.cell? ⟨bb,0,none⟩=some (str []):=by simp [World.cell?,hc]
    have c1:wr.cell? ⟨bb,1,none⟩=some (.int .i64 v):=by simp [World.cell?,hc]
    have mY:v<env.length:=(List.getElem?_eq_some_iff.1 hev).1
    have hvl':(v:Int)<(env.length:Int):=by omega
    have fd:=okCs_at _ dL.out.oke _ _ hev
    have dU:e.path.length<=2*log.length/\e.env.length<=16*log.length:=by obtain ⟨_,_,_,_⟩:=e;rw [okC] at fd;exact ⟨fd.2.2.2,fd.2.2.1⟩
    have hss:ss.length<=15:=by have:=dL.out.nb;rw [nB] at this;exact this.1
    have eX:=dL.out.le
    have er:=fun w0=>kG (P:=Tryz.prog) [113] e.path (by simp;omega) w0
    obtain ⟨S,hS⟩:=zzM ([113]++e.path)
    rw [<- hS] at er
    have HS:=cH hS;clear hS
    have HIL:=cH du.out.rb
    have HZ:=cH (cB hc (cB sO (cB Bu (cB hy (cB B9 (cB hev (cB sg fN)))))))
    have ia:=zZ du.out.beg
    have Bj:=zZ hc
    clear hc sO Bu hy B9 hev sg fN rJ bf ef fd
    have nB1:¬ MBk ma dZ c_ bb:=fun h=>ah (.inl h)
    have rK:¬ MBk ma dZ c_ B:=du.out.bB.2
    have mE:∀ i,MBk ma dZ c_ i->i<wr.heap.size:=fun i hi=>MBk.lt du.out.ms hi
    have HLT:=cH mE;clear mE
    have HX:=cH sw;clear sw
    go_wp2_with fail
    refine (bI _ _ v ss y n _ HIL.out).mono ?_
    rintro en w' ⟨rfl,e0⟩
    obtain rfl:wr=w':=e0.symm
    go_upto_region 8 with (fail)
    obtain ⟨W,hW⟩:=zzN (wr.alloc (.cells #[.pointer (some ⟨ub,0,none⟩),.slice ea' e.env.length ec',.int .i64 (e.begun:Nat),str e.path] 126))
    have oX:Tri bb B wr.heap.size v (.slice sa ss.length sc) (.pointer (some ⟨ya,0,none⟩)) (.pointer (some ⟨na,0,none⟩)) begun path (.pointer (some ⟨ub,0,none⟩)) (.slice ea' e.env.length ec') (.int .i64 (e.begun:Nat)) (str e.path) W:=by
     rw [<- hW];exact ⟨zY HZ.out.1,zY du.out.beg,zT _ _⟩
    have cO:Below wr.heap.size wr W:=by rw [<- hW];exact (cE _ _).alloc (cC _) _
    have ni:W.heap.size=wr.heap.size+1:=by rw [<- hW];exact zK _ _
    have AK:=du.out.ms.below cO
    have hgW:qL W/\jp W:=⟨n6.out.1.below cO,n6.out.2.but (m:=fun _=>False) (But.ofBelow cO) (fun h=>h)⟩
    rw [hW]
    obtain ⟨t2,t3,t4,g0,g1,p0,p1,p2,p3,_,_,zP,zB,zb⟩:=oX.cells
    have HT:=cH oX;have HW:=cH (cB cO (cB AK (cB hgW (cB ni hW))));clear oX cO AK hgW ni hW c0 c1 k0 k1 k2 k3
    have nP:¬ MBk ma dZ c_ wr.heap.size:=fun h=>Nat.lt_irrefl _ (HLT.out _ h)
    by_cases mm:log.length=most
    ·have HO:=cH mm;clear mm
     go_wp2_with fail
     refine (up keeps most ma log dZ c_ S (e.begun:Int) W HW.out.2.1 HW.out.2.2.1.2 hm dL.out.le).mono ?_
     intro en w1 eP
     unfold uU at eP
     rw [if_pos HO.out] at eP
     obtain ⟨te,pe,rfl,cT⟩:=eP
     go_wp2_with fail
     go_ret2
     have hR:R=none:=by rw [dL.out.goes,HO.out,Nat.sub_self,j3];rfl
     exact ⟨(du.out.but.trans (But.ofBelow HW.out.1)).trans (But.ofBelow cT),fun _=>⟨te,pe,rfl⟩,fun c' log' h=>by rw [hR] at h;simp at h⟩
    ·have HO:=cH mm;clear mm
     go_wp2_with fail
     refine (up keeps most ma log dZ c_ S (e.begun:Int) W HW.out.2.1 HW.out.2.2.1.2 hm dL.out.le).mono ?_
     intro en w1 eP
     unfold uU at eP
     rw [if_neg HO.out] at eP
     obtain ⟨dN,dM,rfl,cT,mD,dY⟩:=eP
     have tY:=HT.out.but cT nB1 rK nP
     clear t2 t3 t4 g0 g1 p0 p1 p2 p3 zP zB zb
     obtain ⟨t2,t3,t4,g0,g1,p0,p1,p2,p3,_,_,zP,zB,zb⟩:=tY.cells
     obtain ⟨sta,stc,es⟩:=du.out.own.slice
     subst es
     have fx:=dL.out.stl
     have iq:Own w1 122 5 (.slice sta st.length stc) st.length cells:=by
      refine du.out.own.keep fun g o hg ho=>?_
      rw [cT.block g (by have:=HW.out.2.2.2.1;have:=zZ ho;omega) (du.out.sB g hg).2.2,HW.out.1.block g (zZ ho)];exact ho
     have HM:=cH (cB cT (cB mD dY));have HT1:=cH tY;have HO1:=cH iq
     clear cT mD dY tY iq
     have tL:zM 5 (.slice (some ⟨w1.heap.size,0,none⟩) 1 1) 1 [.pointer (some ⟨ya,0,none⟩),.pointer (some ⟨na,0,none⟩),.slice (some ⟨gb,go,none⟩) env.length gc,.int .i64 (begun:Nat),str path] (w1.alloc (.cells #[.pointer (some ⟨ya,0,none⟩),.pointer (some ⟨na,0,none⟩),.slice (some ⟨gb,go,none⟩) env.length gc,.int .i64 (begun:Nat),str path] 122)).drew :=
      (zM.litk #[.pointer (some ⟨ya,0,none⟩),.pointer (some ⟨na,0,none⟩),.slice (some ⟨gb,go,none⟩) env.length gc,.int .i64 (begun:Nat),str path] rfl (by simp [str,Value.oneCell']) _ rfl).drew
     have tU:=Tri.drew (HT1.out.below ((cE _ w1).alloc (cC _) (.cells #[.pointer (some ⟨ya,0,none⟩),.pointer (some ⟨na,0,none⟩),.slice (some ⟨gb,go,none⟩) env.length gc,.int .i64 (begun:Nat),str path] 122)))
     have HT1d:=cH tU;clear tU
     have nS1:¬ (Value.slice sta st.length stc).ownBlock=some bb:=fun h=>ah (.inr (.inr h))
     have nS2:¬ (Value.slice sta st.length stc).ownBlock=some B:=fun h=>(du.out.sB _ h).2.1 rfl
     have nS3:¬ (Value.slice sta st.length stc).ownBlock=some wr.heap.size:=fun h=>Nat.lt_irrefl _ (du.out.own.lt h)
     have hmax:st.length+1<=maxLen:=by unfold maxLen;omega
     have eW:(st.length+1)*64<=140737488355328:=by omega
     have h05:0<5:=by omega
     have HL:=cH tL;clear tL
     go_wp2_with fail
     go_region_held3 (fun w'=>w'.cell? ⟨bb,3,none⟩=some (.pointer (some ⟨ya,0,none⟩))/\w'.cell? ⟨bb,4,none⟩=some (.pointer (some ⟨na,0,none⟩))/\w'.cell? ⟨B,0,none⟩=some (.int .i64 (begun:Nat))/\w'.cell? ⟨B,1,none⟩=some (str path))
      (first
       | exact ⟨t3,t4,g0,g1⟩
       | exact ⟨t3',t4',g0',g1'⟩
       | go_keep)
      (first
       | (refine zc (by rfl) _ _ _ (by rfl) 122 (.agg #[.pointer none,.pointer none,.slice none 0 0,.int .i64 0,str []]) 5 64 Tryz.underlying118 Tryz.infoFr rfl h05 (.slice sta st.length stc) st.length cells (by rfl) (HO1.out.alloc _).drew _ 1 [.pointer (some ⟨ya,0,none⟩),.pointer (some ⟨na,0,none⟩),.slice (some ⟨gb,go,none⟩) env.length gc,.int .i64 (begun:Nat),str path] (by rfl) HL.out hmax eW ?_;intro a' c' w2 tD cS mr;have tV:=HT1d.out.but cS nS1 nS2 nS3;obtain ⟨t2',t3',t4',g0',g1',p0',p1',p2',p3',_,_,zP',zB',zb'⟩:=tV.cells))
     have rC:But (Chg ma dZ c_ B (.slice sta st.length stc)) wr w2 :=
      (((((But.ofBelow (m:=Chg ma dZ c_ B (.slice sta st.length stc)) HW.out.1).trans' HM.out.1 (fun i _ hi=>.inl hi)).alloc _).drew).trans' cS fun i _ hi=>.inr (.inr hi))
     have mg:But (fun b=>(Value.slice sta st.length stc).ownBlock=some b) w1 w2:=(((But.refl _ w1).alloc _).drew).trans cS
     have tw:∀ g,(Value.slice a' (st.length+1) c').ownBlock=some g->(Value.slice sta st.length stc).ownBlock=some g\/w1.heap.size<=g:=by
      intro g hg
      rcases mr g hg with h | h
      ·exact .inl h
      ·have:g=w1.heap.size+1:=by rw [h];exact zK _ _
       exact .inr (by omega)
     have s8:w1.heap.size<=w2.heap.size:=mg.size
     have Cz:qL w2 :=
      (bw (w':=w1) HW.out.2.2.1 (fun i hi=>bE HG.out HN.out (du.out.new i hi)) HM.out.1).1.but mg fun i hi=>(bE HG.out HN.out (.inr (du.out.sB i hi).1)).1
     have Br:SubsAt w2.drew ss.length us sa:=fun k hk=>by
      obtain ⟨b,o,u,e,hu,hF,hc⟩:=HZ.out.2.2.1 k hk
      exact ⟨b,o,u,e,hu,(rC.cell (p:=⟨b,o+k,none⟩) (cD wr _ hc) hF).trans hc⟩
     have A6:=cH (cB rC (cB mg (cB tD tw)));have HT2:=cH (Tri.drew tV);have HU2:=cH Br
     have HGL:=cH (show qL w2.drew from Cz.but (m:=fun _=>False) (But.refl _ _).drew (fun _ h=>h.elim))
     clear rC mg tD tw tV Br Cz cS mr t2 t3 t4 g0 g1 p0 p1 p2 p3 zP zB zb
     have oB:ss.length<=16:=by omega
     have hp1m:e.path.length<=1000000:=by omega
     go_wp2_with fail
     go_region_held3 (fun w'=>w'.cell? ⟨bb,2,none⟩=some (.slice sa ss.length sc)/\w'.cell? ⟨wr.heap.size,3,none⟩=some (str e.path))
      (first
       | exact ⟨t2',p3'⟩
       | exact ⟨x2,x3⟩
       | exact ⟨y2,y3⟩
       | go_keep)
      (first
       | (go_at_call 49;refine (yX ss.length log.length e.path _ HGL.out oB hp1m).mono ?_;rintro en w3 ⟨pa3,pc3,rfl,B3,cr,hf3⟩;have tJ:=HT2.out.below cr;obtain ⟨x2,_,_,_,_,_,_,_,x3,_⟩:=tJ.cells)
       | (go_at_call 48;refine (gJ ss.length log.length e.path us sa sc (some ⟨gb,go,none⟩) env.length gc pa3 pc3 _ oB (HU2.out.below cr) B3).mono ?_;rintro en w4 ⟨ea4,ec4,rfl,nE,dJ,oh⟩;have tQ:=tJ.below dJ;obtain ⟨y2,_,_,_,_,_,_,_,y3,_⟩:=tQ.cells))
     have Cs:Rep (fun i=>¬ Chg ma dZ c_ B (.slice sta st.length stc) i/\i<wr.heap.size) w4 (.sl 126 4 e.env.length (qX e.env)) (.slice ea' e.env.length ec') :=
      (Rep.keep fun b o hf ho=>⟨⟨hf,zZ ho⟩,by
       have h2:w2.heap[b]? = some o:=by rw [A6.out.1.block b (zZ ho) hf];exact ho
       have h3:w3.heap[b]? = some o:=by rw [cr.block b (zZ h2)];exact h2
       rw [dJ.block b (zZ h3)];exact h3⟩).1 _ _ HZ.out.2.2.2.2.2.2.2
     obtain ⟨news,dl,i4⟩:=zM.ofRep Cs (xA _)
     have i5:=zM.ofOwn nE (ents_one (oneCell_encBs _ _ HZ.out.2.1) rfl _ _ _)
     have aN:=cr.size
     have hz4:=dJ.size
     have HN4:=cH (cB dl (cB i4 i5));have H4:=cH (cB nE (cB dJ (cB oh (cB cr tQ))))
     clear dl i4 i5 nE dJ oh tQ tJ B3 hf3 cr Cs t2' t3' t4' g0' g1' p0' p1' p2' p3' x2 x3 y2 y3
     obtain ⟨t2,t3,t4,g0,g1,p0,p1,p2,p3,_,_,zP,zB,zb⟩:=H4.out.2.2.2.2.cells
     have mw:=dU.2
     go_wp2_with (at_builtin;refine zG rfl _ _ 115 rfl 126 (.agg #[.pointer none,.slice none 0 0,.int .i64 0,str []]) 4 56 Tryz.underlying115 Tryz.infoEn rfl (by decide) (.slice none 0 0) 0 [] rfl ?c1 _ e.env.length news rfl ?c2 ?c3 ?c4 ?_)
     case c1=>exact World.ownsRow_nil _ _ _ _
     case c2=>exact HN4.out.2.1
     case c3=>unfold maxLen;omega
     case c4=>omega
     intro a5 c5 w5 AI dK hg5
     have aJ:Below w4.heap.size w4 w5:=dK.toBelow (cC _) fun i _ h=>by simp [Value.ownBlock] at h
     have CO:∀ g,(Value.slice a5 e.env.length c5).ownBlock=some g->g=w4.heap.size:=by
      intro g hg
      rcases hg5 g hg with h | h
      ·simp [Value.ownBlock] at h
      ·exact h
     have H5:=cH (cB AI (cB aJ CO));clear AI dK hg5 aJ CO
     go_wp2_with (at_builtin;refine zG rfl _ _ 115 rfl 126 (.agg #[.pointer none,.slice none 0 0,.int .i64 0,str []]) 4 56 Tryz.underlying115 Tryz.infoEn rfl (by decide) (.slice a5 e.env.length c5) e.env.length news rfl ?d1 _ ss.length (xn us (.slice (some ⟨gb,go,none⟩) env.length gc) log.length e.path ss.length) rfl ?d2 ?d3 ?d4 ?_)
     case d1=>exact H5.out.1
     case d2=>exact zM.below H5.out.2.1 HN4.out.2.2
     case d3=>unfold maxLen;omega
     case d4=>omega
     intro a6 c6 w6 ho6 cd hg6
     have hz5:=H5.out.2.1.size
     have hz6:=cd.size
     have Ds:Below w4.heap.size w5 w6:=cd.toBelow H5.out.2.1.size fun i hi h=>by have:=H5.out.2.2 i h;omega
     have sM:Below w4.heap.size w4 w6:=H5.out.2.1.trans Ds
     have i3:=H4.out.2.2.2.2.below sM
     have Dt:Below w2.heap.size w2 w6:=by
      have h23:Below w2.heap.size w2 w3:=wm H4.out.2.2.2.1
      exact (zzT h23 H4.out.2.1).trans (sM.mono (by have:=h23.size;have:=H4.out.2.1.size;omega))
     have s7:w2.heap.size<=w4.heap.size:=cR (show w2.drew.heap.size<=w3.heap.size from aN) hz4
     have eV:∀ g,(Value.slice a6 (e.env.length+ss.length) c6).ownBlock=some g->w4.heap.size<=g:=by
      intro g hg
      rcases hg6 g hg with h | h
      ·have:=H5.out.2.2 g h;omega
      ·omega
     have H6:=cH (cB ho6 (cB sM (cB Dt (cB i3 (cB eV (cB s7 s8))))))
     clear ho6 cd hg6 Ds sM Dt eV i3 t2 t3 t4 g0 g1 p0 p1 p2 p3 zP zB zb
     obtain ⟨t2,t3,t4,g0,g1,p0,p1,p2,p3,fB0,fB1,zP,zB,zb⟩:=H6.out.2.2.2.1.cells
     have hBP:B≠wr.heap.size:=by omega
     clear t2 t3 t4 p1 p2 er aN hz4 hz5 hz6 s7 s8
     go_upto_region 14 with (fail)
     go_region
     have nN:MS keeps most ma (log++[(113::e.path,(e.begun:Int))]) dN dM w1:=by have:=HM.out.2.1;rw [HS.out] at this;exact this
     have k1:But (Chg ma dZ c_ B (.slice sta st.length stc)) wr w6:=A6.out.1.trans (But.ofBelow H6.out.2.2.1)
     have k2:But (fun b=>(Value.slice sta st.length stc).ownBlock=some b) w1 w6:=A6.out.2.1.trans (But.ofBelow H6.out.2.2.1)
     have k3:∀ i,MBk ma dN dM i->MBk ma dZ c_ i\/wr.heap.size<=i:=fun i hi=>by
      rcases HM.out.2.2 i hi with h | h
      ·exact .inl h
      ·have:=HW.out.2.2.2.1;exact .inr (by omega)
     have k4:wr.heap.size<=w1.heap.size:=by have:=HM.out.1.size;have:=HW.out.2.2.2.1;omega
     have k5:=A6.out.2.2.1.keep (w':=w6) fun g o hg ho=>by rw [H6.out.2.2.1.block g (zZ ho)];exact ho
     have k6:∀ g,(Value.slice a6 (e.env.length+ss.length) c6).ownBlock=some g->w1.heap.size<=g/\(Value.slice a' (st.length+1) c').ownBlock≠some g:=fun g hg=>by
      have h1:=H6.out.2.2.2.2.1 g hg
      have h2:=H6.out.2.2.2.2.2.1
      have h3:=H6.out.2.2.2.2.2.2
      refine ⟨by omega,fun hs=>?_⟩
      have:=A6.out.2.2.1.lt hs
      omega
     have ch:=runat_ask (W:=(w6.setCell ⟨B,0,none⟩ (.int .i64 (log.length:Nat))).setCell ⟨B,1,none⟩ (str e.path)) (w1:=w1) (w6:=w6) (w4:=w4) du.out HZ.out.2.2.2.1 HZ.out.2.2.2.2.1 HZ.out.2.2.2.2.2.2.1 HN4.out.1 H6.out.2.1 HZ.out.2.1
      k1 k2 nN k3 k4 H6.out.2.2.2.1.g k5 A6.out.2.2.2 H6.out.1 k6 rfl
     have dO:=runpl_ask dL.out HO.out HZ.out.2.2.2.2.2.1
     have dR:=cH (cB dO ch);clear dO ch nN
     go_roundw
     case rel=>(repeat apply Exists.intro);exact ⟨⟨_,_,_,_,_,_,_,_,_,dR.out.1,dR.out.2⟩,rfl⟩
     case measure =>
      rw [HX.out]
      have h:=wM dR.out.2.ms
      have hl:(log++[(113::e.path,(e.begun:Int))]).length=log.length+1:=by simp
      have:=dL.out.le;have:=HO.out
      refine Nat.lt_of_le_of_lt (Nat.le_of_eq h) ?_
      rw [hl];omega
def pR (t:Ty):Prop:=∀ (F:Nat->Prop) (w:World) (v:Value),Rep F w (jA t) v ->
 Calls Tryz.prog 45 #[.agg #[v]] w fun en w'=>en=.returned (str (zq t))/\Below w.heap.size w w'
theorem textT_drop {ts:List Ty} {k:Nat} {t:Ty} (h:ts[k]? = some t):zq (.mk (ts.drop k))=((([40,62,32]++zq t)++[32])++zq (.mk (ts.drop (k+1))))++[41]:=by
 have hk:=(List.getElem?_eq_some_iff.1 h).1
 have e:ts[k]=t:=(List.getElem?_eq_some_iff.1 h).2
 rw [List.drop_eq_getElem_cons hk,vm,e]
 simp
theorem atomsT_drop (ts:List Ty) (k:Nat):zU (.mk (ts.drop k))<=zU (.mk ts):=by
 have:=jb (ts.take k) (ts.drop k)
 rw [List.take_append_drop] at this
 simp only [zU];omega
theorem l1Text_step (t:Ty) (hl:zU t<=1000) (ih:∀ t',zU t'<zU t->pR t'):pR t:=by
 intro F w v hv
 rw [qE] at hv
 obtain ⟨a,cap,e,_,cA,hat⟩:=zC hv
 subst e
 have IH:=cH ih;clear ih
 have AT:=cH hat;clear hat cA hv
 have hE:=zg t
 have oO:t.args.length<=1000:=by have:=zd t.args;omega
 have E1:=cH hE;clear hE
 have HT:Hid (t=.mk t.args):=by show t=_;cases t;rfl
 go_enter Tryz.func45,Tryz.ntmps45
 go_wp2_with fail
 go_loopw [3,4] (fun o i wr=>∃ k:Nat,k<=t.args.length/\i=.int .i64 ((k:Int)-1)/\o=str (zq (.mk (t.args.drop k)))/\Below w.heap.size w wr/\wr.cell? ⟨w.heap.size,0,none⟩=some (.slice a t.args.length cap)) (fun _ i _=>(intOf i+1).toNat)
 case atStart=>exact ⟨t.args.length,cC _,rfl,by rw [List.drop_length,vg],(cE _ _).alloc (cC _) _,by simp⟩
 case round =>
  obtain ⟨k,hk,rfl,rfl,hb,hc⟩:=hrel
  cases k with
  | succ k =>
    have eV:(0:Int)<=((k+1:Nat):Int)-1:=by omega
    have hki:((k+1:Nat):Int)-1=(k:Int):=by omega
    have cL:k<t.args.length:=by omega
    have d8:(k:Int)<(t.args.length:Int):=by omega
    obtain ⟨b',o,u,d,eb,_,dW,hd,hu,hr⟩:=AT.out k cL
    subst eb
    rw [js,Option.map_eq_some_iff] at hd
    obtain ⟨t',eI,rfl⟩:=hd
    obtain ⟨ua,uc,rfl⟩:=kJ hr
    have mL:wr.cell? ⟨b',o+k,none⟩=some (.slice ua t'.args.length uc):=by rw [hb.cell dW];exact hu
    have mz:=Rep.below (F':=F) hb (fun _ h=>h) hr
    have hs:=jt eI
    have eX:=qw t.args (k+1)
    have ml:=E1.out
    have IH':=cH (IH.out t' (by omega))
    have l1:=kn 1000 t' (by omega)
    have d1:=atomsT_drop t.args (k+1)
    rw [<- HT.out] at d1
    have l2:=kn 1000 (.mk (t.args.drop (k+1))) (by omega)
    have hx:=textT_drop eI
    obtain ⟨X,hX⟩:=zzN (zq t')
    rw [hX] at hx l1
    have HX:=cH hx
    have HXX:=cH hX
    clear hx hX
    generalize zq (.mk (t.args.drop (k+1)))=R at *
    obtain ⟨O1,h1⟩:=zzM ([40,62,32]++X)
    obtain ⟨O2,h2⟩:=zzM (O1++[32])
    obtain ⟨O3,h3⟩:=zzM (O2++R)
    obtain ⟨O4,h4⟩:=zzM (O3++[41])
    have m1:O1.length=X.length+3:=by rw [h1];simp
    have m2:O2.length=O1.length+1:=by rw [h2];simp
    have m3:O3.length=O2.length+R.length:=by rw [h3];simp
    have eR:=fun w0=>kG (P:=Tryz.prog) [40,62,32] X (by simp;omega) w0
    have fX:=fun w0=>kG (P:=Tryz.prog) O1 [32] (by simp;omega) w0
    have nd:=fun w0=>kG (P:=Tryz.prog) O2 R (by omega) w0
    have nh:=fun w0=>kG (P:=Tryz.prog) O3 [41] (by simp;omega) w0
    have H4:Hid (zq (.mk (t.args.drop k))=O4):=by show _=_;rw [HX.out,h4,h3,h2,h1]
    rw [<- h1] at eR;rw [<- h2] at fX;rw [<- h3] at nd;rw [<- h4] at nh
    have hz:=cD wr _ hc
    rw [hki]
    clear hs eI ml hu hr l1 l2 d1 h1 h2 h3 h4 m1 m2 m3 eX hki eV
    go_wp2_with fail
    refine (IH'.out _ _ _ mz).mono ?_
    rintro en w2 ⟨rfl,cS⟩
    rw [HXX.out]
    have cr:=zzT hb cS
    have fV:w2.cell? ⟨w.heap.size,0,none⟩=some (.slice (some ⟨b',o,none⟩) t.args.length cap):=by rw [cS.cell hz];exact hc
    go_wp2_with fail
    go_roundw
    case rel=>exact ⟨k,by omega,rfl,by rw [H4.out],cr,fV⟩
    case measure=>simp [intOf]
  | zero =>
    have eV:¬ (0:Int)<=((0:Nat):Int)-1:=by omega
    go_wp2_with fail
    go_ret
    refine ⟨?_,hb⟩
    have e:zq (.mk t.args)=zq t:=by rw [<- HT.out]
    show Ending.returned (str (zq (.mk t.args)))=_
    rw [e]
theorem bT (n:Nat):∀ t,zU t<=n->n<=1000->pR t:=by
 induction n with
 | zero=>intro t h _;have:=kR t;omega
 | succ n ih=>exact fun t h hn=>l1Text_step t (by omega) (fun t' h'=>ih t' (by omega) (by omega))
def jQ (w:World) (a:Option Addr) (xs:List Bs):Prop:=∀ (k:Nat) (s:Bs),xs[k]? = some s->∃ b o,a=some ⟨b,o,none⟩/\w.cell? ⟨b,o+k,none⟩=some (str s)
theorem jQ.below {w w':World} {a:Option Addr} {xs:List Bs} (h:jQ w a xs) (hb:Below w.heap.size w w'):jQ w' a xs:=fun k s hs=>by
 obtain ⟨b,o,e,hc⟩:=h k s hs
 exact ⟨b,o,e,(hb.cell (cD w _ hc)).trans hc⟩
theorem Tryz.infoStr:(Tryz.prog.info? 9).map (fun i=>(i.zero,i.size,i.bytes))=some (some (str []),1,16):=by kernel_rfl
theorem qO {ts:List Ty} {t:Ty} (h:t∈ts):1+zU t<=zR ts:=by
 induction ts with
 | nil=>simp at h
 | cons x xs ih =>
   rcases List.mem_cons.1 h with rfl | h
   ·simp [zR]
   ·have:=ih h;simp [zR];omega
mutual
theorem vh:∀ (b:Bd) (hand:List Ty),kX hand b->(∀ t∈hand,zU t<=15)->nB b
 | .leaf c,hand,_,_=>by rw [nB];trivial
 | .ask v ss y n,hand,h,hh=>by
   rw [kX] at h
   obtain ⟨t,ht,h1,h2,h3⟩:=h
   have ht15:=hh t (List.mem_of_getElem? ht)
   have hl:=qB _ _ h1
   rw [qH] at hl
   have hm:=zg t
   have oz:=zd t.args
   rw [nB]
   exact ⟨by omega,bF ss t.args hand h1 hh (fun a ha=>by have:=qO ha;omega),vh y hand h2 hh,vh n hand h3 hh⟩
theorem bF:∀ (bs:List Bd) (ts hand:List Ty),za (zp hand ts) bs->(∀ t∈hand,zU t<=15)->(∀ a∈ts,zU a<=15)->nBs bs
 | [],ts,hand,_,_,_=>by rw [nBs];trivial
 | b::bs,ts,hand,h,hh,ht=>by
   rw [za] at h
   obtain ⟨h',fE,e,h1,h2⟩:=h
   cases ts with
   | nil=>simp [zp] at e
   | cons t ts =>
     simp only [zp,List.map_cons,List.cons.injEq] at e
     obtain ⟨rfl,rfl⟩:=e
     rw [nBs]
     refine ⟨vh b _ h1 fun x hx=>?_,bF bs ts hand h2 hh fun a ha=>ht a (by simp [ha])⟩
     rcases List.mem_append.1 hx with hx | hx
     ·exact hh x hx
     ·have cj:=ht t (by simp)
      have hm:=zg t
      have:=qO hx;omega
end
def zv:List Ty->List Bs->Option (List Bd)
 | t::ts,x::xs=>(kE t x).bind fun b=>(zv ts xs).map fun bs=>b::bs
 | _,_=>some []
theorem jd:∀ (ts:List Ty) (xs:List Bs) (bs:List Bd),ts.length=xs.length->zv ts xs=some bs->bs.length=xs.length
 | [],[],bs,_,h=>by simp [zv] at h;subst h;rfl
 | [],x::xs,bs,hl,h=>by simp at hl
 | t::ts,[],bs,hl,h=>by simp at hl
 | t::ts,x::xs,bs,hl,h=>by
   simp only [zv,Option.bind_eq_some_iff,Option.map_eq_some_iff] at h
   obtain ⟨b,_,bs',h2,rfl⟩:=h
   simp [jd ts xs bs' (by simpa using hl) h2]
theorem vq:∀ (ts:List Ty) (xs:List Bs) (bs:List Bd),ts.length=xs.length->(∀ t∈ts,zU t<=15)->zv ts xs=some bs->za (ts.map Ty.args) bs/\nBs bs
 | [],[],bs,_,_,h=>by simp [zv] at h;subst h;simp [za,nBs]
 | [],x::xs,bs,hl,_,h=>by simp at hl
 | t::ts,[],bs,hl,_,h=>by simp at hl
 | t::ts,x::xs,bs,hl,ht,h=>by
   simp only [zv,Option.bind_eq_some_iff,Option.map_eq_some_iff] at h
   obtain ⟨b,h1,bs',h2,rfl⟩:=h
   have hg:=(wH (ht t (by simp)) h1).1
   obtain ⟨k1,k2⟩:=vq ts xs bs' (by simpa using hl) (fun a ha=>ht a (by simp [ha])) h2
   refine ⟨⟨_,_,rfl,hg.fit,k1⟩,?_⟩
   rw [nBs]
   exact ⟨vh b _ hg.fit fun a ha=>by have cj:=ht t (by simp);have hm:=zg t;have:=qO ha;omega,k2⟩
theorem yQ:∀ (ts:List Ty) (xs:List Bs) (t:Ty) (x:Bs),ts.length=xs.length->zv (ts++[t]) (xs++[x])=(zv ts xs).bind fun bs=>(kE t x).map fun b=>bs++[b]
 | [],[],t,x,_=>by simp only [List.nil_append,zv,Option.bind_some];cases kE t x <;> rfl
 | [],_::xs,t,x,hl=>by simp at hl
 | _::ts,[],t,x,hl=>by simp at hl
 | t'::ts,x'::xs,t,x,hl=>by
   simp only [List.cons_append,zv]
   cases kE t' x' with
   | none=>rfl
   | some b =>
     simp only [Option.bind_some,yQ ts xs t x (by simpa using hl)]
     cases zv ts xs with
     | none=>rfl
     | some bs =>
       simp only [Option.bind_some,Option.map_some]
       cases kE t x <;> rfl
theorem yJ:∀ (ts:List Ty) (xs:List Bs) (k:Nat),zv (ts.take k) (xs.take k)=none->zv ts xs=none
 | [],xs,k,h=>by cases xs <;> simp [zv] at h
 | t::ts,[],k,h=>by cases k <;> simp [zv] at h
 | t::ts,x::xs,0,h=>by simp [zv] at h
 | t::ts,x::xs,k+1,h=>by
   simp only [List.take_succ_cons,zv] at h ⊢
   cases hq:kE t x with
   | none=>rfl
   | some b =>
     rw [hq] at h
     simp only [Option.bind_some] at h ⊢
     cases hr:zv (ts.take k) (xs.take k) with
     | none=>rw [yJ ts xs k hr];rfl
     | some bs=>rw [hr] at h;simp at h
theorem uq {w:World} {P:Nat} {u v:Value} {T:TypeId} (h:w.heap[P]? = some (.cells #[u,v] T (0,0))) (u0 u1:Value) :
 ∃ W,W=(w.setCell ⟨P,0,none⟩ u0).setCell ⟨P,1,none⟩ u1/\W.cell? ⟨P,0,none⟩=some u0/\W.cell? ⟨P,1,none⟩=some u1/\(∀ B w0,Below B w0 w->B<=P->Below B w0 W)/\(∀ i x,i≠P->w.heap[i]? = some x->W.heap[i]? = some x):=by
 have hc:((w.setCell ⟨P,0,none⟩ u0).setCell ⟨P,1,none⟩ u1).heap[P]? = some (.cells #[u0,u1] T (0,0)):=by rw [zu (zu h)];rfl
 refine ⟨_,rfl,by simp only [World.cell?,hc];rfl,by simp only [World.cell?,hc];rfl,fun B w0 hb hB=>?_,fun i x hi hx=>?_⟩
 ·exact ((hb.setCell (p:=⟨P,0,none⟩) hB _).setCell (p:=⟨P,1,none⟩) hB _)
 ·rw [cF _ _ _ _ (by simpa using hi),cF _ _ _ _ (by simpa using hi)];exact hx
theorem uj {w:World} {P:Nat} {u v:Value} {T:TypeId} (h:w.heap[P]? = some (.cells #[u,v] T (0,0))):w.cell? ⟨P,0,none⟩=some u/\w.cell? ⟨P,1,none⟩=some v/\w.frozen? ⟨P,0,none⟩=false/\w.frozen? ⟨P,1,none⟩=false/\P<w.heap.size :=
 ⟨by simp [World.cell?,h],by simp [World.cell?,h],by simp [World.frozen?,h],by simp [World.frozen?,h],zZ h⟩
theorem MS.slices {keeps:Bool} {most ma:Nat} {log:List (Bs×Int)} {mv pt:Value} {w:World} (h:MS keeps most ma log mv pt w):∃ a n k a' n' k',mv=.slice a n k/\pt=.slice a' n' k':=by
 cases keeps with
 | true =>
   obtain ⟨a,c,e⟩:=(h.rows rfl).1.slice
   obtain ⟨a',c',e'⟩:=(h.rows rfl).2.slice
   exact ⟨_,_,_,_,_,_,e,e'⟩
 | false=>exact ⟨_,_,_,_,_,_,(h.nil rfl).1,(h.nil rfl).2⟩
def kV (most:Nat) (s text:Bs) (xs:List Bs):Option (UInt8×List (Bs×Int)):=(xf s text).bind fun x=>if x.1.args.length=xs.length then (zv x.1.args xs).bind fun bs=>v8 most x.2 bs else none
def OfPost (keeps:Bool) (most:Nat) (s text:Bs) (xs:List Bs) (w:World) (en:Ending) (w':World):Prop :=
 Below w.heap.size w w'/\(kV most s text xs=none->en=.returned (.tuple #[.agg #[.slice none 0 0,.slice none 0 0],str [],.bool false])) /\
  (∀ c log,kV most s text xs=some (c,log)->∃ ma a n k a' n' k',en=.returned (.tuple #[.agg #[.slice a n k,.slice a' n' k'],str [c],.bool true])/\MS keeps most ma log (.slice a n k) (.slice a' n' k') w'/\(∀ i,MBk ma (.slice a n k) (.slice a' n' k') i->w.heap.size<=i))
set_option maxRecDepth 100000 in
theorem runOf_any (keeps:Bool) (most:Nat) (s text:Bs) (xs:List Bs) (a:Option Addr) (c:Nat) (w:World) (hg:qL w) (tu:jp w) (hx:jQ w a xs) (hs:Lim s.length) (ht:Lim text.length) (mJ:∀ x∈xs,Lim x.length) (n5:Lim xs.length) (h1:1<=most) (eQ:most<=100000) :
 Calls Tryz.prog 13 #[str s,str text,.slice a xs.length c,.int .i64 (most:Nat),.bool keeps] w (OfPost keeps most s text xs w):=by
 have hxl':=n5.le
 have HX:=cH (cB hx (cB mJ tu));clear hx mJ tu n5
 go_enter Tryz.func13,Tryz.ntmps13
 go_wp2_with fail
 have dm:Below w.heap.size w (w.alloc (.cells #[.slice none 0 0,.slice none 0 0] 28)):=(cE _ _).alloc (cC _) _
 refine (wY s text _ (hg.below dm) hs ht).mono ?_
 rintro en w1 ⟨kv,bv,rfl,cT,dY,dp⟩
 have eK:=cT.size
 rw [zK] at eK
 have mQ:w1.heap[w.heap.size]? = some (.cells #[.slice none 0 0,.slice none 0 0] 28 (0,0)):=by
  rw [cT.block _ (by rw [zK];omega)];exact zT _ _
 have iO:Below w.heap.size w w1:=zzT dm cT
 cases hq:xf s text with
 | none =>
   obtain rfl:=dY hq
   have hR:kV most s text xs=none:=by unfold kV;rw [hq];rfl
   have HR:=cH hR;clear hq dY dp hR
   obtain ⟨d0,d1,f0,f1,_⟩:=uj mQ
   have sI:=cH (cB mQ iO);clear mQ iO
   go_wp2_with fail
   obtain ⟨W,hW,s0,s1,cO,_⟩:=uq sI.out.1 (.slice none 0 0) (.slice none 0 0)
   rw [<- hW]
   refine bodyPost_ret (v:=.tuple #[.agg #[.slice none 0 0,.slice none 0 0],str [],.bool false]) (by simp [results,Tryz.results13,go_sem,s0,s1]) rfl ?_
   exact ⟨cO _ _ sI.out.2 (cC _),fun _=>rfl,fun c' log' h=>by rw [HR.out] at h;simp at h⟩
 | some x =>
   obtain ⟨t,b⟩:=x
   obtain ⟨hk,Dk⟩:=dp _ _ hq
   obtain ⟨ba,e⟩:=kC Dk
   subst e
   obtain ⟨ak,sk,e,hFk,sE,aS⟩:=zO hk
   subst e
   obtain ⟨ka,kc,e,_,aI,lC⟩:=zC aS
   subst e
   have ck:w1.cell? ⟨ak,0,none⟩=some (.slice ka t.args.length kc):=by simp [World.cell?,sE]
   have CQ:zU t<=15:=by
    have:=hq;unfold xf at this
    simp only [Option.bind_eq_bind,Option.bind_eq_some_iff] at this
    obtain ⟨t',h1,b',_,h3⟩:=this
    simp at h3;rw [<- h3.1];exact rdKind_le h1
   have mX:t.args.length<=15:=by have:=zg t;have:=zd t.args;omega
   have hfb:kX t.args b:=by
    have:=hq;rw [vj,Option.map_eq_some_iff] at this
    obtain ⟨b',h1,h2⟩:=this
    simp at h2;rw [<- h2.1,<- h2.2];exact specStrat_fit h1
   have HQ:=cH (cB hq (cB CQ hfb))
   have HK:=cH (cB sE lC);have HBR:=cH Dk
   clear hq dY dp hk Dk sE aS aI lC CQ hfb hFk
   obtain ⟨d0,d1,f0,f1,_⟩:=uj mQ
   have sI:=cH (cB mQ iO);clear mQ iO dm cT
   by_cases cA:xs.length=t.args.length
   rotate_left
   ·have hd:((xs.length:Int) != (t.args.length:Int))=true:=by rw [bne_iff_ne];omega
    have hR:kV most s text xs=none:=by unfold kV;rw [HQ.out.1];simp only [Option.bind_some];rw [if_neg (fun h=>cA h.symm)]
    have HR:=cH hR;clear hR cA
    go_wp2_with fail
    obtain ⟨W,hW,s0,s1,cO,_⟩:=uq sI.out.1 (.slice none 0 0) (.slice none 0 0)
    rw [<- hW]
    refine bodyPost_ret (v:=.tuple #[.agg #[.slice none 0 0,.slice none 0 0],str [],.bool false]) (by simp [results,Tryz.results13,go_sem,s0,s1]) rfl ?_
    exact ⟨cO _ _ sI.out.2 (cC _),fun _=>rfl,fun c' log' h=>by rw [HR.out] at h;simp at h⟩
   ·have hd:((xs.length:Int) != (t.args.length:Int))=false:=by rw [cA];simp
    have HL:=cH cA;clear cA
    go_wp2_with fail
    go_loopw [15,43] (fun l i wr=>∃ (k:Nat) (a':Option Addr) (c':Nat) (us:List Value) (bs:List Bd),k<=xs.length/\i=.int .i64 k/\l=.slice a' k c'/\Own wr 55 1 (.slice a' k c') k us/\zH (fun i=>(Value.slice a' k c').ownBlock≠some i) wr (qW bs) us/\zv (t.args.take k) (xs.take k)=some bs/\Below w1.heap.size w1 wr/\(∀ g,(Value.slice a' k c').ownBlock=some g->w1.heap.size<=g)) (fun _ i _=>xs.length-(intOf i).toNat)
    case atStart=>exact ⟨0,none,0,[],[],Nat.zero_le _,rfl,rfl,World.ownsRow_nil _ _ _ _,by rw [qW];exact zF.2 rfl,by simp [zv],cE _ _,fun g h=>by simp [Value.ownBlock] at h⟩
    case round =>
     obtain ⟨k,a',c',us,bs,hk,rfl,rfl,ho,hr,dT,hb,hf⟩:=hrel
     have HO:=cH (cB ho (cB hr (cB dT hf)));clear ho hr dT hf
     have tn:Below w.heap.size w wr:=zzT sI.out.2 hb
     have rj:=hg.below tn
     have Am:wr.heap[w.heap.size]? = some (.cells #[.slice none 0 0,.slice none 0 0] 28 (0,0)):=by rw [hb.block _ (zZ sI.out.1)];exact sI.out.1
     clear d0 d1 f0 f1
     obtain ⟨d0,d1,f0,f1,_⟩:=uj Am
     have HB:=cH (cB hb (cB tn Am));clear hb tn Am
     by_cases cL:k<xs.length
     ·obtain ⟨x,iH⟩:∃ x,xs[k]? = some x:=⟨xs[k],by simp [cL]⟩
      obtain ⟨bs1,os1,es1,sH⟩:=HX.out.1.below HB.out.2.1 k x iH
      subst es1
      have oA:=HX.out.2.1 x (List.mem_of_getElem? iH)
      have Cr:k<t.args.length:=by have:=HL.out;omega
      obtain ⟨bk,ok,uk,dk,eka,_,Ab,rv,td,mf⟩:=HK.out.2 k Cr
      subst eka
      rw [uK,Option.map_eq_some_iff] at rv
      obtain ⟨tk,d6,rfl⟩:=rv
      obtain ⟨uka,_,euk,_⟩:=zO mf
      subst euk
      have sD:wr.cell? ⟨bk,ok+k,none⟩=some (.pointer (some ⟨uka,0,none⟩)):=by rw [HB.out.1.cell Ab];exact td
      have sV:=Rep.below (F':=fun _=>True) HB.out.1 (fun _ _=>trivial) mf
      have ckr:wr.cell? ⟨ak,0,none⟩=some (.slice (some ⟨bk,ok,none⟩) t.args.length kc):=by rw [HB.out.1.cell (cD w1 _ ck)];exact ck
      have sA:zU tk<=15:=by have:=HQ.out.2.1;have hm:=zg t;have:=qO (List.mem_of_getElem? d6);omega
      have Cq:(k:Int)<(t.args.length:Int):=by omega
      have d8:(k:Int)<(xs.length:Int):=by omega
      have HS:=cH (cB iH d6);clear iH d6 td mf
      go_wp2_with fail
      refine (uy _ tk x _ wr rj sV sA oA).mono ?_
      rintro en w2 ⟨v,rfl,cS,fQ,fC⟩
      have mI:zv (t.args.take (k+1)) (xs.take (k+1))=(kE tk x).map fun b=>bs++[b]:=by
       have h1:t.args.take (k+1)=t.args.take k++[tk]:=by rw [List.take_add_one,HS.out.2];rfl
       have h2:xs.take (k+1)=xs.take k++[x]:=by rw [List.take_add_one,HS.out.1];rfl
       rw [h1,h2,yQ _ _ _ _ (by rw [List.length_take,List.length_take];omega),HO.out.2.2.1];rfl
      have aD:=cH mI;clear mI
      have Al:w2.heap[w.heap.size]? = some (.cells #[.slice none 0 0,.slice none 0 0] 28 (0,0)):=by rw [cS.block _ (zZ HB.out.2.2)];exact HB.out.2.2
      clear d0 d1 f0 f1
      obtain ⟨d0,d1,f0,f1,_⟩:=uj Al
      have dS:=cH (cB cS Al);clear cS Al
      cases oF:kE tk x with
      | none =>
        obtain rfl:=fQ oF
        have hR:kV most s text xs=none:=by
         unfold kV;rw [HQ.out.1];simp only [Option.bind_some];rw [if_pos HL.out.symm,yJ _ _ (k+1) (by rw [aD.out,oF];rfl)];rfl
        have HR:=cH hR;clear hR oF fQ fC
        go_wp2_with fail
        obtain ⟨W,hW,s0,s1,cO,_⟩:=uq dS.out.2 (.slice none 0 0) (.slice none 0 0)
        rw [<- hW]
        refine bodyPost_ret (v:=.tuple #[.agg #[.slice none 0 0,.slice none 0 0],str [],.bool false]) (by simp [results,Tryz.results13,go_sem,s0,s1]) rfl ?_
        exact ⟨cO _ _ (zzT HB.out.2.1 dS.out.1) (cC _),fun _=>rfl,fun c' log' h=>by rw [HR.out] at h;simp at h⟩
      | some bk2 =>
        have hrv:=fC _ oF
        obtain ⟨bv2,ev⟩:=kC hrv
        subst ev
        have HRV:=cH (cB hrv oF);clear hrv oF fQ fC
        go_wp2_with (at_builtin;refine zG rfl _ _ 66 rfl 55 (.pointer none) 1 8 Tryz.underlying66 Tryz.infoB rfl (by decide) (.slice a' k c') k us rfl ?c1 _ 1 [.pointer (some ⟨bv2,0,none⟩)] rfl ?c2 ?c3 ?c4 ?_)
        case c1=>exact (HO.out.1.keep fun g o _ ho=>by rw [dS.out.1.block g (zZ ho)];exact ho).alloc _
        case c2=>exact zM.litk #[.pointer (some ⟨bv2,0,none⟩)] rfl (by simp [Value.oneCell']) _ (by simp)
        case c3=>unfold maxLen;omega
        case c4=>omega
        intro a7 c7 w7 dB cq ci
        have oZ:=HB.out.1.size
        have hzr2:=dS.out.1.size
        have tW:∀ g,(Value.slice a' k c').ownBlock=some g->g<wr.heap.size:=fun g hg=>HO.out.1.lt hg
        have dG:Below w1.heap.size w1 w7:=by
         have h1:Below w1.heap.size w1 w2:=HB.out.1.trans (dS.out.1.mono oZ)
         refine (h1.alloc h1.size _).trans (cq.toBelow (by rw [zK];have:=h1.size;omega) fun i hi e=>?_)
         have:=HO.out.2.2.2 i e;omega
        have eE:∀ g,(Value.slice a7 (k+1) c7).ownBlock=some g->(Value.slice a' k c').ownBlock=some g\/g=w2.heap.size+1:=by
         intro g hg
         rcases ci g hg with h | h
         ·exact .inl h
         ·exact .inr (by simpa using h)
        have rI:zH (fun i=>(Value.slice a7 (k+1) c7).ownBlock≠some i) w7 (qW (bs++[bk2])) (us++[.pointer (some ⟨bv2,0,none⟩)]):=by
         rw [wv]
         refine zH.append ?_ ?_
         ·refine (Rep.keep fun b o hf ho=>⟨fun e=>?_,?_⟩).2 _ _ HO.out.2.1
          ·have:=zZ ho
           rcases eE b e with h | h
           ·exact hf h
           ·omega
          ·have h2:w2.heap[b]? = some o:=by rw [dS.out.1.block b (zZ ho)];exact ho
           rw [cq.block b (by rw [zK];have:=zZ h2;omega) hf];exact zY h2
         ·rw [qW,qW]
          refine zH.one ((Rep.keep fun b o hf ho=>⟨fun e=>?_,?_⟩).1 _ _ HRV.out.1)
          ·have:=zZ ho
           rcases eE b e with h | h
           ·have:=tW b h;omega
           ·omega
          ·rw [cq.block b (by rw [zK];have:=zZ ho;omega) (fun e=>by have:=tW b e;omega)];exact zY ho
        have dz:∀ g,(Value.slice a7 (k+1) c7).ownBlock=some g->w1.heap.size<=g:=by
         intro g hg
         rcases eE g hg with h | h
         ·exact HO.out.2.2.2 g h
         ·omega
        have fh:zv (t.args.take (k+1)) (xs.take (k+1))=some (bs++[bk2]):=by rw [aD.out,HRV.out.2];rfl
        have H7:=cH (cB dB (cB rI (cB fh (cB dG dz))));clear dB rI fh dG dz cq ci eE
        go_wp2_with fail
        go_roundw
        case rel=>exact ⟨k+1,a7,c7,_,_,by omega,by go_num,rfl,H7.out.1,H7.out.2.1,H7.out.2.2.1,H7.out.2.2.2.1,H7.out.2.2.2.2⟩
        case measure=>simp [intOf];omega
     ·obtain rfl:k=xs.length:=by omega
      have dT:=HO.out.2.2.1
      rw [List.take_of_length_le (by rw [HL.out];exact cC _),List.take_length] at dT
      have dr:=jd _ _ _ HL.out.symm dT
      have mA:∀ x∈t.args,zU x<=15:=fun x hx=>by have:=HQ.out.2.1;have hm:=zg t;have:=qO hx;omega
      obtain ⟨AS,hna⟩:=vq _ _ _ HL.out.symm mA dT
      have ez:=vh b _ HQ.out.2.2 mA
      obtain ⟨W,hW⟩:=zzN (wr.alloc (.cells #[.slice none 0 0,.slice none 0 0,.int .i64 (most:Nat),.int .i64 0,.bool keeps] 70))
      have cO:Below wr.heap.size wr W:=by rw [<- hW];exact (cE _ _).alloc (cC _) _
      have ni:W.heap.size=wr.heap.size+1:=by rw [<- hW];exact zK _ _
      have ft:∀ i,MBk wr.heap.size (.slice none 0 0) (.slice none 0 0) i->i=wr.heap.size:=by
       rintro i (h | h | h)
       ·exact h
       ·simp [Value.ownBlock] at h
       ·simp [Value.ownBlock] at h
      have nR:MS keeps most wr.heap.size [] (.slice none 0 0) (.slice none 0 0) W:=by
       refine ⟨by rw [<- hW];exact zT _ _,fun _=>⟨World.ownsRow_nil _ _ _ _,World.ownsRow_nil _ _ _ _⟩,fun _=>⟨rfl,rfl⟩,by simp [Value.ownBlock],by simp [Value.ownBlock]⟩
      have Cy:jp W:=HX.out.2.2.but (m:=fun _=>False) (But.ofBelow (zzT HB.out.2.1 cO)) (fun h=>h)
      have Ca:∀ i,MBk wr.heap.size (.slice none 0 0) (.slice none 0 0) i->gR i/\i≠0:=fun i hi=>bE (ma:=wr.heap.size) (mv:=.slice none 0 0) (pt:=.slice none 0 0) (w:=w) ⟨hg,HX.out.2.2⟩ (fun j hj=>by
       have h1:=ft j hj
       have h2:=HB.out.2.1.size
       refine ⟨hg.new (by omega),?_⟩
       obtain ⟨te,pe,h3⟩:=HX.out.2.2
       have h4:0<w.heap.size:=cD w _ h3
       omega) (.inl hi)
      have nG:Rep (fun i=>¬ MBk wr.heap.size (.slice none 0 0) (.slice none 0 0) i) W (kr b) (.pointer (some ⟨ba,0,none⟩)) :=
       (Rep.keep fun i o _ ho=>⟨fun h=>by have:=ft i h;have:=zZ ho;have:=HB.out.1.size;omega,by
        have h2:wr.heap[i]? = some o:=by rw [HB.out.1.block i (zZ ho)];exact ho
        rw [cO.block i (zZ h2)];exact h2⟩).1 _ _ HBR.out
      have m9:Rep (fun i=>¬ MBk wr.heap.size (.slice none 0 0) (.slice none 0 0) i) W (.sl 55 1 bs.length (qW bs)) (.slice a' bs.length c'):=by
       have h0:Rep (fun _=>True) wr (.sl 55 1 xs.length (qW bs)) (.slice a' xs.length c') :=
        HO.out.1.rep (fun _ _=>trivial) ((Rep.keep fun _ _ _ ho=>⟨trivial,ho⟩).2 _ _ HO.out.2.1)
       rw [dr]
       exact (Rep.keep fun i o _ ho=>⟨fun h=>by have:=ft i h;have:=zZ ho;omega,by rw [cO.block i (zZ ho)];exact ho⟩).1 _ _ h0
      have C:=run_any keeps most wr.heap.size (.slice none 0 0) (.slice none 0 0) b bs t.args (.pointer (some ⟨ba,0,none⟩)) a' c' W nR (rj.below cO) Cy Ca nG m9 AS HQ.out.2.2 ez hna (by have:=HL.out;omega) h1 eQ
      rw [dr] at C
      have hR:kV most s text xs=v8 most b bs:=by unfold kV;rw [HQ.out.1];simp only [Option.bind_some];rw [if_pos HL.out.symm,dT];rfl
      have CC:=cH C;have HR:=cH hR;have HW:=cH (cB hW (cB cO (cB ni ft)))
      clear C hR hW cO ni ft nR Cy Ca nG m9 AS hna ez dT dr mA
      have hlt0:¬ (xs.length:Int)<(xs.length:Int):=by omega
      go_wp2_with fail
      rw [HW.out.1]
      refine CC.out.mono ?_
      rintro en w3 ⟨cr,fq,ii⟩
      have Ak:w3.heap[w.heap.size]? = some (.cells #[.slice none 0 0,.slice none 0 0] 28 (0,0)):=by
       have cL:=zZ HB.out.2.2
       rw [cr.block _ (by have:=HW.out.2.2.1;omega) (fun h=>by have:=HW.out.2.2.2 _ h;omega),HW.out.2.1.block _ cL];exact HB.out.2.2
      clear d0 d1 f0 f1
      obtain ⟨d0,d1,f0,f1,_⟩:=uj Ak
      have iT:Below w.heap.size w w3:=by
       have h1:=HB.out.2.1.size
       have h2:=HW.out.2.2.1
       exact (HB.out.2.1.trans (HW.out.2.1.mono h1)).trans (cr.toBelow (by omega) fun i hi h=>by have:=HW.out.2.2.2 i h;omega)
      have n_:=cH (cB Ak (cB iT cr));clear Ak iT cr
      cases hR:v8 most b bs with
      | none =>
        obtain ⟨te,pe,rfl⟩:=fq hR
        have A3:=cH (HR.out.trans hR);clear hR fq ii
        go_wp2_with fail
        obtain ⟨W',AY,s0,s1,rB,_⟩:=uq n_.out.1 (.slice none 0 0) (.slice none 0 0)
        rw [<- AY]
        refine bodyPost_ret (v:=.tuple #[.agg #[.slice none 0 0,.slice none 0 0],str [],.bool false]) (by simp [results,Tryz.results13,go_sem,s0,s1]) rfl ?_
        exact ⟨rB _ _ n_.out.2.1 (cC _),fun _=>rfl,fun c' log' h=>by rw [A3.out] at h;simp at h⟩
      | some x =>
        obtain ⟨cc,log⟩:=x
        obtain ⟨rfl,mv,pt,nR,ch⟩:=ii _ _ hR
        have A3:=cH (HR.out.trans hR);clear hR fq ii
        obtain ⟨a1,n1,k1,a2,n2,k2,rfl,rfl⟩:=nR.slices
        obtain ⟨m0,m1,_⟩:=xb nR.blk
        have HMS:=cH (cB nR ch);clear nR ch
        go_wp2_with fail
        obtain ⟨W',AY,s0,s1,rB,hkW'⟩:=uq n_.out.1 (.slice a1 n1 k1) (.slice a2 n2 k2)
        rw [<- AY]
        refine bodyPost_ret (v:=.tuple #[.agg #[.slice a1 n1 k1,.slice a2 n2 k2],str [cc],.bool true]) (by simp [results,Tryz.results13,go_sem,s0,s1]) rfl ?_
        have eV:∀ i,MBk wr.heap.size (.slice a1 n1 k1) (.slice a2 n2 k2) i->wr.heap.size<=i:=fun i hi=>by
         rcases HMS.out.2 i hi with h | h
         ·have:=HW.out.2.2.2 i h;omega
         ·have:=HW.out.2.2.1;omega
        have cL:=zZ HB.out.2.2
        refine ⟨rB _ _ n_.out.2.1 (cC _),fun h=>by rw [A3.out] at h;simp at h,fun c' log' h=>?_⟩
        rw [A3.out] at h
        simp only [Option.some.injEq,Prod.mk.injEq] at h
        obtain ⟨rfl,rfl⟩:=h
        refine ⟨wr.heap.size,a1,n1,k1,a2,n2,k2,rfl,?_,fun i hi=>by have:=eV i hi;omega⟩
        have dV:But (fun i=>i=w.heap.size) w3 W':=by
         rw [AY]
         exact ((But.refl (fun i=>i=w.heap.size) w3).setCell (p:=⟨w.heap.size,0,none⟩) (.inl rfl) _).setCell (p:=⟨w.heap.size,1,none⟩) (.inl rfl) _
        exact HMS.out.1.but dV fun i hi e=>by have:=eV i hi;omega
end Go.Proofs.YtdhaafoiokkbnaaGreatDoor

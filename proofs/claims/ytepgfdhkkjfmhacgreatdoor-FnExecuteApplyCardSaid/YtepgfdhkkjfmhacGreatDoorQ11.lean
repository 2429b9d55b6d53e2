/- Walks of functions that the statement reaches, and plain words. No conditions. -/
import Derived.Test.YtepgfdhkkjfmhacGreatDoorQ10
set_option linter.unusedVariables false
set_option linter.unusedSimpArgs false
set_option maxHeartbeats 8000000
namespace Go.Proofs.YtepgfdhkkjfmhacGreatDoor
open Go.RowKit
set_option maxRecDepth 100000 in
theorem kindTexts_any (F:Nat->Prop) (ts:List Ty) (kv:Value) (w:World) (h:Rep F w (.sl 53 1 ts.length (kZ ts)) kv) (cv:∀ t∈ts,zY t<=15) (hl:ts.length<=15) :
 Calls Tryz.prog 21 #[kv] w fun en w'=>∃ a c,en=.returned (.slice a ts.length c)/\ts.length<=c/\Below w.heap.size w w'/\qB w.heap.size w' a (ts.map zM):=by
 obtain ⟨ka,kc,e,_,_,bJ⟩:=zE h
 subst e
 have H:=gl (go bJ cv);clear bJ h cv
 go_enter Tryz.func21,Tryz.ntmps21
 go_wp2_with fail
 go_loopw [3,8] (fun o i wr=>∃ k:Nat,k<=ts.length/\i=.int .i64 k/\∃ a c,o=.slice a k c/\Own wr 9 1 (.slice a k c) k (List.take k (List.map (str ∘ zM) ts))/\Below w.heap.size w wr/\(∀ g,(Value.slice a k c).ownBlock=some g->w.heap.size<=g)) (fun _ i _=>ts.length-(intOf i).toNat)
 case atStart=>exact ⟨0,Nat.zero_le _,rfl,none,0,rfl,World.ownsRow_nil _ _ _ _,hG _ _,fun g h=>by simp [Value.ownBlock] at h⟩
 case round =>
  obtain ⟨k,hk,rfl,a,c,rfl,ho,hb,hf⟩:=hrel
  have HO:=gl ho;have HF:=gl hf;have HB:=gl hb
  clear ho hf hb
  by_cases bY:k<ts.length
  ·have cz:(k:Int)<(ts.length:Int):=by omega
   obtain ⟨b,o,u,d,e,_,f7,hd,hc,be⟩:=H.out.1 k bY
   subst e
   rw [vS,Option.map_eq_some_iff] at hd
   obtain ⟨t,ht,rfl⟩:=hd
   obtain ⟨ub,_,rfl,_⟩:=z8 be
   have q0:=(HB.out.cell (p:=⟨b,o+k,none⟩) f7).trans hc
   have aN:=H.out.2 t (List.mem_of_getElem? ht)
   have C1:=gl (x5 15 t aN (by omega) _ wr _ (Rep.below (F':=F) HB.out (fun _ h=>h) be))
   have HT:=gl ht
   clear ht be hc
   go_wp2_with fail
   (with_reducible refine C1.out.mono ?_)
   rintro en w4 ⟨rfl,bS⟩
   have rI:=HO.out.keep (w':=w4) fun g x _ hx=>by rw [bS.block g (zZ hx)];exact hx
   have eF:=gl (zzT HB.out bS);have Cv:=gl rI
   clear bS rI C1
   obtain ⟨X,hX⟩:=zzM (zM t)
   rw [<- hX]
   have HX:=gl hX;clear hX
   go_wp2_with (at_builtin;refine zP rfl _ _ 27 rfl 9 (str []) 1 16 Tryz.underlying27 Tryz.infoStr rfl (by decide) (.slice a k c) k (List.take k (List.map (str ∘ zM) ts)) rfl ?c1 _ 1 [str X] rfl ?c2 ?c3 ?c4 ?_)
   case c1=>exact Cv.out.alloc _
   case c2=>exact zS.lit (by simp [Value.oneCell'])
   case c3=>unfold maxLen;omega
   case c4=>omega
   intro a' c' w7 bI bV bH
   have bq:Below w.heap.size w w7:=by
    have h1:=eF.out
    refine (h1.alloc h1.size _).trans (bV.toBelow (by rw [zK];have:=h1.size;omega) fun i hi e=>?_)
    have:=HF.out i e;omega
   have cu:∀ g,(Value.slice a' (k+1) c').ownBlock=some g->w.heap.size<=g:=by
    intro g h
    rcases bH g h with h | h
    ·exact HF.out g h
    ·have h2:=eF.out.size
     omega
   have eV:Own w7 9 1 (.slice a' (k+1) c') (k+1) (List.take (k+1) (List.map (str ∘ zM) ts)):=by
    have e:List.take (k+1) (List.map (str ∘ zM) ts)=List.take k (List.map (str ∘ zM) ts)++[str X]:=by
     rw [List.take_add_one,List.getElem?_map,HT.out,HX.out];rfl
    rw [e];exact bI
   have HA:=gl (go eV (go bq cu));clear bI eV bq cu bV bH
   go_wp2_with fail
   go_roundw
   case rel=>exact ⟨k+1,by omega,by go_num,a',c',rfl,HA.out.1,HA.out.2.1,HA.out.2.2⟩
   case measure=>simp [intOf];omega
  ·obtain rfl:k=ts.length:=by omega
   go_wp2_with fail
   refine bodyPost_ret (v:=.slice a ts.length c) (by simp [results,Tryz.results21,go_sem]) rfl ?_
   have h0:Own wr 9 1 (.slice a ts.length c) ts.length ((ts.map zM).map str):=by
    have h:=HO.out
    rw [List.take_of_length_le (by simp)] at h
    rw [List.map_map];exact h
   exact ⟨a,c,rfl,h0.cap,HB.out,h0.strsNew HF.out⟩
set_option maxRecDepth 100000 in
theorem wG (s:Bs) (t:Ty) (hs:Lim s.length) (ht:qn s=some t) (cv:zY t<=15) (w:World) :
 Calls Tryz.prog 7 #[str s] w fun en w'=>∃ a c,en=.returned (.tuple #[.slice a t.args.length c,.bool true])/\t.args.length<=c/\Below w.heap.size w w'/\qB w.heap.size w' a (t.args.map zM):=by
 have C1:=vX s w hs
 rw [ht] at C1
 have C1:=gl C1
 have e_:=wN cv
 have HA:=gl e_;clear ht e_
 go_enter Tryz.func7,Tryz.ntmps7
 go_wp2_with fail
 (with_reducible refine C1.out.mono ?_)
 rintro en w1 ⟨v,rfl,bQ,_,cK⟩
 have hr:=cK t rfl
 obtain ⟨b,sv,rfl,_,hc,d_⟩:=z8 hr
 have c1:w1.cell? ⟨b,0,none⟩=some sv:=by simp [World.cell?,hc]
 obtain ⟨a,cap,rfl,_,_,_⟩:=zE d_
 have cD:=gl bQ
 have C2:=gl (kindTexts_any _ t.args _ w1 d_ HA.out.1 HA.out.2)
 clear hr cK hc d_ bQ C1
 go_wp2_with fail
 (with_reducible refine C2.out.mono ?_)
 rintro en w2 ⟨a2,c2,rfl,e9,bZ,dK⟩
 have HN:=gl (go bZ dK);clear bZ dK
 go_wp2_with fail
 refine bodyPost_ret (v:=.tuple #[.slice a2 t.args.length c2,.bool true]) (by simp [results,Tryz.results7,go_sem]) rfl ?_
 exact ⟨a2,c2,rfl,e9,zzT cD.out HN.out.1,fun k x hk=>by
  obtain ⟨b,o,e,hB,h⟩:=HN.out.2 k x hk
  exact ⟨b,o,e,h_ cD.out.size hB,h⟩⟩
set_option maxRecDepth 100000 in
theorem wP (ts:List Ty) (la:Option Addr) (lc:Nat) (w:World) (cv:zY (.mk ts)<=15) (bJ:xV w la (ts.map zM)) :
 Calls Tryz.prog 8 #[.slice la ts.length lc] w fun en w'=>en=.returned (.tuple #[str (zM (.mk ts)),.bool true])/\Below w.heap.size w w':=by
 have e_:=wN cv
 have Bk:ts.length<=15:=e_.2
 have H:=gl (go e_.1 (go bJ cv));clear e_ bJ cv
 obtain ⟨W,hW⟩:=zzN (w.alloc (.cells #[.slice none 0 0] 58))
 have bX:W.heap[w.heap.size]? = some (.cells #[.slice none 0 0] 58 (0,0)):=by rw [<- hW];exact zR _ _
 have bE:Below w.heap.size w W:=by rw [<- hW];exact (hG _ _).alloc (g_ _) _
 have HW:=gl (go hW (go bX bE));clear hW bX bE
 go_enter Tryz.func8,Tryz.ntmps8
 go_wp2_with fail
 rw [HW.out.1]
 go_loopw [12] (fun i wr=>∃ k:Nat,k<=ts.length/\i=.int .i64 k/\∃ a c vs,wr.heap[w.heap.size]? = some (.cells #[.slice a k c] 58 (0,0))/\Own wr 53 1 (.slice a k c) k vs/\zH (fun i=>(Value.slice a k c).ownBlock≠some i/\i≠w.heap.size) wr (kZ (ts.take k)) vs/\Below w.heap.size w wr/\(∀ g,(Value.slice a k c).ownBlock=some g->w.heap.size<g)) (fun i _=>ts.length-(intOf i).toNat)
 case atStart=>exact ⟨0,Nat.zero_le _,rfl,none,0,[],HW.out.2.1,World.ownsRow_nil _ _ _ _,by simp [kZ,zB],HW.out.2.2,fun g h=>by simp [Value.ownBlock] at h⟩
 case round =>
  obtain ⟨k,hk,rfl,a,c,vs,hx,ho,hr,hb,hf⟩:=hrel
  have HX:=gl hx;have HO:=gl ho;have HF:=gl hf;have HB:=gl hb;have HR:=gl hr
  clear hx ho hf hb hr
  by_cases bY:k<ts.length
  ·have cz:(k:Int)<(ts.length:Int):=by omega
   obtain ⟨t,ht⟩:∃ t,ts[k]? = some t:=⟨ts[k],by simp [bY]⟩
   obtain ⟨b,o,e,hc⟩:=H.out.2.1 k (zM t) (by rw [List.getElem?_map,ht];rfl)
   subst e
   have q0:wr.cell? ⟨b,o+k,none⟩=some (str (zM t)):=(HB.out.cell (p:=⟨b,o+k,none⟩) (hU w ⟨b,o+k,none⟩ hc)).trans hc
   have aN:=H.out.1 t (List.mem_of_getElem? ht)
   have hlen:=kO 15 t aN
   have C1:=vX (zM t) wr (show _<=_ by omega)
   rw [yH aN] at C1
   have C1:=gl C1
   have HT:=gl ht
   obtain ⟨X,hX⟩:=zzM (zM t)
   rw [<- hX] at q0 C1
   clear ht hc hlen hX
   go_wp2_with fail
   (with_reducible refine C1.out.mono ?_)
   rintro en w2 ⟨v,rfl,bZ,_,cH⟩
   have hrv:=cH t rfl
   obtain ⟨ub,_,rfl,_⟩:=z8 hrv
   have dI:w2.heap[w.heap.size]? = some (.cells #[.slice a k c] 58 (0,0)):=(bZ.block _ (zZ HX.out)).trans HX.out
   have q1:w2.cell? ⟨w.heap.size,0,none⟩=some (.slice a k c):=by simp [World.cell?,dI]
   have hk15:¬ (15:Int)<(k:Int):=by omega
   have cw:=gl bZ;have HRV:=gl hrv;have HX2:=gl dI
   clear bZ hrv cH dI C1
   go_wp2_with (at_builtin;refine zP rfl _ _ 56 rfl 53 (.pointer none) 1 8 Tryz.underlying56 Tryz.infoK rfl (by decide) (.slice a k c) k vs rfl ?c1 _ 1 [.pointer (some ⟨ub,0,none⟩)] rfl ?c2 ?c3 ?c4 ?_)
   case c1=>exact (HO.out.keep (w':=w2) fun g x _ hx=>by rw [cw.out.block g (zZ hx)];exact hx).alloc _
   case c2=>exact zS.lit (by simp [Value.oneCell'])
   case c3=>unfold maxLen;omega
   case c4=>omega
   intro a' c' w7 bI bV bH
   have hz:=HB.out.size
   have cG:=cw.out.size
   have b6:∀ g,(Value.slice a' (k+1) c').ownBlock=some g->(Value.slice a k c).ownBlock=some g\/g=w2.heap.size+1:=by
    intro g hg
    rcases bH g hg with h | h
    ·exact .inl h
    ·exact .inr (by simpa using h)
   have hx7:w7.heap[w.heap.size]? = some (.cells #[.slice a k c] 58 (0,0)):=by
    rw [bV.block _ (by rw [zK];have:=zZ HX2.out;omega) (fun e=>by have:=HF.out _ e;omega)];exact zV HX2.out
   have bq:Below w.heap.size w w7:=by
    have h1:Below w.heap.size w w2:=HB.out.trans (cw.out.mono hz)
    refine (h1.alloc h1.size _).trans (bV.toBelow (by rw [zK];have:=h1.size;omega) fun i hi e=>?_)
    have:=HF.out i e;omega
   have dE:zH (fun i=>(Value.slice a' (k+1) c').ownBlock≠some i/\i≠w.heap.size) w7 (kZ (ts.take (k+1))) (vs++[.pointer (some ⟨ub,0,none⟩)]):=by
    have e:kZ (ts.take (k+1))=kZ (ts.take k)++[qj t]:=by
     rw [List.take_add_one,HT.out]
     have key:∀ (xs:List Ty),kZ (xs++[t])=kZ xs++[qj t]:=by
      intro xs
      induction xs with
      | nil=>simp [kZ]
      | cons x xs ih=>rw [List.cons_append,kZ,ih,kZ];rfl
     exact key _
    rw [e]
    refine zH.append ?_ (zH.one ?_)
    ·have keyA:∀ b o,(Value.slice a k c).ownBlock≠some b->wr.heap[b]? = some o->(Value.slice a' (k+1) c').ownBlock≠some b/\w7.heap[b]? = some o:=by
      intro b o hf ho
      have bY:=zZ ho
      refine ⟨fun e=>?_,?_⟩
      ·rcases b6 b e with h | h
       ·exact hf h
       ·omega
      ·have h2:w2.heap[b]? = some o:=by rw [cw.out.block b bY];exact ho
       rw [bV.block b (by rw [zK];have:=zZ h2;omega) hf];exact zV h2
     exact (Rep.keep fun b o hf ho=>⟨⟨(keyA b o hf.1 ho).1,hf.2⟩,(keyA b o hf.1 ho).2⟩).2 _ _ HR.out
    ·have keyB:∀ b o,wr.heap.size<=b->w2.heap[b]? = some o->(Value.slice a' (k+1) c').ownBlock≠some b/\w7.heap[b]? = some o:=by
      intro b o hf ho
      have bY:=zZ ho
      refine ⟨fun e=>?_,?_⟩
      ·rcases b6 b e with h | h
       ·have:=HO.out.lt h;omega
       ·omega
      ·rw [bV.block b (by rw [zK];omega) (fun e=>by have:=HO.out.lt e;omega)];exact zV ho
     have ic:=zZ HX.out
     exact (Rep.keep fun b o hf ho=>⟨⟨(keyB b o hf ho).1,by have h9:wr.heap.size<=b:=hf;omega⟩,(keyB b o hf ho).2⟩).1 _ _ HRV.out
   have cu:∀ g,(Value.slice a' (k+1) c').ownBlock=some g->w.heap.size<g:=by
    intro g h
    rcases b6 g h with h | h
    ·exact HF.out g h
    ·have:=zZ HX.out;omega
   have q2:w7.cell? ⟨w.heap.size,0,none⟩=some (.slice a k c):=by simp [World.cell?,hx7]
   have q3:w7.frozen? ⟨w.heap.size,0,none⟩=false:=by simp [World.frozen?,hx7]
   obtain ⟨W8,oh⟩:=zzN (w7.setCell ⟨w.heap.size,0,none⟩ (.slice a' (k+1) c'))
   have hx8:W8.heap[w.heap.size]? = some (.cells #[.slice a' (k+1) c'] 58 (0,0)):=by rw [<- oh,zI hx7];rfl
   have rA:Own W8 53 1 (.slice a' (k+1) c') (k+1) (vs++[.pointer (some ⟨ub,0,none⟩)]):=bI.keep fun g x hg hx=>by
    rw [<- oh,hH _ _ _ _ (by have:=cu g hg;show g≠w.heap.size;omega)];exact hx
   have fX:zH (fun i=>(Value.slice a' (k+1) c').ownBlock≠some i/\i≠w.heap.size) W8 (kZ (ts.take (k+1))) (vs++[.pointer (some ⟨ub,0,none⟩)]) :=
    (Rep.keep fun b o hf ho=>⟨hf,by rw [<- oh,hH _ _ _ _ hf.2];exact ho⟩).2 _ _ dE
   have cF:Below w.heap.size w W8:=by rw [<- oh];exact bq.setCell (p:=⟨w.heap.size,0,none⟩) (g_ _) _
   have HA:=gl (go oh (go hx8 (go rA (go fX (go cF cu)))));clear bI bq cu bV bH b6 dE hx7 oh hx8 rA fX cF hz cG
   go_wp2_with fail
   rw [HA.out.1]
   go_roundw
   case rel=>exact ⟨k+1,by omega,by go_num,a',c',_,HA.out.2.1,HA.out.2.2.1,HA.out.2.2.2.1,HA.out.2.2.2.2.1,HA.out.2.2.2.2.2⟩
   case measure=>simp [intOf];omega
  ·obtain rfl:k=ts.length:=by omega
   have hrK:Rep (fun _=>True) wr (qj (.mk ts)) (.pointer (some ⟨w.heap.size,0,none⟩)):=by
    have h0:=HR.out
    rw [List.take_length] at h0
    have h1:Rep (fun _=>True) wr (.sl 53 1 ts.length (kZ ts)) (.slice a ts.length c):=HO.out.rep (fun _ _=>trivial) ((Rep.keep fun _ _ _ ho=>⟨trivial,ho⟩).2 _ _ h0)
    rw [qj,jU]
    exact ⟨_,_,rfl,trivial,HX.out,zH.one h1⟩
   have C1:=gl (atoms_any _ wr 15 (.mk ts) H.out.2.2 (show _<=_ by omega) _ hrK)
   have C2:=gl (x5 15 (.mk ts) H.out.2.2 (by omega) _ wr _ hrK)
   have hgt:¬ (15:Int)<(zY (.mk ts):Int):=by have:=H.out.2.2;omega
   obtain ⟨X,hX⟩:=zzM (zM (.mk ts))
   have HXX:=gl hX
   rw [<- hX] at C2
   clear hX hrK
   generalize zY (.mk ts)=M at *
   go_wp2_with fail
   (with_reducible refine C1.out.mono ?_)
   rintro en w3 ⟨rfl,rfl⟩
   go_wp2_with fail
   (with_reducible refine C2.out.mono ?_)
   rintro en w4 ⟨rfl,bS⟩
   have eF:=gl bS;clear bS
   go_wp2_with fail
   refine bodyPost_ret (v:=.tuple #[str X,.bool true]) (by simp [results,Tryz.results8,go_sem]) rfl ?_
   exact ⟨by rw [HXX.out],zzT HB.out eF.out⟩
structure AppP (s m n out:Bs) (b:Bd) (t a:Ty) (rest:List Ty) (o:Bd):Prop where
 st:zC s m=some b
 ty:zW s=(t,true)
 txt:s=zM t
 args:t.args=a::rest
 one:kq t b n=some (.mk rest,o)
 out:out=zO o
 good:xY t b
 goodo:xY (.mk rest) o
 ns:(10:UInt8) ∉ s
 nm:(10:UInt8) ∉ m
 nn:(10:UInt8) ∉ n
theorem apply_parts {s m n out:Bs} (h:ki s m n=some out):∃ b t a rest o,AppP s m n out b t a rest o:=by
 cases hq:zC s m with
 | none=>rw [uV hq] at h;simp at h
 | some b =>
   obtain ⟨hg,hmt⟩:=qS hq
   obtain ⟨htt,_,_⟩:=yU hq
   obtain ⟨fd,_⟩:=pm htt
   have AO:zW s=((zW s).1,true):=by rw [<- htt]
   rw [yP hq,Option.map_eq_some_iff] at h
   obtain ⟨x,h1,h2⟩:=h
   generalize hT:(zW s).1=t at *
   have hgo:=v_ hg h1
   have h1':=h1
   unfold kq at h1'
   cases ha:t.args with
   | nil=>rw [ha] at h1';simp at h1'
   | cons a rest =>
     rw [ha] at h1'
     simp only [Option.bind_eq_some_iff,Option.map_eq_some_iff] at h1'
     obtain ⟨nb,h3,o,h4,rfl⟩:=h1'
     have bJ:=jB ha
     have cv:=hg.atoms
     obtain ⟨hn,lV⟩:=jJ (by omega) h3
     exact ⟨b,t,a,rest,o,hq,AO,fd,ha,h1,h2.symm,hg,hgo,by rw [fd];exact textT_ne t,by rw [hmt];exact yJ b hg.wf,by rw [lV];exact yJ nb hn.wf⟩
def uU (s m n:Bs):List Bs:=[[116,121,112,101]++32::s,[115,101,116]++32::m,[97,112,112,108,121]++32::n,[115,104,111,119]]
def scrSA (s m R out:Bs):Nat->Bs×Bs
 | 0=>([98],[117])
 | 1=>(s,[117])
 | 2=>(s,m)
 | _=>(R,out)
def xC (out:Bs):Nat->Bs
 | 0=>[111,107]
 | 1=>[111,107]
 | 2=>[111,107]
 | _=>out
theorem scrA_join (s m n:Bs):qW (uU s m n)=[116,121,112,101,32]++s++[10,115,101,116,32]++m++[10,97,112,112,108,121,32]++n++[10,115,104,111,119,10]:=by simp [qW,uU]
theorem scrA_out (x e:Bs):kU (xC x) 4++e=[111,107,10,111,107,10,111,107,10]++x++[10]++e:=by simp [kU,xC]
theorem scriptA_any (s m n out:Bs) (b:Bd) (t a:Ty) (rest:List Ty) (o:Bd) (w:World) (hg:jE w) (he:ju w) (hm:uS w) (h:AppP s m n out b t a rest o) (hn:(qW (uU s m n)).length<=900) :
 Calls Tryz.prog 9 #[str (qW (uU s m n))] w fun en w'=>en=.returned (str (kU (xC out) 4++([110,111,100,101,115,32]++dec (zX o)++[10])))/\Below w.heap.size w w':=by
 have iX:=hn
 rw [scrA_join] at iX
 simp only [List.length_append,List.length_cons,List.length_nil] at iX
 have ls:Lim s.length:=show _<=_ by omega
 have lm:Lim m.length:=show _<=_ by omega
 have ln:Lim n.length:=show _<=_ by omega
 have eJ:out.length<=100000:=by
  have:=kz o h.goodo.lv
  have:=h.goodo.size
  rw [h.out];omega
 have rD:=kO 15 _ h.goodo.atoms
 have lo:Lim out.length:=show _<=_ by omega
 have cv:=h.goodo.atoms
 have lr:Lim (zM (.mk rest)).length:=show _<=_ by omega
 have hsz:=h.goodo.size
 have hT:(zW s).1=t:=by rw [h.ty]
 refine execute_any (uU s m n) (scrSA s m (zM (.mk rest)) out) (xC out) (zX o) w hg hm ?_ hn rfl ?_ (by omega) ?_ ?_
 ·intro l hl
  simp only [uU,List.mem_cons,List.not_mem_nil,or_false] at hl
  rcases hl with rfl | rfl | rfl | rfl
  ·simp [h.ns]
  ·simp [h.nm]
  ·simp [h.nn]
  ·decide
 ·intro i _
  match i with
  | 0=>simp [xC]
  | 1=>simp [xC]
  | 2=>simp [xC]
  | n+3=>simp only [xC];omega
 ·intro i l hl g y hy hgg hd
  match i,hl,hd with
  | 0,hl,hd =>
    obtain rfl:_=l:=by simpa [uU] using hl
    exact line_type g _ _ [111,107] s [117] _ s y hd (hm.below hy) (by simp;omega) (cut_at (l:=[116,121,112,101]) (r:=s) (by decide)) fun y' nh=>take_deed g _ _ s y' (hd.below nh) ls (by rw [h.ty])
  | 1,hl,hd =>
    obtain rfl:_=l:=by simpa [uU] using hl
    exact line_set g _ _ [111,107] s m _ m y hd (hm.below hy) (by simp;omega) (cut_at (l:=[115,101,116]) (r:=m) (by decide)) fun y' nh=>set_deed g s _ m y' (hd.below nh) ((hg.below hy).below nh) ls lm (by rw [h.st];rfl)
  | 2,hl,hd =>
    obtain rfl:_=l:=by simpa [uU] using hl
    refine line_apply g _ _ [111,107] (zM (.mk rest)) out _ n y hd (hm.below hy) (by simp;omega) (cut_at (l:=[97,112,112,108,121]) (r:=n) (by decide)) fun y' nh=>?_
    have:=apply_deed g s m n b (.mk rest,o) y' (hd.below nh) ((hg.below hy).below nh) ((he.below hy).below nh) ls lm ln h.st (by rw [hT];exact h.one)
    rw [<- h.out] at this
    exact this
  | 3,hl,hd =>
    obtain rfl:_=l:=by simpa [uU] using hl
    exact line_show g _ _ out (zM (.mk rest)) out _ [] y hd (hm.below hy) (by simp) (cut_none (by decide)) fun y' nh=>show_deed g (zM (.mk rest)) out y' (hd.below nh)
  | n+4,hl,_=>simp [uU] at hl
 ·intro y hy
  refine (xA (zM (.mk rest)) out lr lo y (hg.below hy)).mono ?_
  rintro en w2 ⟨rfl,bZ⟩
  rw [h.out,vy h.goodo]
  exact ⟨rfl,bZ⟩
set_option maxRecDepth 100000 in
theorem xQ (a0:Option Addr) (len cap:Nat) (zs:List Int) (w:World) (h:Row8 w a0 len cap zs) (hg:jE w) (he:ju w) (hm:uS w) :
 Calls Tryz.prog 3 #[.slice a0 len cap] w fun en w'=>en=.returned (.bool true)/\Below w.heap.size w w':=by
 by_cases hlen:1048576<len
 ·have sZ:(1048576:Int)<(len:Int):=by omega
  go_enter Tryz.func3,Tryz.ntmps3
  go_wp2_with fail
  go_ret
  exact ⟨rfl,hG _ _⟩
 have sZ:¬ (1048576:Int)<(len:Int):=by omega
 have H:=gl h;clear h
 have HG:=gl (go hg (go he hm));clear hg he hm
 go_enter Tryz.func3,Tryz.ntmps3
 go_wp2_with fail
 refine (pD a0 len cap zs w H.out (by omega)).mono ?_
 rintro en w1 ⟨s,m,n,rfl,hs,hm,hn,bQ⟩
 have ls:Lim s.length:=show _<=_ by omega
 have lm:Lim m.length:=show _<=_ by omega
 have ln:Lim n.length:=show _<=_ by omega
 have cD:=gl bQ;clear bQ
 have C1:=implOne_any s m n w1 (HG.out.1.below cD.out) (HG.out.2.1.below cD.out) ls lm ln
 rw [one_eq] at C1
 have C1:=gl C1
 go_wp2_with fail
 (with_reducible refine C1.out.mono ?_)
 rintro en w2 ⟨rfl,bZ⟩
 have cw:=gl (zzT cD.out bZ);clear bZ C1
 go_wp2_with fail
 (with_reducible refine (pH s m n ls lm ln w2).mono ?_)
 rintro en w3 ⟨rfl,bU⟩
 have mU:=gl (zzT cw.out bU);clear bU
 cases hR:ki s m n with
 | none =>
   rw [Option.getD_none,Option.isSome_none]
   clear hR
   have e0:(([]:Bs) != [])=false:=by simp
   go_wp2_with fail
   go_ret
   exact ⟨by simp,mU.out⟩
 | some out =>
 rw [Option.getD_some,Option.isSome_some]
 have e0:(out != out)=false:=by simp
 obtain ⟨b,t,a,rest,ob,hp⟩:=apply_parts hR
 have t3:=hp.good.atoms
 have e_:=wN t3
 have oZ:zY (.mk rest)<=15:=hp.goodo.atoms
 have rD:=kO 15 _ oZ
 have eJ:out.length<=100000:=by
  have:=kz ob hp.goodo.lv
  have:=hp.goodo.size
  rw [hp.out];omega
 have fU:=yH t3
 have lr:Lim (zM (.mk rest)).length:=show _<=_ by omega
 have lo:Lim out.length:=show _<=_ by omega
 obtain ⟨R,fp⟩:=zzM (zM (.mk rest))
 obtain ⟨N,hN⟩:=zzM (rest.length)
 have iA:t.args.length=N+1:=by rw [hp.args,List.length_cons,hN]
 have hN15:N<=15:=by have:=e_.2;omega
 have CT:∀ wz,Calls Tryz.prog 7 #[str s] wz fun en w'=>∃ a c,en=.returned (.tuple #[.slice a (N+1) c,.bool true])/\N+1<=c/\Below wz.heap.size wz w'/\qB wz.heap.size w' a (t.args.map zM):=fun wz=>by
  have:=wG s t ls (by rw [hp.txt];exact fU) t3 wz
  rw [iA] at this
  exact this
 have CM:∀ wz la lc,xV wz la ((t.args.map zM).drop 1)->Calls Tryz.prog 8 #[.slice la N lc] wz fun en w'=>en=.returned (.tuple #[str R,.bool true])/\Below wz.heap.size wz w':=fun wz la lc h=>by
  have:=wP rest la lc wz oZ (by rw [hp.args] at h;simpa using h)
  rw [<- hN,<- fp] at this
  exact this
 have CE:∀ wz,Below w.heap.size w wz->Calls Tryz.prog 10 #[str R,str out] wz fun en w'=>en=.returned (str ([110,111,100,101,115,32]++dec (zX ob)++[10]))/\Below wz.heap.size wz w':=fun wz hz=>by
  have hso:=hp.goodo.size
  refine endLine_any R out (zX ob) (by omega) wz fun y' nh=>(xA R out (by rw [fp];exact lr) lo y' (HG.out.1.below (zzT hz nh))).mono ?_
  rintro en w2 ⟨rfl,bZ⟩
  rw [fp,hp.out,vy hp.goodo]
  exact ⟨rfl,bZ⟩
 have CX:∀ wz,Below w.heap.size w wz->(qW (uU s m n)).length<=900->Calls Tryz.prog 9 #[str (qW (uU s m n))] wz fun en w'=>en=.returned (str (kU (xC out) 4++([110,111,100,101,115,32]++dec (zX ob)++[10])))/\Below wz.heap.size wz w':=fun wz hz hl =>
  scriptA_any s m n out b t a rest ob wz (HG.out.1.below hz) (HG.out.2.1.below hz) (HG.out.2.2.below hz) hp hl
 have hE:([110,111,100,101,115,32]++dec (zX ob)++[10]).length<=20:=by
  have:=qM 3 (zX ob) (by have:=hp.goodo.size;omega)
  simp;omega
 rw [scrA_out,scrA_join] at CX
 obtain ⟨E,hEE⟩:∃ E:Bs,[110,111,100,101,115,32]++dec (zX ob)++[10]=E:=⟨_,rfl⟩
 rw [hEE] at CX CE hE
 have hNt:(t.args.map zM).length=N+1:=by rw [List.length_map,iA]
 have HNT:=gl hNt
 clear hEE hp hR e_ oZ rD fU lr lo fp hN iA hNt
 have s1:=fun w0=>zo (P:=Tryz.prog) ([116,121,112,101,32]:Bs) s (by first | omega | (simp;omega)) w0
 obtain ⟨A1,e1⟩:∃ A:Bs,[116,121,112,101,32]++s=A:=⟨_,rfl⟩
 rw [e1] at s1 CX
 have l1:A1.length<=200:=by rw [<- e1];simp;omega
 have s2:=fun w0=>zo (P:=Tryz.prog) A1 [10,115,101,116,32] (by first | omega | (simp;omega)) w0
 obtain ⟨A2,e2⟩:∃ A:Bs,A1++[10,115,101,116,32]=A:=⟨_,rfl⟩
 rw [e2] at s2 CX
 have l2:A2.length<=300:=by rw [<- e2];simp;omega
 have s3:=fun w0=>zo (P:=Tryz.prog) A2 m (by first | omega | (simp;omega)) w0
 obtain ⟨A3,e3⟩:∃ A:Bs,A2++m=A:=⟨_,rfl⟩
 rw [e3] at s3 CX
 have l3:A3.length<=100400:=by rw [<- e3];simp;omega
 have s4:=fun w0=>zo (P:=Tryz.prog) A3 [10,97,112,112,108,121,32] (by first | omega | (simp;omega)) w0
 obtain ⟨A4,e4⟩:∃ A:Bs,A3++[10,97,112,112,108,121,32]=A:=⟨_,rfl⟩
 rw [e4] at s4 CX
 have l4:A4.length<=100500:=by rw [<- e4];simp;omega
 have s5:=fun w0=>zo (P:=Tryz.prog) A4 n (by first | omega | (simp;omega)) w0
 obtain ⟨A5,e5⟩:∃ A:Bs,A4++n=A:=⟨_,rfl⟩
 rw [e5] at s5 CX
 have l5:A5.length<=200600:=by rw [<- e5];simp;omega
 have s6:=fun w0=>zo (P:=Tryz.prog) A5 [10,115,104,111,119,10] (by first | omega | (simp;omega)) w0
 obtain ⟨A6,e6⟩:∃ A:Bs,A5++[10,115,104,111,119,10]=A:=⟨_,rfl⟩
 rw [e6] at s6 CX
 have l6:A6.length<=200700:=by rw [<- e6];simp;omega
 have r1:=fun w0=>zo (P:=Tryz.prog) ([111,107,10,111,107,10,111,107,10]:Bs) out (by first | omega | (simp;omega)) w0
 obtain ⟨O1,f1⟩:∃ A:Bs,[111,107,10,111,107,10,111,107,10]++out=A:=⟨_,rfl⟩
 rw [f1] at r1 CX
 have m1:O1.length<=100100:=by rw [<- f1];simp;omega
 have r2:=fun w0=>zo (P:=Tryz.prog) O1 [10] (by first | omega | (simp;omega)) w0
 obtain ⟨O2,f2⟩:∃ A:Bs,O1++[10]=A:=⟨_,rfl⟩
 rw [f2] at r2 CX
 have m2:O2.length<=100200:=by rw [<- f2];simp;omega
 have r3:=fun w0=>zo (P:=Tryz.prog) O2 E (by first | omega | (simp;omega)) w0
 obtain ⟨O3,f3⟩:∃ A:Bs,O2++E=A:=⟨_,rfl⟩
 rw [f3] at r3 CX
 have m3:O3.length<=100300:=by rw [<- f3];simp;omega
 have HCT:=gl CT;have HCM:=gl CM;have HCE:=gl CE;have HCX:=gl CX
 clear CT CM CE CX e1 e2 e3 e4 e5 e6 l1 l2 l3 l4 l5 f1 f2 f3 m1 m2 m3 hE eJ hs hm hn ls lm ln
 go_wp2_with fail
 (with_reducible refine (HCT.out w3).mono ?_)
 rintro en w4 ⟨a4,c4,rfl,hc4,bS,hn4⟩
 have Aa:=gl (go bS hn4);clear bS hn4
 obtain ⟨b4,o4,rfl⟩:∃ b4 o4,a4=some ⟨b4,o4,none⟩:=by
  have bY:0<(t.args.map zM).length:=by have:=HNT.out;omega
  obtain ⟨b4,o4,e4,_⟩:=Aa.out.2 0 _ (List.getElem?_eq_getElem bY)
  exact ⟨b4,o4,e4⟩
 have eF:=gl (zzT mU.out Aa.out.1)
 have lq:∃ o5 c5,(∀ {P:Program},True)/\xV w4 (some ⟨b4,o5,none⟩) ((t.args.map zM).drop 1)/\((c4-1=0/\o5=o4/\c5=0)\/(¬ c4-1=0/\o5=o4+1/\c5=c4-1)):=by
  by_cases h0:c4-1=0
  ·refine ⟨o4,0,trivial,fun k x hk=>?_,.inl ⟨h0,rfl,rfl⟩⟩
   rw [List.drop_of_length_le (by have:=HNT.out;omega)] at hk
   simp at hk
  ·refine ⟨o4+1,c4-1,trivial,?_,.inr ⟨h0,rfl,rfl⟩⟩
   intro k x hk
   rw [List.getElem?_drop] at hk
   obtain ⟨b',o',e,h1,h2⟩:=Aa.out.2 _ x hk
   simp only [Option.some.injEq,Addr.mk.injEq,and_true] at e
   obtain ⟨rfl,rfl⟩:=e
   exact ⟨b4,o4+1,rfl,by rw [show o4+1+k=o4+(1+k) from by omega];exact h2⟩
 obtain ⟨o5,c5,_,nM,hor⟩:=lq
 have CM5:=gl (HCM.out w4 (some ⟨b4,o5,none⟩) c5 nM)
 have ca:1<=c4:=by omega
 clear nM
 rcases hor with ⟨h0,rfl,rfl⟩ | ⟨h0,rfl,rfl⟩
 all_goals
  go_wp2_with fail
  (with_reducible refine CM5.out.mono ?_)
  rintro en w5 ⟨rfl,bC⟩
  have aA:=gl (zzT eF.out bC);clear bC CM5 h0 ca hc4
  by_cases hn:A6.length<=900
  ·have iX:¬ (900:Int)<(A6.length:Int):=by omega
   go_wp2_with fail
   (with_reducible refine (HCX.out _ aA.out hn).mono ?_)
   rintro en w6 ⟨rfl,bP⟩
   have np:=gl (zzT aA.out bP)
   clear bP
   go_wp2_with fail
   (with_reducible refine (HCE.out _ np.out).mono ?_)
   rintro en w7 ⟨rfl,bV⟩
   have Ac:=gl (zzT np.out bV)
   clear bV
   go_wp2_with fail
   go_ret
   exact ⟨rfl,Ac.out⟩
  ·have iX:(900:Int)<(A6.length:Int):=by omega
   go_wp2_with fail
   go_ret
   exact ⟨rfl,aA.out⟩
end Go.Proofs.YtepgfdhkkjfmhacGreatDoor

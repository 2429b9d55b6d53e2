/- Walks of functions that the statement reaches, and plain words. No conditions. -/
import Derived.Test.YtepgfdhkkjfmhacGreatDoorQ7
set_option linter.unusedVariables false
set_option linter.unusedSimpArgs false
set_option maxHeartbeats 4000000
namespace Go.Proofs.YtepgfdhkkjfmhacGreatDoor
open Go.RowKit
mutual
def xj:Mn->List DV
 | .op o t=>[.val (.int .i64 (o:Nat)),.val (str []),.val (.int .i64 0),.val (.slice none 0 0),.val (.slice none 0 0),qg t,.val (.slice none 0 0),.val (.int .i64 0),.any]
 | .bd t b env=>[.val (.int .i64 (-1))]++(kE b++[qg t,.sl 94 9 env.length (za env),.val (.int .i64 (0:Nat)),.any])
def za:List Mn->List DV
 | []=>[]
 | x::xs=>xj x++za xs
end
theorem yM (x:Mn):(xj x).length=9:=by cases x <;> simp [xj,jA]
theorem xq:∀ xs:List Mn,(za xs).length=xs.length*9
 | []=>by simp [za]
 | x::xs=>by rw [za,List.length_append,yM,xq xs];simp;omega
theorem qx:∀ (xs ys:List Mn),za (xs++ys)=za xs++za ys
 | [],ys=>by simp [za]
 | x::xs,ys=>by simp [za,qx xs ys]
theorem qm {F:Nat->Prop} {w:World}:∀ (xs:List Mn) (us:List Value),zH F w (za xs) us->∀ u∈us,u.oneCell'=true
 | [],us,h,u,hu=>by rw [za,zB] at h;subst h;simp at hu
 | x::xs,us,h,u,hu=>by
   rw [za] at h
   obtain ⟨h1,h2⟩:=h.split
   rw [yM] at h1 h2
   rw [<- List.take_append_drop 9 us] at hu
   rcases List.mem_append.1 hu with hu | hu
   ·cases x with
    | op o t =>
      simp only [xj,zQ,zB,zF,ja] at h1
      obtain ⟨_,_,e,rfl,_,_,rfl,rfl,_,_,rfl,rfl,_,_,rfl,rfl,_,_,rfl,rfl,x1,_,rfl,q1,_,_,rfl,rfl,_,_,rfl,rfl,x3,_,rfl,⟨i3,rfl⟩,rfl⟩:=h1
      obtain ⟨sa,sc,rfl⟩:=zu q1
      rw [e] at hu
      simp only [List.mem_cons,List.not_mem_nil,or_false] at hu
      rcases hu with rfl | rfl | rfl | rfl | rfl | rfl | rfl | rfl | rfl
      all_goals first | rfl | assumption
    | bd t b env =>
      rw [xj] at h1
      obtain ⟨k1,k2⟩:=h1.split
      obtain ⟨k3,k4⟩:=k2.split
      rw [<- List.take_append_drop 1 (us.take 9)] at hu
      rcases List.mem_append.1 hu with hu | hu
      ·simp only [List.length_singleton,zQ,zB,zF] at k1
       obtain ⟨_,_,e,rfl,rfl⟩:=k1
       rw [e] at hu;simp at hu;subst hu;rfl
      ·rw [jA] at k3 k4
       simp only [List.length_singleton] at k3 k4
       rw [<- List.take_append_drop 4 (List.drop 1 (us.take 9))] at hu
       rcases List.mem_append.1 hu with hu | hu
       ·exact oneCell_encN k3 u hu
       ·simp only [zQ,zB,ja,zF] at k4
        obtain ⟨x0,_,e,q1,x1,_,rfl,q2,_,_,rfl,rfl,x3,_,rfl,⟨i3,rfl⟩,rfl⟩:=k4
        rw [e] at hu
        obtain ⟨sa,sc,rfl⟩:=zu q1
        rw [zp] at q2
        obtain ⟨_,a,c,rfl,_⟩:=q2
        simp only [List.mem_cons,List.not_mem_nil,or_false] at hu
        rcases hu with rfl | rfl | rfl | rfl
        all_goals first | rfl | assumption
   ·exact qm xs _ h2 u hu
def HandWPost (F:Nat->Prop) (hand:List Mn) (own:List Mn) (w:World) (en:Ending) (w':World):Prop :=
 ∃ a c,en=.returned (.slice a (hand.length+own.length) c)/\Below w.heap.size w w'/\Rep (fun i=>F i\/w.heap.size<=i) w' (.sl 94 9 (hand.length+own.length) (za (hand++own))) (.slice a (hand.length+own.length) c)
set_option maxRecDepth 100000 in
theorem y_ (F:Nat->Prop) (hand env:List Mn) (ss:List Bd) (t:Ty) (hv kv tv ev:Value) (w:World) (hh:Rep F w (.sl 94 9 hand.length (za hand)) hv) (hk:Rep F w (.sl 46 4 ss.length (zn ss)) kv)
 (ht:Rep F w (qg t) tv) (he:Rep F w (.sl 94 9 env.length (za env)) ev) (hl:hand.length<=10000000) (hs:ss.length=t.args.length) (hs16:ss.length<=16) :
 Calls Tryz.prog 64 #[hv,kv,.agg #[tv],ev,.int .i64 (0:Nat)] w (HandWPost F hand (kL env t.args ss) w):=by
 obtain ⟨xs1,eI,g1⟩:=zS.ofRep hh (qm _)
 obtain ⟨a1,c1,e1⟩:=g1.slice
 subst e1
 obtain ⟨ka,kc,e,oA⟩:=pF.of hk
 subst e
 have d8:=ht
 rw [k8] at d8
 obtain ⟨ta,tc,e,_,_,eN⟩:=zE d8
 subst e
 obtain ⟨ea,ec,e⟩:∃ a c,ev=.slice a env.length c:=by have h:=he;rw [zp] at h;obtain ⟨_,a,c,e,_⟩:=h;exact ⟨a,c,e⟩
 subst e
 have H:=gl (go eI (go g1 (go oA (go eN (go he hs)))))
 clear eI g1 oA eN he hs hh hk ht d8
 have eJ:(kL env t.args ss).length=ss.length:=(uW _ _ H.out.2.2.2.2.2).trans H.out.2.2.2.2.2.symm
 have HOL:=gl eJ;clear eJ
 go_enter Tryz.func64,Tryz.ntmps64
 go_wp2_with (at_builtin;refine zP rfl _ _ 91 rfl 94 (.agg #[.int .i64 0,str [],.int .i64 0,.slice none 0 0,.slice none 0 0,.slice none 0 0,.slice none 0 0,.int .i64 0,.int .i64 0]) 9 144 Tryz.underlying91 Tryz.infoBo rfl (by decide) (.slice (some ⟨w.heap.size+1,0,none⟩) 0 0) 0 [] rfl ?c1 _ hand.length xs1 rfl ?c2 ?c3 ?c4 ?_)
 case c1=>exact Own.litAt #[] 0 _ (by simp) (by decide) rfl
 case c2=>exact (H.out.2.1.alloc _).alloc _
 case c3=>unfold maxLen;omega
 case c4=>omega
 intro ax cx wx hox dB tr
 obtain ⟨dR,hfx⟩:=ux (w:=w.alloc (.cells #[.slice ta t.args.length tc] 43)) ((hG _ _).alloc (g_ _) _) (gU (by simp)) dB (fun g h=>by have:=tr g h;simpa only [zK] using this)
 have cE:Below w.heap.size w (w.alloc (.cells #[.slice ta t.args.length tc] 43)):=(hG _ _).alloc (g_ _) _
 have BW:Below w.heap.size w wx:=cE.trans (dR.mono (by rw [zK];omega))
 have hcx:wx.cell? ⟨w.heap.size,0,none⟩=some (.slice ta t.args.length tc):=by rw [dR.cell (p:=⟨w.heap.size,0,none⟩) (by rw [zK];simp)];simp
 have BE:∀ g,(Value.slice ax hand.length cx).ownBlock=some g->w.heap.size+1<=g:=fun g hg=>by have:=hfx g hg;rwa [zK] at this
 have HX:=gl (go hox (go BW (go hcx BE)));clear hox dB tr dR hfx cE BW hcx BE
 go_wp2_with fail
 go_loopw [12,11] (fun i o wr=>∃ (k:Nat) (a':Option Addr) (c':Nat) (cells:List Value),k<=ss.length/\i=.int .i64 k/\o=.slice a' (hand.length+k) c'/\Own wr 94 9 (.slice a' (hand.length+k) c') (hand.length+k) cells /\
  zH (fun i=>F i/\(Value.slice a' (hand.length+k) c').ownBlock≠some i) wr (za (hand++(kL env t.args ss).take k)) cells/\Below w.heap.size w wr/\wr.cell? ⟨w.heap.size,0,none⟩=some (.slice ta t.args.length tc)/\(∀ g,(Value.slice a' (hand.length+k) c').ownBlock=some g->w.heap.size+1<=g)) (fun i _ _=>ss.length-(intOf i).toNat)
 case atStart =>
  refine ⟨0,ax,cx,xs1,Nat.zero_le _,rfl,rfl,HX.out.1,?_,HX.out.2.1,HX.out.2.2.1,HX.out.2.2.2⟩
  rw [List.take_zero,List.append_nil]
  exact (Rep.keep fun b o hf ho=>⟨⟨hf,fun e=>by have h1:w.heap.size+1<=b:=HX.out.2.2.2 b e;have:=zZ ho;omega⟩,by rw [HX.out.2.1.block b (zZ ho)];exact ho⟩).2 _ _ H.out.1
 case round =>
  obtain ⟨k,a',c',cells,hk,rfl,rfl,ho,hr,hb,hc,hf⟩:=hrel
  have HR:=gl (go ho (go hr (go hb hf)));clear ho hr hb hf
  by_cases bY:k<ss.length
  ·obtain ⟨kb,ko,s',v',a2,n2,c2,a3,n3,c3,d,e,cb,hd,k0,k1,k2,k3,dz⟩:=H.out.2.2.1 k bY
   subst e
   have hkt:k<t.args.length:=by have:=H.out.2.2.2.2.2;omega
   obtain ⟨bt,ot,ut,dt,e,_,tY,hdt,BO,ee⟩:=H.out.2.2.2.1 k hkt
   subst e
   rw [qo,Option.map_eq_some_iff] at hdt
   obtain ⟨tk,fU,rfl⟩:=hdt
   obtain ⟨ua,uc,rfl⟩:=zu ee
   have q0:=(HR.out.2.2.1.cell (p:=⟨kb,ko+k*4,none⟩) cb).trans k0
   have q1:=(HR.out.2.2.1.cell (p:=⟨kb,ko+k*4+1,none⟩) cb).trans k1
   have q2:=(HR.out.2.2.1.cell (p:=⟨kb,ko+k*4+2,none⟩) cb).trans k2
   have q3:=(HR.out.2.2.1.cell (p:=⟨kb,ko+k*4+3,none⟩) cb).trans k3
   have q4:=(HR.out.2.2.1.cell (p:=⟨bt,ot+k,none⟩) tY).trans BO
   have HK:=gl (go hd (go dz (go fU ee)));clear hd dz fU ee k0 k1 k2 k3 BO
   have cz:(k:Int)<(ss.length:Int):=by omega
   have hkt':(k:Int)<(t.args.length:Int):=by omega
   have h09:0<9:=by omega
   have oR:hand.length+k+1<=maxLen:=by unfold maxLen;omega
   have eT:(hand.length+k+1)*144<=140737488355328:=by omega
   have tf:=(zS.lit1 (w:=wr) (e:=94) #[.int .i64 (-1),str s',.int .i64 v',.slice a2 n2 c2,.slice a3 n3 c3,.slice ua tk.args.length uc,.slice ea env.length ec,.int .i64 (0:Nat),.int .i64 (k:Nat)] rfl (by simp [str,Value.oneCell']) _ rfl).drew
   have HL:=gl tf;clear tf
   have hrw:∀ g,(Value.slice a' (hand.length+k) c').ownBlock=some g->g<wr.heap.size:=fun g hg=>HR.out.1.lt hg
   have SIX:Hid (∀ w7:World,But (fun b=>(Value.slice a' (hand.length+k) c').ownBlock=some b) (wr.alloc (.cells #[.int .i64 (-1),str s',.int .i64 v',.slice a2 n2 c2,.slice a3 n3 c3,.slice ua tk.args.length uc,.slice ea env.length ec,.int .i64 (0:Nat),.int .i64 (k:Nat)] 94)).drew w7 ->
    w7.cell? ⟨kb,ko+k*4,none⟩=some (str s')/\w7.cell? ⟨kb,ko+k*4+1,none⟩=some (.int .i64 v')/\w7.cell? ⟨kb,ko+k*4+2,none⟩=some (.slice a2 n2 c2)/\w7.cell? ⟨kb,ko+k*4+3,none⟩=some (.slice a3 n3 c3)/\w7.cell? ⟨bt,ot+k,none⟩=some (.slice ua tk.args.length uc)/\w7.cell? ⟨w.heap.size,0,none⟩=some (.slice (some ⟨bt,ot,none⟩) t.args.length tc)):=by
    show ∀ w7:World,_->_
    intro w7 bV
    have hz:=HR.out.2.2.1.size
    have key:∀ (p:Addr) (u:Value),p.block<w.heap.size+1->wr.cell? p=some u->w7.cell? p=some u:=by
     intro p u hp hu
     have h1:(wr.alloc (.cells #[.int .i64 (-1),str s',.int .i64 v',.slice a2 n2 c2,.slice a3 n3 c3,.slice ua tk.args.length uc,.slice ea env.length ec,.int .i64 (0:Nat),.int .i64 (k:Nat)] 94)).drew.cell? p=some u:=zJ hu
     exact (bV.cell (hU _ _ h1) (fun e=>by have:=HR.out.2.2.2 _ e;omega)).trans h1
    exact ⟨key _ _ (by simp only;omega) q0,key _ _ (by simp only;omega) q1,key _ _ (by simp only;omega) q2,key _ _ (by simp only;omega) q3,key _ _ (by simp only;omega) q4,key _ _ (by simp only;omega) hc⟩
   go_wp2_with fail
   go_region_held3 (fun w'=>w'.cell? ⟨kb,ko+k*4,none⟩=some (str s')/\w'.cell? ⟨kb,ko+k*4+1,none⟩=some (.int .i64 v')/\w'.cell? ⟨kb,ko+k*4+2,none⟩=some (.slice a2 n2 c2)/\w'.cell? ⟨kb,ko+k*4+3,none⟩=some (.slice a3 n3 c3)/\w'.cell? ⟨bt,ot+k,none⟩=some (.slice ua tk.args.length uc)/\w'.cell? ⟨w.heap.size,0,none⟩=some (.slice (some ⟨bt,ot,none⟩) t.args.length tc))
    (first
     | exact ⟨q0,q1,q2,q3,q4,hc⟩
     | exact hS7
     | go_keep)
    (first
     | (refine zT (by rfl) _ _ _ (by rfl) 94 (.agg #[.int .i64 0,str [],.int .i64 0,.slice none 0 0,.slice none 0 0,.slice none 0 0,.slice none 0 0,.int .i64 0,.int .i64 0]) 9 144 Tryz.underlying91 Tryz.infoBo rfl h09 (.slice a' (hand.length+k) c') (hand.length+k) cells (by rfl) (HR.out.1.alloc _).drew _ 1 [.int .i64 (-1),str s',.int .i64 v',.slice a2 n2 c2,.slice a3 n3 c3,.slice ua tk.args.length uc,.slice ea env.length ec,.int .i64 (0:Nat),.int .i64 (k:Nat)] (by rfl) HL.out oR eT ?_;intro a7 c7 w7 bI bV bH;have hS7:=SIX.out w7 bV))
   have hz:=HR.out.2.2.1.size
   have b6:∀ g,(Value.slice a7 (hand.length+k+1) c7).ownBlock=some g->(Value.slice a' (hand.length+k) c').ownBlock=some g\/g=wr.heap.size+1:=by
    intro g hg
    rcases bH g hg with h | h
    ·exact .inl h
    ·exact .inr (by rw [h];exact zK _ _)
   have bq:Below w.heap.size w w7:=by
    refine ((HR.out.2.2.1.alloc hz _).drew).trans (bV.toBelow (by show _<=(wr.alloc _).heap.size;rw [zK];omega) fun i hi e=>?_)
    have:=HR.out.2.2.2 i e;omega
   have fc:∀ (b:Nat) (o:Obj),(Value.slice a' (hand.length+k) c').ownBlock≠some b->wr.heap[b]? = some o->w7.heap[b]? = some o:=by
    intro b o hf ho
    have h2:=zZ ho
    have h3:(wr.alloc (.cells #[.int .i64 (-1),str s',.int .i64 v',.slice a2 n2 c2,.slice a3 n3 c3,.slice ua tk.args.length uc,.slice ea env.length ec,.int .i64 (0:Nat),.int .i64 (k:Nat)] 94)).drew.heap[b]? = some o:=zV ho
    rw [bV.block b (zZ h3) hf];exact h3
   have dE:zH (fun i=>F i/\(Value.slice a7 (hand.length+k+1) c7).ownBlock≠some i) w7 (za (hand++(kL env t.args ss).take (k+1))) (cells++[.int .i64 (-1),str s',.int .i64 v',.slice a2 n2 c2,.slice a3 n3 c3,.slice ua tk.args.length uc,.slice ea env.length ec,.int .i64 (0:Nat),.int .i64 (k:Nat)]):=by
    have how:=owns_at (env:=env) t.args ss k tk d HK.out.2.2.1 HK.out.1
    rw [List.take_add_one,how]
    simp only [Option.toList_some]
    rw [<- List.append_assoc,qx]
    have Be:∀ (b:Nat) (o:Obj),F b->w.heap[b]? = some o->(F b/\(Value.slice a7 (hand.length+k+1) c7).ownBlock≠some b)/\w7.heap[b]? = some o:=by
     intro b o hf ho
     have h1:=zZ ho
     refine ⟨⟨hf,fun e=>?_⟩,by rw [bq.block b h1];exact ho⟩
     rcases b6 b e with h | h
     ·have:=HR.out.2.2.2 b h;omega
     ·omega
    refine zH.append ?_ ?_
    ·exact (Rep.keep fun b o hf ho=>⟨⟨hf.1,fun e=>by
      have:=zZ ho
      rcases b6 b e with h | h
      ·exact hf.2 h
      ·omega⟩,fc b o hf.2 ho⟩).2 _ _ HR.out.2.1
    ·simp only [za,xj,List.append_nil,List.cons_append,List.nil_append]
     refine zQ.2 ⟨_,_,rfl,zF.2 rfl,?_⟩
     have h4:=(Rep.keep Be).2 _ _ HK.out.2.1
     have h5:=(Rep.keep Be).1 _ _ HK.out.2.2.2
     have h6:=(Rep.keep Be).1 _ _ H.out.2.2.2.2.1
     exact zH.append h4 (zQ.2 ⟨_,_,rfl,h5,zQ.2 ⟨_,_,rfl,h6,zQ.2 ⟨_,_,rfl,zF.2 rfl,zQ.2 ⟨_,_,rfl,ja.2 ⟨_,rfl⟩,zB.2 rfl⟩⟩⟩⟩)
   have cu:∀ g,(Value.slice a7 (hand.length+k+1) c7).ownBlock=some g->w.heap.size+1<=g:=by
    intro g hg
    rcases b6 g hg with h | h
    ·exact HR.out.2.2.2 g h
    ·omega
   have H7:=gl (go bI (go dE (go bq (go hS7.2.2.2.2.2 cu))));clear bI dE bq hS7 cu bV bH b6 fc q0 q1 q2 q3 q4 hc
   go_wp2_with fail
   go_roundw
   case rel=>exact ⟨k+1,a7,c7,_,by omega,by go_num,rfl,H7.out.1,H7.out.2.1,H7.out.2.2.1,H7.out.2.2.2.1,H7.out.2.2.2.2⟩
   case measure=>simp [intOf];omega
  ·obtain rfl:k=ss.length:=by omega
   have Bb:¬ (ss.length:Int)<(ss.length:Int):=by omega
   clear hc
   go_wp2_with fail
   go_ret
   have hr:=HR.out.2.1
   rw [List.take_of_length_le (by rw [HOL.out];exact g_ _)] at hr
   unfold HandWPost
   rw [HOL.out]
   refine ⟨a',c',rfl,HR.out.2.2.1,HR.out.1.rep (fun g hg=>.inr (by have:=HR.out.2.2.2 g hg;omega)) ((Rep.keep fun b o hf ho=>⟨.inl hf.1,ho⟩).2 _ _ hr)⟩
set_option maxRecDepth 100000 in
theorem yE (F:Nat->Prop) (n:Nat) (ts:List Ty) (kv:Value) (w:World) (h:Rep F w (.sl 43 1 ts.length (kd ts)) kv) (hl:ts.length<=1000) (hn:n<=1000000) :
 Calls Tryz.prog 42 #[kv,.int .i64 (n:Nat)] w (FreshV w 94 9 ts.length fun w' xs=>zH F w' (za (zq n ts)) xs):=by
 obtain ⟨ka,kc,e,_,_,bJ⟩:=zE h
 subst e
 have H:=gl bJ;clear bJ h
 go_enter Tryz.func42,Tryz.ntmps42
 go_wp2_with fail
 go_loopw [5,6] (fun o i wr=>∃ k:Nat,k<=ts.length/\i=.int .i64 k/\∃ a c xs,o=.slice a k c/\Own wr 94 9 (.slice a k c) k xs/\zH (fun i=>F i/\i<w.heap.size) wr (za (zq n (ts.take k))) xs/\Below w.heap.size w wr/\(∀ g,(Value.slice a k c).ownBlock=some g->w.heap.size<=g)) (fun _ i _=>ts.length-(intOf i).toNat)
 case atStart=>exact ⟨0,Nat.zero_le _,rfl,_,_,[],rfl,Own.litAt #[] 0 _ (by simp) (by decide) rfl,by simp [zq,za,zB],(hG _ _).alloc (g_ _) _,gU (g_ _)⟩
 case round =>
  obtain ⟨k,hk,rfl,a,c,xs,rfl,ho,hr,hb,hf⟩:=hrel
  have HO:=gl ho;have HF:=gl hf;have HB:=gl hb;have HR:=gl hr
  clear ho hf hb hr
  by_cases bY:k<ts.length
  ·have cz:(k:Int)<(ts.length:Int):=by omega
   obtain ⟨b,o,u,d,e,_,f7,hd,hc,be⟩:=H.out k bY
   subst e
   rw [qo,Option.map_eq_some_iff] at hd
   obtain ⟨t,ht,rfl⟩:=hd
   obtain ⟨ua,uc,rfl⟩:=zu be
   have q0:=(HB.out.cell (p:=⟨b,o+k,none⟩) f7).trans hc
   have HT:=gl (go ht be);clear ht be hc
   go_wp2_with (at_builtin;refine zP rfl _ _ 91 rfl 94 (.agg #[.int .i64 0,str [],.int .i64 0,.slice none 0 0,.slice none 0 0,.slice none 0 0,.slice none 0 0,.int .i64 0,.int .i64 0]) 9 144 Tryz.underlying91 Tryz.infoBo rfl (by decide) (.slice a k c) k xs rfl ?c1 _ 1 [.int .i64 ((n:Int)+(k:Int)),str [],.int .i64 0,.slice none 0 0,.slice none 0 0,.slice ua t.args.length uc,.slice none 0 0,.int .i64 0,.int .i64 0] rfl ?c2 ?c3 ?c4 ?_)
   case c1=>exact HO.out.alloc _
   case c2=>exact zS.lit1 #[.int .i64 ((n:Int)+(k:Int)),str [],.int .i64 0,.slice none 0 0,.slice none 0 0,.slice ua t.args.length uc,.slice none 0 0,.int .i64 0,.int .i64 0] rfl (by simp [str,Value.oneCell']) _ (by simp)
   case c3=>unfold maxLen;omega
   case c4=>omega
   intro a' c' w7 bI bV bH
   have bq:Below w.heap.size w w7:=by
    have h1:=HB.out
    refine (h1.alloc h1.size _).trans (bV.toBelow (by rw [zK];have:=h1.size;omega) fun i hi e=>?_)
    have:=HF.out i e;omega
   have cu:∀ g,(Value.slice a' (k+1) c').ownBlock=some g->w.heap.size<=g:=by
    intro g h
    rcases bH g h with h | h
    ·exact HF.out g h
    ·have h2:=HB.out.size
     omega
   have dE:zH (fun i=>F i/\i<w.heap.size) w7 (za (zq n (ts.take (k+1)))) (xs++[.int .i64 ((n:Int)+(k:Int)),str [],.int .i64 0,.slice none 0 0,.slice none 0 0,.slice ua t.args.length uc,.slice none 0 0,.int .i64 0,.int .i64 0]):=by
    rw [y7 HT.out.1,qx,za,za,List.append_nil]
    refine zH.append ?_ ?_
    ·exact (Rep.keep fun b o hf ho=>⟨hf,by rw [bq.block b hf.2,<- HB.out.block b hf.2];exact ho⟩).2 _ _ HR.out
    ·rw [xj]
     refine zQ.2 ⟨_,_,rfl,zF.2 (by rw [Int.natCast_add]),zQ.2 ⟨_,_,rfl,zF.2 rfl,zQ.2 ⟨_,_,rfl,zF.2 rfl,zQ.2 ⟨_,_,rfl,zF.2 rfl,zQ.2 ⟨_,_,rfl,zF.2 rfl,zQ.2 ⟨_,_,rfl,(Rep.keep fun b o hf ho=>⟨⟨hf,zZ ho⟩,by rw [bq.block b (zZ ho)];exact ho⟩).1 _ _ HT.out.2,zQ.2 ⟨_,_,rfl,zF.2 rfl,zQ.2 ⟨_,_,rfl,zF.2 rfl,zQ.2 ⟨_,_,rfl,ja.2 ⟨_,rfl⟩,zB.2 rfl⟩⟩⟩⟩⟩⟩⟩⟩⟩
   have HA:=gl (go bI (go dE (go bq cu)));clear bI dE bq cu bV bH
   go_wp2_with fail
   go_roundw
   case rel=>exact ⟨k+1,by omega,by go_num,a',c',_,rfl,HA.out.1,HA.out.2.1,HA.out.2.2.1,HA.out.2.2.2⟩
   case measure=>simp [intOf];omega
  ·obtain rfl:k=ts.length:=by omega
   go_wp2_with fail
   go_ret
   have h0:=HR.out
   rw [List.take_length] at h0
   exact ⟨a,c,xs,rfl,HO.out,(Rep.keep fun b o hf ho=>⟨hf.1,ho⟩).2 _ _ h0,HB.out,HF.out⟩
def Wri (w:World) (ww:Nat) (k s:Int):Prop:=w.heap[ww]? = some (.cells #[.int .i64 k,.int .i64 s] 90 (0,0))
theorem Wri.cell {w:World} {ww:Nat} {k s:Int} (h:Wri w ww k s):w.cell? ⟨ww,0,none⟩=some (.int .i64 k)/\w.cell? ⟨ww,1,none⟩=some (.int .i64 s)/\(∀ o,w.frozen? ⟨ww,o,none⟩=false)/\ww<w.heap.size:=by
 unfold Wri at h
 exact ⟨by simp [World.cell?,h],by simp [World.cell?,h],fun o=>by simp [World.frozen?,h],zZ h⟩
theorem Wri.below {w w':World} {ww:Nat} {k s:Int} (h:Wri w ww k s) (hb:Below w.heap.size w w'):Wri w' ww k s:=by unfold Wri;rw [hb.block ww (zZ h)];exact h
structure WFr where
 v:Nat
 ss:List Bd
 yes:Bd
 no:Bd
 env:List Mn
def WFr.gf (f:WFr):Gf:=⟨f.yes,f.no,f.env⟩
def encF (f:WFr):List DV:=kE (.ask f.v f.ss f.yes f.no)++[.sl 94 9 f.env.length (za f.env),.val (.int .i64 (0:Nat))]
def jq:List WFr->List DV
 | []=>[]
 | f::st=>jq st++encF f
theorem encF_length (f:WFr):(encF f).length=6:=by simp [encF,jA]
theorem ug:∀ st:List WFr,(jq st).length=st.length*6
 | []=>rfl
 | f::st=>by rw [jq,List.length_append,ug st,encF_length,List.length_cons];omega
set_option maxRecDepth 100000 in
theorem pL (ww:Nat) (s:Int) (nvs:Array Value) (s0:Bs) (v0:Int) (a1 a2:Option Addr) (n1 c1 n2 c2:Nat) (hn:nvs=#[str s0,.int .i64 v0,.slice a1 n1 c1,.slice a2 n2 c2]) (ev sv:Value) (n:Nat) (w:World) (h:Wri w ww (-1) s) (h0:0<=s) (h1:s<=1000000000) :
 Calls Tryz.prog 43 #[.pointer (some ⟨ww,0,none⟩),.agg nvs,ev,sv,.int .i64 (n:Nat)] w fun en w' =>
  en=.returned (.agg #[str [117],.int .i64 0,.slice none 0 0,.slice none 0 0])/\But (· = ww) w w'/\Wri w' ww (-1) (s+1):=by
 subst hn
 obtain ⟨W,hW⟩:=zzN ((w.alloc (.cells #[str s0,.int .i64 v0,.slice a1 n1 c1,.slice a2 n2 c2] 46)).alloc (.cells #[str [],.int .i64 0,.slice none 0 0,.slice none 0 0] 46))
 have bE:Below w.heap.size w W:=by rw [<- hW];exact ((hG _ _).alloc (g_ _) _).alloc (by rw [zK];omega) _
 have sO:=h.below bE
 obtain ⟨k0,k1,kf,klt⟩:=sO.cell
 have kf1:=kf 1
 obtain ⟨W2,cC⟩:=zzN (W.setCell ⟨ww,1,none⟩ (.int .i64 (s+1)))
 have dr:Wri W2 ww (-1) (s+1):=by unfold Wri at *;rw [<- cC,zI sO];rfl
 obtain ⟨m0,m1,mf,mlt⟩:=dr.cell
 have mf0:=mf 0
 have fY:zm (w.heap.size+1) 0 (.slice none 0 0) (.slice none 0 0) W:=by
  have:=zR (w.alloc (.cells #[str s0,.int .i64 v0,.slice a1 n1 c1,.slice a2 n2 c2] 46)) (.cells #[str [],.int .i64 0,.slice none 0 0,.slice none 0 0] 46)
  rw [zK,hW] at this;exact this
 have hww:=h.cell.2.2.2
 obtain ⟨W3,bh⟩:=zzN (W2.setCell ⟨ww,0,none⟩ (.int .i64 (-1)))
 have dS:Wri W3 ww (-1) (s+1):=by unfold Wri at *;rw [<- bh,zI dr];rfl
 have sT:But (· = ww) W W3:=by rw [<- bh,<- cC];exact ((But.refl (· = ww) W).setCell (p:=⟨ww,1,none⟩) (.inl rfl) _).setCell (p:=⟨ww,0,none⟩) (.inl rfl) _
 have bx:zm (w.heap.size+1) 0 (.slice none 0 0) (.slice none 0 0) W3:=fY.but sT (by show ¬ (w.heap.size+1=ww);omega)
 obtain ⟨r0,r1,r2,r3,rlt,rf⟩:=bx.cells
 have fv:=rf 0;have mC:=rf 1;have mB:=rf 2;have mH:=rf 3
 have HW:=gl (go hW (go cC (go bE (go bh (go dS (go sT bx))))));clear fY bx sT dS bh rf dr hW cC bE sO h kf mf
 go_enter Tryz.func43,Tryz.ntmps43
 go_upto_region 1 with (fail)
 rw [HW.out.1]
 refine wp_loop_rounds 1 ?_
 rw [rounds_succ]
 go_upto_region 2 with (fail)
 rw [HW.out.2.1]
 go_upto_region 4 with (fail)
 rw [HW.out.2.2.2.1]
 go_wp2_with fail
 obtain ⟨hW,cC,bE,bh,dS,sT,bx⟩:=HW.out
 obtain ⟨W4,cj,dC,dn,dl,di,_,my⟩:=bx.store (.string ⟨#[117]⟩) (.int .i64 0) (.slice none 0 0) (.slice none 0 0)
 rw [<- cj]
 refine bodyPost_ret (v:=.agg #[str [117],.int .i64 0,.slice none 0 0,.slice none 0 0]) (by simp [results,Tryz.results43,go_sem,dC,dn,dl,di,str]) rfl ?_
 refine ⟨rfl,?_,my ww _ (by omega) dS⟩
 have bU:But (· = ww) w W3:=(But.ofBelow bE).trans sT
 have cI:w.heap.size<=w.heap.size+1:=by omega
 rw [cj]
 exact (((bU.setCell (p:=⟨w.heap.size+1,0,none⟩) (.inr cI) _).setCell (p:=⟨w.heap.size+1,1,none⟩) (.inr cI) _).setCell (p:=⟨w.heap.size+1,2,none⟩) (.inr cI) _).setCell (p:=⟨w.heap.size+1,3,none⟩) (.inr cI) _
def qe (F:Nat->Prop) (ww:Nat) (D:Int) (o:Option (Bd×Nat×Nat)) (w:World) (en:Ending) (w':World):Prop :=
 ∃ s v a1 n1 c1 a2 n2 c2,en=.returned (.agg #[str s,.int .i64 v,.slice a1 n1 c1,.slice a2 n2 c2])/\But (· = ww) w w'/\(o=none->∃ st,Wri w' ww (-1) st/\0<=st/\st<=D) /\
   ∀ x,o=some x->Wri w' ww (x.2.1:Nat) (20000-(x.2.2:Nat))/\zH (fun i=>F i\/w.heap.size<=i) w' (kE x.1) [str s,.int .i64 v,.slice a1 n1 c1,.slice a2 n2 c2]
def Fx (F:Nat->Prop) (w:World) (k:Nat):Nat->Prop:=fun i=>(F i/\i<w.heap.size)\/w.heap.size+k<=i
structure OBox (w:World) (s0:Bs) (v0:Int) (a1 a2 ta:Option Addr) (n1 c1 n2 c2 nt tc:Nat) (wr:World):Prop where
 x0:wr.cell? ⟨w.heap.size,0,none⟩=some (str s0)
 x1:wr.cell? ⟨w.heap.size,1,none⟩=some (.int .i64 v0)
 x2:wr.cell? ⟨w.heap.size,2,none⟩=some (.slice a1 n1 c1)
 x3:wr.cell? ⟨w.heap.size,3,none⟩=some (.slice a2 n2 c2)
 y0:wr.cell? ⟨w.heap.size+1,0,none⟩=some (.slice ta nt tc)
 res:zm (w.heap.size+2) 0 (.slice none 0 0) (.slice none 0 0) wr
 bel:Below w.heap.size w wr
theorem OBox.below {w wr w':World} {s0:Bs} {v0:Int} {a1 a2 ta:Option Addr} {n1 c1 n2 c2 nt tc:Nat} (h:OBox w s0 v0 a1 a2 ta n1 c1 n2 c2 nt tc wr) (hb:Below (w.heap.size+3) wr w'):OBox w s0 v0 a1 a2 ta n1 c1 n2 c2 nt tc w':=by
 have hr:=h.res.cells.2.2.2.2.1
 have k:∀ (p:Addr),p.block<w.heap.size+3->w'.cell? p=wr.cell? p:=fun p hp=>World.cell?_of_block (w:=wr) (hb.block p.block hp)
 exact ⟨(k ⟨_,_,_⟩ (by show w.heap.size<_;omega)).trans h.x0,(k ⟨_,_,_⟩ (by show w.heap.size<_;omega)).trans h.x1,(k ⟨_,_,_⟩ (by show w.heap.size<_;omega)).trans h.x2,(k ⟨_,_,_⟩ (by show w.heap.size<_;omega)).trans h.x3,
  (k ⟨_,_,_⟩ (by show w.heap.size+1<_;omega)).trans h.y0,h.res.below hb (by omega),h.bel.trans (hb.mono (by omega))⟩
set_option maxRecDepth 100000 in
theorem open_any (F:Nat->Prop) (ww:Nat) (D:Int) (o:Option (Bd×Nat×Nat)) (t:Ty) (env:List Mn) (n:Nat) (s0:Bs) (v0:Int) (a1 a2:Option Addr) (n1 c1 n2 c2:Nat) (tv ev:Value) (w:World)
 (ht:Rep F w (qg t) tv) (he:Rep F w (.sl 94 9 env.length (za env)) ev) (hl:env.length<=1000000) (htl:t.args.length<=15) (hn:n<=1000000) (hww:ww<w.heap.size)
 (C:∀ (a:Option Addr) (c g:Nat) (wX:World),Below w.heap.size w wX->w.heap.size+3<=wX.heap.size->Rep (Fx F w 3) wX (.sl 94 9 (env.length+t.args.length) (za (env++zq n t.args))) (.slice a (env.length+t.args.length) c) ->
  Calls Tryz.prog 43 #[.pointer (some ⟨ww,0,none⟩),.agg #[str s0,.int .i64 v0,.slice a1 n1 c1,.slice a2 n2 c2],.slice a (env.length+t.args.length) c,.slice (some ⟨g,0,none⟩) 0 0,.int .i64 ((n:Int)+(t.args.length:Int))] wX (qe (Fx F w 3) ww D o wX)) :
 Calls Tryz.prog 92 #[.pointer (some ⟨ww,0,none⟩),.agg #[str s0,.int .i64 v0,.slice a1 n1 c1,.slice a2 n2 c2],.agg #[tv],ev,.int .i64 (n:Nat)] w (qe F ww D o w):=by
 obtain ⟨exs,sW,eX⟩:=zS.ofRep he (qm env)
 obtain ⟨ea,ec,e⟩:=eX.slice
 subst e
 have d8:=ht
 rw [k8] at d8
 obtain ⟨ta,tc,e,_,_,eN⟩:=zE d8
 subst e
 obtain ⟨W,hW⟩:=zzN (((w.alloc (.cells #[str s0,.int .i64 v0,.slice a1 n1 c1,.slice a2 n2 c2] 46)).alloc (.cells #[.slice ta t.args.length tc] 43)).alloc (.cells #[str [],.int .i64 0,.slice none 0 0,.slice none 0 0] 46))
 have bE:Below w.heap.size w W:=by rw [<- hW];exact (((hG _ _).alloc (g_ _) _).alloc (by rw [zK];omega) _).alloc (by rw [zK,zK];omega) _
 have dL:w.heap.size+3=W.heap.size:=by rw [<- hW];simp only [zK]
 have dB:OBox w s0 v0 a1 a2 ta n1 c1 n2 c2 t.args.length tc W:=by
  have b0:W.heap[w.heap.size]? = some (.cells #[str s0,.int .i64 v0,.slice a1 n1 c1,.slice a2 n2 c2] 46 (0,0)):=by rw [<- hW];exact zV (zV (zR _ _))
  have b1:W.heap[w.heap.size+1]? = some (.cells #[.slice ta t.args.length tc] 43 (0,0)):=by
   have:=zR (w.alloc (.cells #[str s0,.int .i64 v0,.slice a1 n1 c1,.slice a2 n2 c2] 46)) (.cells #[.slice ta t.args.length tc] 43)
   rw [zK] at this
   rw [<- hW];exact zV this
  have b2:W.heap[w.heap.size+2]? = some (.cells #[str [],.int .i64 0,.slice none 0 0,.slice none 0 0] 46 (0,0)):=by
   have:=zR ((w.alloc (.cells #[str s0,.int .i64 v0,.slice a1 n1 c1,.slice a2 n2 c2] 46)).alloc (.cells #[.slice ta t.args.length tc] 43)) (.cells #[str [],.int .i64 0,.slice none 0 0,.slice none 0 0] 46)
   simp only [zK] at this
   rw [<- hW];exact this
  obtain ⟨x0,x1,x2,x3⟩:=qO b0
  exact ⟨x0,x1,x2,x3,by simp [World.cell?,b1],b2,bE⟩
 have hsW:zS 9 (.slice ea env.length ec) env.length exs W:=eX.below bE
 have HP:=gl (go sW (go eN (go hW (go dB (go hsW (go C dL))))));clear sW eX eN hW dB hsW C bE dL ht d8 he
 go_enter Tryz.func92,Tryz.ntmps92
 go_upto_region 1 with (fail)
 rw [HP.out.2.2.1]
 have BX:=HP.out.2.2.2.1
 have y0:=BX.y0
 have dL:=HP.out.2.2.2.2.2.2
 clear BX
 go_wp2_with (at_builtin;refine zP rfl _ _ 91 rfl 94 (.agg #[.int .i64 0,str [],.int .i64 0,.slice none 0 0,.slice none 0 0,.slice none 0 0,.slice none 0 0,.int .i64 0,.int .i64 0]) 9 144 Tryz.underlying91 Tryz.infoBo rfl (by decide) (.slice (some ⟨W.heap.size,0,none⟩) 0 0) 0 [] rfl ?d1 _ env.length exs rfl ?d2 ?d3 ?d4 ?_)
 case d1=>exact Own.litAt #[] 0 _ rfl (by decide) rfl
 case d2=>exact HP.out.2.2.2.2.1.alloc _
 case d3=>unfold maxLen;omega
 case d4=>omega
 intro a6 c6 w6 iY bP iC
 have dN:Below W.heap.size W w6:=((hG _ _).alloc (g_ _) _).trans (bP.toBelow (by rw [zK];omega) fun i hi e=>by simp [Value.ownBlock] at e;omega)
 have mG:∀ g,(Value.slice a6 env.length c6).ownBlock=some g->W.heap.size<=g:=fun g hg=>by
  rcases iC g hg with h | h
  ·simp [Value.ownBlock] at h;omega
  ·omega
 have fW:zH (fun i=>F i/\i<w.heap.size) w6 (za (env++zq n (t.args.take 0))) exs:=by
  rw [List.take_zero,zq,List.append_nil]
  exact (Rep.keep fun b o hf hh=>⟨hf,by rw [(HP.out.2.2.2.1.bel.trans (dN.mono (by omega))).block b hf.2];exact hh⟩).2 _ _ (zH.low HP.out.1)
 have H6:=gl (go iY (go dN (go mG fW)));clear iY dN mG fW bP iC
 have y0:=(H6.out.2.1.cell (hU W _ y0)).trans y0
 go_wp2_with fail
 go_loopw [11,12] (fun o i wr=>∃ k:Nat,k<=t.args.length/\i=.int .i64 k/\∃ a c xs,o=.slice a (env.length+k:Nat) c/\Own wr 94 9 (.slice a (env.length+k) c) (env.length+k) xs/\zH (fun i=>F i/\i<w.heap.size) wr (za (env++zq n (t.args.take k))) xs/\Below W.heap.size W wr/\(∀ g,(Value.slice a (env.length+k) c).ownBlock=some g->W.heap.size<=g)) (fun _ i _=>t.args.length-(intOf i).toNat)
 case atStart=>exact ⟨0,Nat.zero_le _,rfl,a6,c6,exs,rfl,H6.out.1,H6.out.2.2.2,H6.out.2.1,H6.out.2.2.1⟩
 case round =>
  rename_i wr
  obtain ⟨k,hk,rfl,a,c,xs,rfl,ho,hr,hb,hf⟩:=hrel
  have BX:=HP.out.2.2.2.1.below (hb.mono (by omega))
  have z0:=BX.y0
  have HO:=gl ho;have HF:=gl hf;have HB:=gl hb;have HR:=gl hr;have HX:=gl BX
  clear ho hf hb hr y0 BX
  by_cases bY:k<t.args.length
  ·have cz:(k:Int)<(t.args.length:Int):=by omega
   obtain ⟨b,o1,u,d,e,_,f7,hd,hc,be⟩:=HP.out.2.1 k bY
   subst e
   rw [qo,Option.map_eq_some_iff] at hd
   obtain ⟨t1,ht1,rfl⟩:=hd
   obtain ⟨ua,uc,rfl⟩:=zu be
   have q0:=(HX.out.bel.cell (p:=⟨b,o1+k,none⟩) f7).trans hc
   have HT:=gl (go ht1 be);clear ht1 be hc
   go_wp2_with (at_builtin;refine zP rfl _ _ 91 rfl 94 (.agg #[.int .i64 0,str [],.int .i64 0,.slice none 0 0,.slice none 0 0,.slice none 0 0,.slice none 0 0,.int .i64 0,.int .i64 0]) 9 144 Tryz.underlying91 Tryz.infoBo rfl (by decide) (.slice a (env.length+k) c) (env.length+k) xs rfl ?e1 _ 1 [.int .i64 ((n:Int)+(k:Int)),str [],.int .i64 0,.slice none 0 0,.slice none 0 0,.slice ua t1.args.length uc,.slice none 0 0,.int .i64 0,.int .i64 0] rfl ?e2 ?e3 ?e4 ?_)
   case e1=>exact HO.out.alloc _
   case e2=>exact zS.lit1 #[.int .i64 ((n:Int)+(k:Int)),str [],.int .i64 0,.slice none 0 0,.slice none 0 0,.slice ua t1.args.length uc,.slice none 0 0,.int .i64 0,.int .i64 0] rfl (by simp [str,Value.oneCell']) _ (by simp)
   case e3=>unfold maxLen;omega
   case e4=>omega
   intro a' c' w7 bI bV bH
   have hzb:=HB.out.size
   have bq:Below W.heap.size W w7:=by
    refine (HB.out.alloc hzb _).trans (bV.toBelow (by rw [zK];omega) fun i hi e=>?_)
    have:=HF.out i e;omega
   have cu:∀ g,(Value.slice a' (env.length+(k+1)) c').ownBlock=some g->W.heap.size<=g:=by
    intro g h
    rcases bH g h with h | h
    ·exact HF.out g h
    ·omega
   have mg:Below w.heap.size w w7:=HP.out.2.2.2.1.bel.trans (bq.mono (by omega))
   have dE:zH (fun i=>F i/\i<w.heap.size) w7 (za (env++zq n (t.args.take (k+1)))) (xs++[.int .i64 ((n:Int)+(k:Int)),str [],.int .i64 0,.slice none 0 0,.slice none 0 0,.slice ua t1.args.length uc,.slice none 0 0,.int .i64 0,.int .i64 0]):=by
    rw [y7 HT.out.1,<- List.append_assoc,qx,za,za,List.append_nil]
    refine zH.append ?_ ?_
    ·exact (Rep.keep fun b o hf ho=>⟨hf,by rw [mg.block b hf.2,<- HX.out.bel.block b hf.2];exact ho⟩).2 _ _ HR.out
    ·rw [xj]
     refine zQ.2 ⟨_,_,rfl,zF.2 (by rw [Int.natCast_add]),zQ.2 ⟨_,_,rfl,zF.2 rfl,zQ.2 ⟨_,_,rfl,zF.2 rfl,zQ.2 ⟨_,_,rfl,zF.2 rfl,zQ.2 ⟨_,_,rfl,zF.2 rfl,zQ.2 ⟨_,_,rfl,(Rep.keep fun b o hf ho=>⟨⟨hf,zZ ho⟩,by rw [mg.block b (zZ ho)];exact ho⟩).1 _ _ HT.out.2,zQ.2 ⟨_,_,rfl,zF.2 rfl,zQ.2 ⟨_,_,rfl,zF.2 rfl,zQ.2 ⟨_,_,rfl,ja.2 ⟨_,rfl⟩,zB.2 rfl⟩⟩⟩⟩⟩⟩⟩⟩⟩
   have HA:=gl (go bI (go dE (go bq cu)));clear bI dE bq cu bV bH mg
   go_wp2_with fail
   go_roundw
   case rel=>exact ⟨k+1,by omega,by go_num,a',c',_,rfl,HA.out.1,HA.out.2.1,HA.out.2.2.1,HA.out.2.2.2⟩
   case measure=>simp [intOf];omega
  ·obtain rfl:k=t.args.length:=by omega
   have z1:=HX.out.x0;have z2:=HX.out.x1;have z3:=HX.out.x2;have z4:=HX.out.x3
   have z5:(wr.alloc (.cells #[] 131)).cell? ⟨w.heap.size+1,0,none⟩=some (.slice ta t.args.length tc):=zJ z0
   have hzb:=HB.out.size
   have dR:Below w.heap.size w (wr.alloc (.cells #[] 131)):=HX.out.bel.alloc HX.out.bel.size _
   have AK:Rep (Fx F w 3) (wr.alloc (.cells #[] 131)) (.sl 94 9 (env.length+t.args.length) (za (env++zq n t.args))) (.slice a (env.length+t.args.length) c):=by
    have h0:=HR.out
    rw [List.take_length] at h0
    exact (HO.out.alloc _).rep (fun g hg=>.inr (by have:=HF.out g hg;omega)) ((Rep.keep fun b o hf ho=>⟨.inl hf,zV ho⟩).2 _ _ h0)
   have C2:=gl (HP.out.2.2.2.2.2.1 a c wr.heap.size _ dR (by rw [zK];omega) AK)
   have resX:zm (w.heap.size+2) 0 (.slice none 0 0) (.slice none 0 0) (wr.alloc (.cells #[] 131)):=zV HX.out.res
   have HY:=gl (go dR resX);clear dR AK resX
   go_wp2_with fail
   (with_reducible refine C2.out.mono ?_)
   rintro en w9 ⟨s9,v9,b1,m1,d1,b2,m2,d2,rfl,cB,tp,tM⟩
   have eZ:zm (w.heap.size+2) 0 (.slice none 0 0) (.slice none 0 0) w9:=HY.out.2.but cB (by show ¬ (w.heap.size+2=ww);omega)
   obtain ⟨r0,r1,r2,r3,rlt,rf⟩:=eZ.cells
   have fv:=rf 0;have mC:=rf 1;have mB:=rf 2;have mH:=rf 3
   have H9:=gl (go cB (go tp (go tM eZ)));clear cB tp tM eZ rf
   go_wp2_with fail
   obtain ⟨W4,cj,dC,dn,dl,di,_,my⟩:=H9.out.2.2.2.store (str s9) (.int .i64 v9) (.slice b1 m1 d1) (.slice b2 m2 d2)
   rw [<- cj]
   refine bodyPost_ret (v:=.agg #[str s9,.int .i64 v9,.slice b1 m1 d1,.slice b2 m2 d2]) (by simp [results,Tryz.results92,go_sem,dC,dn,dl,di]) rfl ?_
   have bU:But (· = ww) w w9:=(But.ofBelow HY.out.1).trans H9.out.1
   have cI:w.heap.size<=w.heap.size+2:=by omega
   refine ⟨s9,v9,b1,m1,d1,b2,m2,d2,rfl,?_,fun ho=>?_,fun x hx=>?_⟩
   ·rw [cj]
    exact (((bU.setCell (p:=⟨w.heap.size+2,0,none⟩) (.inr cI) _).setCell (p:=⟨w.heap.size+2,1,none⟩) (.inr cI) _).setCell (p:=⟨w.heap.size+2,2,none⟩) (.inr cI) _).setCell (p:=⟨w.heap.size+2,3,none⟩) (.inr cI) _
   ·obtain ⟨st,h1,h2⟩:=H9.out.2.1 ho
    exact ⟨st,my ww _ (by omega) h1,h2⟩
   ·obtain ⟨h1,h2⟩:=H9.out.2.2.1 x hx
    refine ⟨my ww _ (by omega) h1,(Rep.keep fun b ob hf hh=>?_).2 _ _ h2⟩
    rcases hf with (h | h) | h
    ·exact ⟨.inl h.1,my b _ (by have:=h.2;omega) hh⟩
    ·exact ⟨.inr (by omega),my b _ (by omega) hh⟩
    ·rw [zK] at h
     exact ⟨.inr (by omega),my b _ (by omega) hh⟩
structure gr (F:Nat->Prop) (ww d k l n:Nat) (H:List Ty) (b:Bd) (env:List Mn) (st:List WFr) (s0:Bs) (v0:Int) (a1 a2:Option Addr) (n1 c1 n2 c2:Nat) (ev sv:Value) (w:World):Prop where
 wri:Wri w ww (k:Nat) (20000-(l:Nat))
 hF:∀ i,F i->i≠ww
 ld:l<=d
 d20:d<=20000
 k200:k<=200
 fit:kn H b env (st.map WFr.gf)
 hn:H.length=n
 el:env.length+16*d<=1000000
 nl:n+16*d<=1000000
 stl:st.length+d<=40000
 ok:jo (1000000-16*d) env
 okg:okGs (1000000-16*d) (st.map WFr.gf)
 wf:wfB b/\vI env/\∀ f∈st.map WFr.gf,wfG f
 rb:zH F w (kE b) [str s0,.int .i64 v0,.slice a1 n1 c1,.slice a2 n2 c2]
 re:Rep F w (.sl 94 9 env.length (za env)) ev
 rs:Rep F w (.sl 131 6 st.length (jq st)) sv
def uF (d:Nat):Prop:=∀ (F:Nat->Prop) (ww k l n:Nat) (H:List Ty) (b:Bd) (env:List Mn) (st:List WFr) (s0:Bs) (v0:Int) (a1 a2:Option Addr) (n1 c1 n2 c2:Nat) (ev sv:Value) (w:World),
 gr F ww d k l n H b env st s0 v0 a1 a2 n1 c1 n2 c2 ev sv w ->
 Calls Tryz.prog 43 #[.pointer (some ⟨ww,0,none⟩),.agg #[str s0,.int .i64 v0,.slice a1 n1 c1,.slice a2 n2 c2],ev,sv,.int .i64 (n:Nat)] w
  (qe F ww (20001+20*d) (evN d k l b env n (st.map WFr.gf)) w)
theorem open_live (d:Nat) (ih:uF d) (F:Nat->Prop) (ww k l n:Nat) (H:List Ty) (t:Ty) (b:Bd) (env:List Mn) (s0:Bs) (v0:Int) (a1 a2:Option Addr) (n1 c1 n2 c2:Nat) (tv ev:Value) (w:World)
 (hw:Wri w ww (k:Nat) (20000-(l:Nat))) (hF:∀ i,F i->i≠ww) (mu:l<=d) (hd:d<=20000) (hk:k<=200) (cS:kn (H++t.args) b (env++zq H.length t.args) []) (hn:H.length=n) (ez:env.length+16*(d+1)<=1000000) (fb:n+16*(d+1)<=1000000) (rQ:zY t<=15)
 (cW:jo (1000000-16*(d+1)) env) (ht:Rep F w (qg t) tv) (hb:zH F w (kE b) [str s0,.int .i64 v0,.slice a1 n1 c1,.slice a2 n2 c2]) (he:Rep F w (.sl 94 9 env.length (za env)) ev) (hwf:wfB b/\vI env) :
 Calls Tryz.prog 92 #[.pointer (some ⟨ww,0,none⟩),.agg #[str s0,.int .i64 v0,.slice a1 n1 c1,.slice a2 n2 c2],.agg #[tv],ev,.int .i64 (n:Nat)] w (qe F ww (20001+20*d) (evN d k l b (env++zq n t.args) (n+t.args.length) []) w):=by
 have e_:=zj rQ
 have hww:=hw.cell.2.2.2
 refine open_any F ww _ _ t env n s0 v0 a1 a2 n1 c1 n2 c2 tv ev w ht he (by omega) e_.2 (by omega) hww ?_
 intro a c g wX dR hzX AK
 have hlen:(env++zq n t.args).length=env.length+t.args.length:=by rw [List.length_append,kJ]
 rw [<- Int.natCast_add]
 refine ih (Fx F w 3) ww k l (n+t.args.length) (H++t.args) b (env++zq n t.args) [] s0 v0 a1 a2 n1 c1 n2 c2 _ _ wX
  { wri:=hw.below dR,hF:=?_,ld:=mu,d20:=hd,k200:=hk,fit:=by rw [<- hn];exact cS,hn:=by rw [List.length_append,hn],el:=by rw [hlen];omega,nl:=by omega,stl:=by simp;omega,
    ok:=qJ _ _ (ze (by omega) _ cW) (qZ _ _ e_.1 (by omega)),okg:=trivial,wf:=⟨hwf.1,qH _ _ hwf.2 (qE _ _),by simp⟩,rb:=?_,re:=by rw [hlen];exact AK,rs:=zp.2 ⟨by simp [jq],_,_,rfl,g_ _,fun h=>by simp at h,.inl rfl⟩ }
 ·intro i hi e
  rcases hi with h | h
  ·exact hF i h.1 e
  ·omega
 ·exact (Rep.keep fun b o hf hh=>⟨.inl ⟨hf,zZ hh⟩,by rw [dR.block b (zZ hh)];exact hh⟩).2 _ _ hb
theorem open_dead (F:Nat->Prop) (ww n:Nat) (s:Int) (t:Ty) (env:List Mn) (s0:Bs) (v0:Int) (a1 a2:Option Addr) (n1 c1 n2 c2:Nat) (tv ev:Value) (w:World)
 (hw:Wri w ww (-1) s) (h0:0<=s) (h1:s<=1000000000) (ez:env.length<=1000000) (fb:n<=1000000) (rQ:zY t<=15) (ht:Rep F w (qg t) tv) (he:Rep F w (.sl 94 9 env.length (za env)) ev) :
 Calls Tryz.prog 92 #[.pointer (some ⟨ww,0,none⟩),.agg #[str s0,.int .i64 v0,.slice a1 n1 c1,.slice a2 n2 c2],.agg #[tv],ev,.int .i64 (n:Nat)] w (qe F ww (s+1) none w):=by
 refine open_any F ww _ _ t env n s0 v0 a1 a2 n1 c1 n2 c2 tv ev w ht he (by omega) (zj rQ).2 (by omega) hw.cell.2.2.2 ?_
 intro a c g wX dR hzX AK
 rw [<- Int.natCast_add]
 refine (pL ww s _ s0 v0 a1 a2 n1 c1 n2 c2 rfl _ _ _ wX (hw.below dR) h0 h1).mono ?_
 rintro en w' ⟨rfl,hb,dP⟩
 exact ⟨_,_,_,_,_,_,_,_,rfl,hb,fun _=>⟨_,dP,by omega,Int.le_refl _⟩,fun x h=>by simp at h⟩
theorem evN_left (d k l:Nat) (b:Bd) (env:List Mn) (n:Nat) (st:List Gf) (r:Bd) (k' l':Nat) (h:evN d k l b env n st=some (r,k',l')):k'<=k/\l'<=l:=by
 rw [evN_eq] at h
 cases hq:Go.Proofs.YtepgfdhkkjfmhacGreatDoor.ev d l b env n st with
 | none=>rw [hq] at h;simp [uf] at h
 | some x =>
   obtain ⟨o,l1⟩:=x
   rw [hq] at h
   simp only [uf] at h
   split at h
   ·simp at h
    obtain ⟨_,rfl,rfl⟩:=h
    exact ⟨Nat.sub_le _ _,ev_left _ _ _ _ _ _ _ _ hq⟩
   ·simp at h
theorem xk (f:Nat->Nat->Bd->List Mn->Nat->List Gf->Option (Bd×Nat×Nat)) (env:List Mn) (n:Nat) (t:Ty) (s:Bd):∀ (ts:List Ty) (ss:List Bd) (k l:Nat),ts.length=ss.length ->
 zg f env n k l (ts++[t]) (ss++[s])=(zg f env n k l ts ss).bind fun x=>(f x.2.1 x.2.2 s (env++zq n t.args) (n+t.args.length) []).bind fun y=>some (x.1++[y.1],y.2.1,y.2.2)
 | [],[],k,l,_=>by
   simp only [List.nil_append,zg,Option.bind_eq_bind,Option.bind_some]
 | [],s'::ss,k,l,h=>by simp at h
 | t'::ts,[],k,l,h=>by simp at h
 | t'::ts,s'::ss,k,l,h=>by
   simp only [List.cons_append,zg,Option.bind_eq_bind]
   cases h1:f k l s' (env++zq n t'.args) (n+t'.args.length) [] with
   | none=>rfl
   | some x =>
     simp only [Option.bind_some]
     rw [xk f env n t s ts ss x.2.1 x.2.2 (by simpa using h)]
     cases h2:zg f env n x.2.1 x.2.2 ts ss with
     | none=>rfl
     | some y =>
       simp only [Option.bind_some]
       cases h3:f y.2.1 y.2.2 s (env++zq n t.args) (n+t.args.length) [] with
       | none=>rfl
       | some z=>rfl
theorem xz {f:Nat->Nat->Bd->List Mn->Nat->List Gf->Option (Bd×Nat×Nat)} {env:List Mn} {n k l j:Nat} {ts:List Ty} {ss:List Bd} {t:Ty} {s:Bd} (ht:ts[j]? = some t) (hs:ss[j]? = some s) :
 zg f env n k l (ts.take (j+1)) (ss.take (j+1))=(zg f env n k l (ts.take j) (ss.take j)).bind fun x=>(f x.2.1 x.2.2 s (env++zq n t.args) (n+t.args.length) []).bind fun y=>some (x.1++[y.1],y.2.1,y.2.2):=by
 have h1:=(List.getElem?_eq_some_iff.1 ht).1
 have h2:=(List.getElem?_eq_some_iff.1 hs).1
 rw [List.take_add_one,List.take_add_one,ht,hs]
 exact xk f env n t s _ _ k l (by rw [List.length_take,List.length_take];omega)
theorem up {f:Nat->Nat->Bd->List Mn->Nat->List Gf->Option (Bd×Nat×Nat)} {env:List Mn} {n:Nat}:∀ (j:Nat) (ts:List Ty) (ss:List Bd) (k l:Nat),zg f env n k l (ts.take j) (ss.take j)=none->zg f env n k l ts ss=none
 | 0,ts,ss,k,l,h=>by simp [zg] at h
 | j+1,[],ss,k,l,h=>by simp [zg] at h
 | j+1,t::ts,[],k,l,h=>by simp [zg] at h
 | j+1,t::ts,s::ss,k,l,h=>by
   simp only [List.take_succ_cons,zg,Option.bind_eq_bind] at h ⊢
   cases h1:f k l s (env++zq n t.args) (n+t.args.length) [] with
   | none=>rfl
   | some x =>
     rw [h1] at h
     simp only [Option.bind_some] at h ⊢
     cases h2:zg f env n x.2.1 x.2.2 (ts.take j) (ss.take j) with
     | none=>rw [up j ts ss x.2.1 x.2.2 h2];rfl
     | some y=>rw [h2] at h;simp at h
def vp (d k l n o:Nat) (t:Ty) (ss:List Bd) (y no:Bd) (env:List Mn) (st:List Gf):Option (Bd×Nat×Nat) :=
 (zg (evN d) env n k l t.args ss).bind fun x=>(evN d x.2.1 x.2.2 y env n st).bind fun z=>(evN d z.2.1 z.2.2 no env n st).bind fun u=>some (.ask o x.1 z.1 u.1,u.2.1,u.2.2)
theorem evN_op {d k l v n o:Nat} {ss:List Bd} {y no:Bd} {t:Ty} {env:List Mn} {st:List Gf} (h:env[v]? = some (.op o t)) :
 evN (d+1) (k+1) (l+1) (.ask v ss y no) env n st=vp d k l n o t ss y no env st:=by rw [evN.eq_def];simp only [h];rfl
theorem evN_bd {d k l v n:Nat} {ss:List Bd} {y no b':Bd} {t:Ty} {env e:List Mn} {st:List Gf} (h:env[v]? = some (.bd t b' e)) :
 evN (d+1) (k+1) (l+1) (.ask v ss y no) env n st=evN d (k+1) l b' (e++kL env t.args ss) n (⟨y,no,env⟩::st):=by rw [evN.eq_def];simp only [h]
theorem evN_u {d k l n:Nat} {env:List Mn} {st:List Gf}:evN (d+1) (k+1) (l+1) (.leaf 117) env n st=some (.leaf 117,k,l):=by rw [evN.eq_def];simp
theorem evN_end {d k l n:Nat} {c:UInt8} {env:List Mn}:evN (d+1) (k+1) (l+1) (.leaf c) env n []=some (.leaf c,k,l):=by rw [evN.eq_def];simp
theorem evN_back {d k l n:Nat} {c:UInt8} (h:c≠117) {env:List Mn} {f:Gf} {st:List Gf}:evN (d+1) (k+1) (l+1) (.leaf c) env n (f::st)=evN d (k+1) l (if c=116 then f.yes else f.no) f.env n st:=by rw [evN.eq_def];simp only [if_neg h]
theorem evN_zl {d k n:Nat} {b:Bd} {env:List Mn} {st:List Gf}:evN d k 0 b env n st=none:=by cases d <;> rw [evN.eq_def]
theorem evN_zk {d l n:Nat} {b:Bd} {env:List Mn} {st:List Gf}:evN d 0 l b env n st=none:=by
 cases d with
 | zero=>rw [evN.eq_def]
 | succ d=>cases l <;> rw [evN.eq_def]
theorem bound_at {F:Nat->Prop} {w:World} {env:List Mn} {ev:Value} (h:Rep F w (.sl 94 9 env.length (za env)) ev) {v:Nat} {m:Mn} (hc:env[v]? = some m) :
 ∃ b o cap us,ev=.slice (some ⟨b,o,none⟩) env.length cap/\F b/\b<w.heap.size/\(∀ (j:Nat) (u:Value),us[j]? = some u->w.cell? ⟨b,o+v*9+j,none⟩=some u)/\zH F w (xj m) us:=by
 have hv:=(List.getElem?_eq_some_iff.1 hc).1
 rw [zp] at h
 obtain ⟨hl,a,cap,rfl,hn,hz,h⟩:=h
 rcases h with h0 | ⟨b,o,cs,fr,rfl,hb,hcs,hr⟩
 ·omega
 have mT:za env=za (env.take v)++(xj m++za (env.drop (v+1))):=by
  have e:env=env.take v++m::env.drop (v+1):=by
   have:env[v]=m:=(List.getElem?_eq_some_iff.1 hc).2
   rw [<- this,List.getElem_cons_drop,List.take_append_drop]
  conv=>lhs;rw [e]
  rw [qx,za]
 rw [mT] at hr
 have h2:=hr.split.2
 rw [xq,List.length_take,Nat.min_eq_left (by omega)] at h2
 have h3:=h2.split.1
 rw [yM] at h3
 refine ⟨b,o,cap,_,rfl,hb,zZ hcs,fun j u h=>?_,h3⟩
 rw [List.getElem?_take] at h
 split at h
 ·rename_i hj
  rw [List.getElem?_drop,List.getElem?_take,if_pos (by omega),List.getElem?_drop] at h
  simp only [World.cell?,hcs]
  simpa [Nat.add_assoc] using h
 ·simp at h
theorem bound_op {F:Nat->Prop} {w:World} {env:List Mn} {ev:Value} (h:Rep F w (.sl 94 9 env.length (za env)) ev) {v o:Nat} {t:Ty} (hc:env[v]? = some (.op o t)) :
 ∃ b p cap ta tc i,ev=.slice (some ⟨b,p,none⟩) env.length cap/\F b/\b<w.heap.size/\w.cell? ⟨b,p+v*9,none⟩=some (.int .i64 (o:Nat))/\w.cell? ⟨b,p+v*9+1,none⟩=some (str [])/\w.cell? ⟨b,p+v*9+2,none⟩=some (.int .i64 0) /\
   w.cell? ⟨b,p+v*9+3,none⟩=some (.slice none 0 0)/\w.cell? ⟨b,p+v*9+4,none⟩=some (.slice none 0 0)/\w.cell? ⟨b,p+v*9+5,none⟩=some (.slice ta t.args.length tc)/\w.cell? ⟨b,p+v*9+6,none⟩=some (.slice none 0 0) /\
   w.cell? ⟨b,p+v*9+7,none⟩=some (.int .i64 0)/\w.cell? ⟨b,p+v*9+8,none⟩=some (.int .i64 i)/\Rep F w (qg t) (.slice ta t.args.length tc):=by
 obtain ⟨b,p,cap,us,rfl,hb,hw,get,hr⟩:=bound_at h hc
 simp only [xj,zQ,zB,zF,ja] at hr
 obtain ⟨_,_,rfl,rfl,_,_,rfl,rfl,_,_,rfl,rfl,_,_,rfl,rfl,_,_,rfl,rfl,x1,_,rfl,q1,_,_,rfl,rfl,_,_,rfl,rfl,x3,_,rfl,⟨i3,rfl⟩,rfl⟩:=hr
 obtain ⟨sa,sc,rfl⟩:=zu q1
 exact ⟨b,p,cap,sa,sc,i3,rfl,hb,hw,get 0 _ rfl,get 1 _ rfl,get 2 _ rfl,get 3 _ rfl,get 4 _ rfl,get 5 _ rfl,get 6 _ rfl,get 7 _ rfl,get 8 _ rfl,q1⟩
theorem bound_bd {F:Nat->Prop} {w:World} {env:List Mn} {ev:Value} (h:Rep F w (.sl 94 9 env.length (za env)) ev) {v:Nat} {t:Ty} {b':Bd} {e':List Mn} (hc:env[v]? = some (.bd t b' e')) :
 ∃ b p cap ta tc s v1 a1 m1 c1 a2 m2 c2 ha hcap i,ev=.slice (some ⟨b,p,none⟩) env.length cap/\F b/\b<w.heap.size/\w.cell? ⟨b,p+v*9,none⟩=some (.int .i64 (-1))/\w.cell? ⟨b,p+v*9+1,none⟩=some (str s)/\w.cell? ⟨b,p+v*9+2,none⟩=some (.int .i64 v1) /\
   w.cell? ⟨b,p+v*9+3,none⟩=some (.slice a1 m1 c1)/\w.cell? ⟨b,p+v*9+4,none⟩=some (.slice a2 m2 c2)/\w.cell? ⟨b,p+v*9+5,none⟩=some (.slice ta t.args.length tc)/\w.cell? ⟨b,p+v*9+6,none⟩=some (.slice ha e'.length hcap) /\
   w.cell? ⟨b,p+v*9+7,none⟩=some (.int .i64 0)/\w.cell? ⟨b,p+v*9+8,none⟩=some (.int .i64 i)/\Rep F w (qg t) (.slice ta t.args.length tc)/\zH F w (kE b') [str s,.int .i64 v1,.slice a1 m1 c1,.slice a2 m2 c2]/\Rep F w (.sl 94 9 e'.length (za e')) (.slice ha e'.length hcap):=by
 obtain ⟨b,p,cap,us,rfl,hb,hw,get,hr⟩:=bound_at h hc
 rw [xj] at hr
 obtain ⟨x0,us1,rfl,h0,h1⟩:=zQ.1 (show zH F w (.val (.int .i64 (-1))::(kE b'++[qg t,.sl 94 9 e'.length (za e'),.val (.int .i64 (0:Nat)),.any])) us from hr)
 rw [zF] at h0
 subst h0
 obtain ⟨h2,h3⟩:=h1.split
 rw [jA] at h2 h3
 obtain ⟨v1,m2,c2,m3,c3,e4,_,_⟩:=jg h2
 simp only [zQ,zB,zF,ja] at h3
 obtain ⟨y1,_,e5,q1,y2,_,rfl,q2,_,_,rfl,rfl,y4,_,rfl,⟨i4,rfl⟩,rfl⟩:=h3
 obtain ⟨sa,sc,rfl⟩:=zu q1
 obtain ⟨_,ha,hcap,rfl,_⟩:=zp.1 q2
 rw [e4] at h2
 have eu:us1=[str (vo b'),.int .i64 v1,.slice m2 (jW b').length c2,.slice m3 (vQ b').length c3]++[.slice sa t.args.length sc,.slice ha e'.length hcap,.int .i64 (0:Nat),.int .i64 i4]:=by
  rw [<- List.take_append_drop 4 us1,e4,e5]
 subst eu
 exact ⟨b,p,cap,sa,sc,_,_,_,_,_,_,_,_,_,_,i4,rfl,hb,hw,get 0 _ rfl,get 1 _ rfl,get 2 _ rfl,get 3 _ rfl,get 4 _ rfl,get 5 _ rfl,get 6 _ rfl,get 7 _ rfl,get 8 _ rfl,q1,h2,q2⟩
theorem uZ {F:Nat->Prop} {ww:Nat} {D:Int} {o:Option (Bd×Nat×Nat)} {w W:World} {s:Bs} {v:Int} {a1 a2:Option Addr} {n1 c1 n2 c2:Nat}
 (hb:But (· = ww) w W) (hww:ww<w.heap.size) (hr:zm (w.heap.size+1) 0 (.slice none 0 0) (.slice none 0 0) W)
 (hn:o=none->∃ st,Wri W ww (-1) st/\0<=st/\st<=D)
 (hy:∀ x,o=some x->Wri W ww (x.2.1:Nat) (20000-(x.2.2:Nat))/\zH (fun i=>(F i/\i<w.heap.size)\/w.heap.size+2<=i) W (kE x.1) [str s,.int .i64 v,.slice a1 n1 c1,.slice a2 n2 c2]) :
 ∃ W4,W4=((((W.setCell ⟨w.heap.size+1,0,none⟩ (str s)).setCell ⟨w.heap.size+1,1,none⟩ (.int .i64 v)).setCell ⟨w.heap.size+1,2,none⟩ (.slice a1 n1 c1)).setCell ⟨w.heap.size+1,3,none⟩ (.slice a2 n2 c2)) /\
   W4.cell? ⟨w.heap.size+1,0,none⟩=some (str s)/\W4.cell? ⟨w.heap.size+1,1,none⟩=some (.int .i64 v)/\W4.cell? ⟨w.heap.size+1,2,none⟩=some (.slice a1 n1 c1)/\W4.cell? ⟨w.heap.size+1,3,none⟩=some (.slice a2 n2 c2) /\
   qe F ww D o w (.returned (.agg #[str s,.int .i64 v,.slice a1 n1 c1,.slice a2 n2 c2])) W4:=by
 obtain ⟨W4,cj,dC,dn,dl,di,_,hk⟩:=hr.store (str s) (.int .i64 v) (.slice a1 n1 c1) (.slice a2 n2 c2)
 have cI:w.heap.size<=w.heap.size+1:=by omega
 refine ⟨W4,cj,dC,dn,dl,di,s,v,a1,n1,c1,a2,n2,c2,rfl,?_,fun ho=>?_,fun x hx=>?_⟩
 ·rw [cj]
  exact (((hb.setCell (p:=⟨w.heap.size+1,0,none⟩) (.inr cI) _).setCell (p:=⟨w.heap.size+1,1,none⟩) (.inr cI) _).setCell (p:=⟨w.heap.size+1,2,none⟩) (.inr cI) _).setCell (p:=⟨w.heap.size+1,3,none⟩) (.inr cI) _
 ·obtain ⟨st,h1,h2⟩:=hn ho
  exact ⟨st,hk ww _ (by omega) h1,h2⟩
 ·obtain ⟨h1,h2⟩:=hy x hx
  refine ⟨hk ww _ (by omega) h1,(Rep.keep fun b ob hf hh=>?_).2 _ _ h2⟩
  rcases hf with h | h
  ·exact ⟨.inl h.1,hk b _ (by have:=h.2;omega) hh⟩
  ·exact ⟨.inr (by omega),hk b _ (by omega) hh⟩
theorem top_rep {F:Nat->Prop} {w:World} {f:WFr} {st:List WFr} {sv:Value} (h:Rep F w (.sl 131 6 (st.length+1) (jq (f::st))) sv) :
 ∃ b o cap fO fI fg eL ea ec,sv=.slice (some ⟨b,o,none⟩) (st.length+1) cap/\F b/\b<w.heap.size/\st.length+1<=cap/\w.cell? ⟨b,o+st.length*6,none⟩=some (str [])/\w.cell? ⟨b,o+st.length*6+1,none⟩=some (.int .i64 (f.v:Nat)) /\
   w.cell? ⟨b,o+st.length*6+2,none⟩=some (.slice fO f.ss.length fI)/\w.cell? ⟨b,o+st.length*6+3,none⟩=some (.slice fg 2 eL)/\w.cell? ⟨b,o+st.length*6+4,none⟩=some (.slice ea f.env.length ec)/\w.cell? ⟨b,o+st.length*6+5,none⟩=some (.int .i64 0) /\
   Rep F w (.sl 46 4 2 (zn [f.yes,f.no])) (.slice fg 2 eL)/\Rep F w (.sl 94 9 f.env.length (za f.env)) (.slice ea f.env.length ec) /\
   Rep F w (.sl 131 6 st.length (jq st)) (.slice (some ⟨b,o,none⟩) st.length cap):=by
 rw [zp] at h
 obtain ⟨hl,a,cap,rfl,hn,hz,h⟩:=h
 rcases h with h0 | ⟨b,o,cs,fr,rfl,hb,hcs,hr⟩
 ·omega
 rw [jq] at hr
 obtain ⟨h1,h2⟩:=hr.split
 rw [ug] at h1 h2
 rw [List.take_take,Nat.min_eq_left (by omega)] at h1
 have get:∀ (j:Nat) (u:Value),(List.drop (st.length*6) (List.take ((st.length+1)*6) (List.drop o cs.toList)))[j]? = some u->w.cell? ⟨b,o+st.length*6+j,none⟩=some u:=by
  intro j u hu
  rw [List.getElem?_drop,List.getElem?_take] at hu
  split at hu
  ·rw [List.getElem?_drop] at hu
   simp only [World.cell?,hcs]
   simpa [Nat.add_assoc] using hu
  ·simp at hu
 generalize List.drop (st.length*6) (List.take ((st.length+1)*6) (List.drop o cs.toList))=us at h2 get
 rw [encF,j9] at h2
 simp only [List.cons_append,List.nil_append,zQ,zB,zF] at h2
 obtain ⟨_,_,rfl,rfl,_,_,rfl,rfl,x2,_,rfl,q2,x3,_,rfl,q3,x4,_,rfl,q4,_,_,rfl,rfl,rfl⟩:=h2
 obtain ⟨_,fO,fI,e1,_⟩:=zp.1 q2
 obtain ⟨_,fg,eL,e2,_⟩:=zp.1 q3
 obtain ⟨_,ea,ec,e3,_⟩:=zp.1 q4
 subst e1;subst e2;subst e3
 exact ⟨b,o,cap,fO,fI,fg,eL,ea,ec,rfl,hb,zZ hcs,hn,get 0 _ rfl,get 1 _ rfl,get 2 _ rfl,get 3 _ rfl,get 4 _ rfl,get 5 _ rfl,q3,q4,zp.2 ⟨ug st,_,cap,rfl,by omega,fun h=>by simp at h,.inr ⟨b,o,cs,fr,rfl,hb,hcs,h1⟩⟩⟩
end Go.Proofs.YtepgfdhkkjfmhacGreatDoor

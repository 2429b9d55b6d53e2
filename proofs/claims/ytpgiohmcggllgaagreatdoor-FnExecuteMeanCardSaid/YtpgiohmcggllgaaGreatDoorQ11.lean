/- Walks. -/
import Derived.Test.YtpgiohmcggllgaaGreatDoorQ9
set_option linter.unusedVariables false
set_option linter.unusedSimpArgs false
set_option maxHeartbeats 4000000
set_option maxRecDepth 100000
open Go.Proofs.Tryz renaming prog->KD,underlying142->OE
open Go.Value renaming oneCell'->Of,ownBlock->N7,slice->Nq
open Go.World renaming cell?->GD
open Int renaming natCast_add->Pm
open List renaming append_assoc->OF,append_nil->Ov,cons_append->Oe,drop->QA,getElem?_drop->Pd,getElem?_eq_some_iff->N6,getElem?_take->Pc,length_append->NZ,length_singleton->R5,length_take->PG,mem_append->Oy,mem_cons->Om,nil_append->OB,not_mem_nil->O0,take->Ud,take_add_one->OG,take_append_drop->OH,take_length->Oh,take_zero->QS
open Nat renaming add_assoc->Te,min_eq_left->RI,zero_le->Og
open Option renaming bind_eq_bind->NX,bind_some->Mm,map_eq_some_iff->N3
namespace Go.Proofs.YtpgiohmcggllgaaGreatDoor
open Go.RowKit
mutual
def dJ:Mn->List DV
 | .op o t=>[.val (.int .i64 (o:Nat)),.val (str []),.val (.int .i64 0),.val (.slice none 0 0),.val (.slice none 0 0),ke t,.val (.slice none 0 0),.val (.int .i64 0),.any]
 | .bd t b env=>[.val (.int .i64 (-1))]++(kL b++[ke t,.sl 145 9 env.length (qK env),.val (.int .i64 (0:Nat)),.any])
def qK:List Mn->List DV
 | []=>[]
 | x::xs=>dJ x++qK xs
end
theorem gG (x:Mn):(dJ x).length=9:=by cases x <;> simp [dJ,vN]
theorem dQ:∀ xs:List Mn,(qK xs).length=xs.length*9
 | []=>by simp [qK]
 | x::xs=>by rw [qK,NZ,gG,dQ xs];simp;omega
theorem vI:∀ (xs ys:List Mn),qK (xs++ys)=qK xs++qK ys
 | [],ys=>by simp [qK]
 | x::xs,ys=>by simp [qK,vI xs ys]
theorem vw {F:Nat->Prop} {w:World}:∀ (xs:List Mn) (us:List Value),zW F w (qK xs) us->∀ u∈us,u.oneCell'=true
 | [],us,h,u,hu=>by rw [qK,zC] at h;subst h;simp at hu
 | x::xs,us,h,u,hu=>by
   rw [qK] at h;obtain ⟨h1,h2⟩:=h.split;rw [gG] at h1 h2;rw [<- OH 9 us] at hu;rcases Oy.1 hu with hu | hu
   ·cases x with
    | op o t =>
      simp only [dJ,zQ,zC,zH,yg] at h1;obtain ⟨_,_,e,rfl,_,_,rfl,rfl,_,_,rfl,rfl,_,_,rfl,rfl,_,_,rfl,rfl,x1,_,rfl,q1,_,_,rfl,rfl,_,_,rfl,rfl,x3,_,rfl,⟨i3,rfl⟩,rfl⟩:=h1;obtain ⟨sa,sc,rfl⟩:=kU q1;rw [e] at hu;simp only [Om,O0,or_false] at hu;rcases hu with rfl | rfl | rfl | rfl | rfl | rfl | rfl | rfl | rfl
      all_goals first | rfl | assumption
    | bd t b env =>
      rw [dJ] at h1;obtain ⟨k1,k2⟩:=h1.split;obtain ⟨k3,k4⟩:=k2.split;rw [<- OH 1 (us.take 9)] at hu;rcases Oy.1 hu with hu | hu
      ·simp only [R5,zQ,zC,zH] at k1;obtain ⟨_,_,e,rfl,rfl⟩:=k1;rw [e] at hu;simp at hu;subst hu;rfl
      ·rw [vN] at k3 k4;simp only [R5] at k3 k4;rw [<- OH 4 (QA 1 (us.take 9))] at hu;rcases Oy.1 hu with hu | hu
       ·exact oneCell_encN k3 u hu
       ·simp only [zQ,zC,yg,zH] at k4;obtain ⟨x0,_,e,q1,x1,_,rfl,q2,_,_,rfl,rfl,x3,_,rfl,⟨i3,rfl⟩,rfl⟩:=k4;rw [e] at hu;obtain ⟨sa,sc,rfl⟩:=kU q1;rw [zg] at q2;obtain ⟨_,a,c,rfl,_⟩:=q2;simp only [Om,O0,or_false] at hu;rcases hu with rfl | rfl | rfl | rfl
        all_goals first | rfl | assumption
   ·exact vw xs _ h2 u hu
def HandWPost (F:Nat->Prop) (hand:List Mn) (own:List Mn) (w:World) (en:Ending) (w':World):Prop :=
 ∃ a c,en=.returned (.slice a (hand.length+own.length) c)/\Below w.heap.size w w'/\Rep (fun i=>F i\/w.heap.size<=i) w' (.sl 145 9 (hand.length+own.length) (qK (hand++own))) (.slice a (hand.length+own.length) c)
theorem cX (F:Nat->Prop) (hand env:List Mn) (ss:List Bd) (t:Ty) (hv kv tv ev:Value) (w:World) (hh:Rep F w (.sl 145 9 hand.length (qK hand)) hv) (hk:Rep F w (.sl 47 4 ss.length (zh ss)) kv)
 (ht:Rep F w (ke t) tv) (he:Rep F w (.sl 145 9 env.length (qK env)) ev) (hl:hand.length<=10000000) (hs:ss.length=t.args.length) (hs16:ss.length<=16) :
 Calls KD 112 #[hv,kv,.agg #[tv],ev,.int .i64 (0:Nat)] w (HandWPost F hand (jZ env t.args ss) w):=by
 obtain ⟨xs1,l_,g1⟩:=zq.ofRep hh (vw _);obtain ⟨a1,c1,e1⟩:=g1.slice;subst e1;obtain ⟨ka,kc,e,JZ⟩:=bH.of hk;subst e;have tE:=ht;rw [q_] at tE;obtain ⟨ta,tc,e,_,_,iG⟩:=zP tE;subst e;obtain ⟨ea,ec,e⟩:∃ a c,ev=.slice a env.length c:=by have h:=he;rw [zg] at h;obtain ⟨_,a,c,e,_⟩:=h;exact ⟨a,c,e⟩
 subst e;have H:=mj (mu l_ (mu g1 (mu JZ (mu iG (mu he hs)))));clear l_ g1 JZ iG he hs hh hk ht tE;have iB:(jZ env t.args ss).length=ss.length:=(wS _ _ H.out.2.2.2.2.2).trans H.out.2.2.2.2.2.symm;have HOL:=mj iB;clear iB;go_enter Tryz.func112,Tryz.ntmps112;go_wp2_with (at_builtin;refine zE rfl _ _ 142 rfl 145 (.agg #[.int .i64 0,str [],.int .i64 0,.slice none 0 0,.slice none 0 0,.slice none 0 0,.slice none 0 0,.int .i64 0,.int .i64 0]) 9 144 OE Tryz.infoBo rfl (by decide) (.slice (some ⟨w.heap.size+1,0,none⟩) 0 0) 0 [] rfl ?c1 _ hand.length xs1 rfl ?c2 ?c3 ?c4 ?_)
 case c1=>exact Own.litAt #[] 0 _ (by simp) (by decide) rfl
 case c2=>exact (H.out.2.1.alloc _).alloc _
 case c3=>unfold maxLen;omega
 case c4=>omega
 intro ax cx wx hox aF hgx;obtain ⟨a_,hfx⟩:=vT (w:=w.alloc (.cells #[.slice ta t.args.length tc] 42)) ((mw _ _).alloc (my _) _) (p_ (by simp)) aF (fun g h=>by have:=hgx g h;simpa only [zK] using this);have tY:Below w.heap.size w (w.alloc (.cells #[.slice ta t.args.length tc] 42)):=(mw _ _).alloc (my _) _;have MH:Below w.heap.size w wx:=tY.trans (a_.mono (by rw [zK];omega));have hcx:wx.cell? ⟨w.heap.size,0,none⟩=some (.slice ta t.args.length tc):=by rw [a_.cell (p:=⟨w.heap.size,0,none⟩) (by rw [zK];simp)];simp
 have Ml:∀ g,(Nq ax hand.length cx).ownBlock=some g->w.heap.size+1<=g:=fun g hg=>by have:=hfx g hg;rwa [zK] at this
 have HX:=mj (mu hox (mu MH (mu hcx Ml)));clear hox aF hgx a_ hfx tY MH hcx Ml;go_wp2_with fail
 go_loopw [12,11] (fun i o wr=>∃ (k:Nat) (a':Option Addr) (c':Nat) (cells:List Value),k<=ss.length/\i=.int .i64 k/\o=.slice a' (hand.length+k) c'/\Own wr 145 9 (.slice a' (hand.length+k) c') (hand.length+k) cells /\
  zW (fun i=>F i/\(Nq a' (hand.length+k) c').ownBlock≠some i) wr (qK (hand++(jZ env t.args ss).take k)) cells/\Below w.heap.size w wr/\wr.cell? ⟨w.heap.size,0,none⟩=some (.slice ta t.args.length tc)/\(∀ g,(Nq a' (hand.length+k) c').ownBlock=some g->w.heap.size+1<=g)) (fun i _ _=>ss.length-(intOf i).toNat)
 case atStart =>
  refine ⟨0,ax,cx,xs1,Og _,rfl,rfl,HX.out.1,?_,HX.out.2.1,HX.out.2.2.1,HX.out.2.2.2⟩;rw [QS,Ov];exact (Rep.keep fun b o hf ho=>⟨⟨hf,fun e=>by have h1:w.heap.size+1<=b:=HX.out.2.2.2 b e;have:=zZ ho;omega⟩,by rw [HX.out.2.1.block b (zZ ho)];exact ho⟩).2 _ _ H.out.1
 case round =>
  obtain ⟨k,a',c',cells,hk,rfl,rfl,ho,hr,hb,hc,hf⟩:=hrel;have HR:=mj (mu ho (mu hr (mu hb hf)));clear ho hr hb hf;by_cases m_:k<ss.length
  ·obtain ⟨kb,ko,s',v',a2,n2,c2,a3,n3,c3,d,e,aL,hd,k0,k1,k2,k3,lP⟩:=H.out.2.2.1 k m_;subst e;have GZ:k<t.args.length:=by have:=H.out.2.2.2.2.2;omega
   obtain ⟨bt,ot,ut,dt,e,_,tw,hdt,MB,rU⟩:=H.out.2.2.2.1 k GZ;subst e;rw [v_,N3] at hdt;obtain ⟨tk,An,rfl⟩:=hdt;obtain ⟨ua,uc,rfl⟩:=kU rU;have q0:=(HR.out.2.2.1.cell (p:=⟨kb,ko+k*4,none⟩) aL).trans k0;have q1:=(HR.out.2.2.1.cell (p:=⟨kb,ko+k*4+1,none⟩) aL).trans k1;have q2:=(HR.out.2.2.1.cell (p:=⟨kb,ko+k*4+2,none⟩) aL).trans k2;have q3:=(HR.out.2.2.1.cell (p:=⟨kb,ko+k*4+3,none⟩) aL).trans k3;have q4:=(HR.out.2.2.1.cell (p:=⟨bt,ot+k,none⟩) tw).trans MB;have HK:=mj (mu hd (mu lP (mu An rU)));clear hd lP An rU k0 k1 k2 k3 MB;have rF:(k:Int)<(ss.length:Int):=by omega
   have hkt':(k:Int)<(t.args.length:Int):=by omega
   have h09:0<9:=by omega
   have iv:hand.length+k+1<=maxLen:=by unfold maxLen;omega
   have sT:(hand.length+k+1)*144<=140737488355328:=by omega
   have F2:=(zq.lit1 (w:=wr) (e:=145) #[.int .i64 (-1),str s',.int .i64 v',.slice a2 n2 c2,.slice a3 n3 c3,.slice ua tk.args.length uc,.slice ea env.length ec,.int .i64 (0:Nat),.int .i64 (k:Nat)] rfl (by simp [str,Of]) _ rfl).drew;have HL:=mj F2;clear F2;have hrw:∀ g,(Nq a' (hand.length+k) c').ownBlock=some g->g<wr.heap.size:=fun g hg=>HR.out.1.lt hg
   have SIX:Hid (∀ w7:World,But (fun b=>(Nq a' (hand.length+k) c').ownBlock=some b) (wr.alloc (.cells #[.int .i64 (-1),str s',.int .i64 v',.slice a2 n2 c2,.slice a3 n3 c3,.slice ua tk.args.length uc,.slice ea env.length ec,.int .i64 (0:Nat),.int .i64 (k:Nat)] 145)).drew w7 ->
    w7.cell? ⟨kb,ko+k*4,none⟩=some (str s')/\w7.cell? ⟨kb,ko+k*4+1,none⟩=some (.int .i64 v')/\w7.cell? ⟨kb,ko+k*4+2,none⟩=some (.slice a2 n2 c2)/\w7.cell? ⟨kb,ko+k*4+3,none⟩=some (.slice a3 n3 c3)/\w7.cell? ⟨bt,ot+k,none⟩=some (.slice ua tk.args.length uc)/\w7.cell? ⟨w.heap.size,0,none⟩=some (.slice (some ⟨bt,ot,none⟩) t.args.length tc)):=by
    show ∀ w7:World,_->_;intro w7 mo;have hz:=HR.out.2.2.1.size;have key:∀ (p:Addr) (u:Value),p.block<w.heap.size+1->wr.cell? p=some u->w7.cell? p=some u:=by
     intro p u hp hu;have h1:(wr.alloc (.cells #[.int .i64 (-1),str s',.int .i64 v',.slice a2 n2 c2,.slice a3 n3 c3,.slice ua tk.args.length uc,.slice ea env.length ec,.int .i64 (0:Nat),.int .i64 (k:Nat)] 145)).drew.cell? p=some u:=zV hu;exact (mo.cell (mx _ _ h1) (fun e=>by have:=HR.out.2.2.2 _ e;omega)).trans h1
    exact ⟨key _ _ (by simp only;omega) q0,key _ _ (by simp only;omega) q1,key _ _ (by simp only;omega) q2,key _ _ (by simp only;omega) q3,key _ _ (by simp only;omega) q4,key _ _ (by simp only;omega) hc⟩
   go_wp2_with fail
   go_region_held3 (fun w'=>w'.cell? ⟨kb,ko+k*4,none⟩=some (str s')/\w'.cell? ⟨kb,ko+k*4+1,none⟩=some (.int .i64 v')/\w'.cell? ⟨kb,ko+k*4+2,none⟩=some (.slice a2 n2 c2)/\w'.cell? ⟨kb,ko+k*4+3,none⟩=some (.slice a3 n3 c3)/\w'.cell? ⟨bt,ot+k,none⟩=some (.slice ua tk.args.length uc)/\w'.cell? ⟨w.heap.size,0,none⟩=some (.slice (some ⟨bt,ot,none⟩) t.args.length tc))
    (first
     | exact ⟨q0,q1,q2,q3,q4,hc⟩
     | exact DP
     | go_keep)
    (first
     | (refine zS (by rfl) _ _ _ (by rfl) 145 (.agg #[.int .i64 0,str [],.int .i64 0,.slice none 0 0,.slice none 0 0,.slice none 0 0,.slice none 0 0,.int .i64 0,.int .i64 0]) 9 144 OE Tryz.infoBo rfl h09 (.slice a' (hand.length+k) c') (hand.length+k) cells (by rfl) (HR.out.1.alloc _).drew _ 1 [.int .i64 (-1),str s',.int .i64 v',.slice a2 n2 c2,.slice a3 n3 c3,.slice ua tk.args.length uc,.slice ea env.length ec,.int .i64 (0:Nat),.int .i64 (k:Nat)] (by rfl) HL.out iv sT ?_;intro a7 c7 w7 nL mo nG;have DP:=SIX.out w7 mo))
   have hz:=HR.out.2.2.1.size;have sj:∀ g,(Nq a7 (hand.length+k+1) c7).ownBlock=some g->(Nq a' (hand.length+k) c').ownBlock=some g\/g=wr.heap.size+1:=by
    intro g hg;rcases nG g hg with h | h
    ·exact .inl h
    ·exact .inr (by rw [h];exact zK _ _)
   have tX:Below w.heap.size w w7:=by
    refine ((HR.out.2.2.1.alloc hz _).drew).trans (mo.toBelow (by show _<=(wr.alloc _).heap.size;rw [zK];omega) fun i hi e=>?_);have:=HR.out.2.2.2 i e;omega
   have AB:∀ (b:Nat) (o:Obj),(Nq a' (hand.length+k) c').ownBlock≠some b->wr.heap[b]? = some o->w7.heap[b]? = some o:=by
    intro b o hf ho;have h2:=zZ ho;have h3:(wr.alloc (.cells #[.int .i64 (-1),str s',.int .i64 v',.slice a2 n2 c2,.slice a3 n3 c3,.slice ua tk.args.length uc,.slice ea env.length ec,.int .i64 (0:Nat),.int .i64 (k:Nat)] 145)).drew.heap[b]? = some o:=zU ho;rw [mo.block b (zZ h3) hf];exact h3
   have iH:zW (fun i=>F i/\(Nq a7 (hand.length+k+1) c7).ownBlock≠some i) w7 (qK (hand++(jZ env t.args ss).take (k+1))) (cells++[.int .i64 (-1),str s',.int .i64 v',.slice a2 n2 c2,.slice a3 n3 c3,.slice ua tk.args.length uc,.slice ea env.length ec,.int .i64 (0:Nat),.int .i64 (k:Nat)]):=by
    have how:=owns_at (env:=env) t.args ss k tk d HK.out.2.2.1 HK.out.1;rw [OG,how];simp only [Option.toList_some];rw [<- OF,vI];have LO:∀ (b:Nat) (o:Obj),F b->w.heap[b]? = some o->(F b/\(Nq a7 (hand.length+k+1) c7).ownBlock≠some b)/\w7.heap[b]? = some o:=by
     intro b o hf ho;have h1:=zZ ho;refine ⟨⟨hf,fun e=>?_⟩,by rw [tX.block b h1];exact ho⟩;rcases sj b e with h | h
     ·have:=HR.out.2.2.2 b h;omega
     ·omega
    refine zW.append ?_ ?_
    ·exact (Rep.keep fun b o hf ho=>⟨⟨hf.1,fun e=>by
      have:=zZ ho;rcases sj b e with h | h
      ·exact hf.2 h
      ·omega⟩,AB b o hf.2 ho⟩).2 _ _ HR.out.2.1
    ·simp only [qK,dJ,Ov,Oe,OB];refine zQ.2 ⟨_,_,rfl,zH.2 rfl,?_⟩;have h4:=(Rep.keep LO).2 _ _ HK.out.2.1;have h5:=(Rep.keep LO).1 _ _ HK.out.2.2.2;have h6:=(Rep.keep LO).1 _ _ H.out.2.2.2.2.1;exact zW.append h4 (zQ.2 ⟨_,_,rfl,h5,zQ.2 ⟨_,_,rfl,h6,zQ.2 ⟨_,_,rfl,zH.2 rfl,zQ.2 ⟨_,_,rfl,yg.2 ⟨_,rfl⟩,zC.2 rfl⟩⟩⟩⟩)
   have oY:∀ g,(Nq a7 (hand.length+k+1) c7).ownBlock=some g->w.heap.size+1<=g:=by
    intro g hg;rcases sj g hg with h | h
    ·exact HR.out.2.2.2 g h
    ·omega
   have H7:=mj (mu nL (mu iH (mu tX (mu DP.2.2.2.2.2 oY))));clear nL iH tX DP oY mo nG sj AB q0 q1 q2 q3 q4 hc;go_wp2_with fail
   go_roundw
   case rel=>exact ⟨k+1,a7,c7,_,by omega,by go_num,rfl,H7.out.1,H7.out.2.1,H7.out.2.2.1,H7.out.2.2.2.1,H7.out.2.2.2.2⟩
   case measure=>simp [intOf];omega
  ·obtain rfl:k=ss.length:=by omega
   have IP:¬ (ss.length:Int)<(ss.length:Int):=by omega
   clear hc;go_wp2_with fail
   go_ret;have hr:=HR.out.2.1;rw [List.take_of_length_le (by rw [HOL.out];exact my _)] at hr;unfold HandWPost;rw [HOL.out];refine ⟨a',c',rfl,HR.out.2.2.1,HR.out.1.rep (fun g hg=>.inr (by have:=HR.out.2.2.2 g hg;omega)) ((Rep.keep fun b o hf ho=>⟨.inl hf.1,ho⟩).2 _ _ hr)⟩
theorem gY (F:Nat->Prop) (n:Nat) (ts:List Ty) (kv:Value) (w:World) (h:Rep F w (.sl 42 1 ts.length (qA ts)) kv) (hl:ts.length<=1000) (hn:n<=1000000) :
 Calls KD 73 #[kv,.int .i64 (n:Nat)] w (FreshV w 145 9 ts.length fun w' xs=>zW F w' (qK (z8 n ts)) xs):=by
 obtain ⟨ka,kc,e,_,_,ml⟩:=zP h;subst e;have H:=mj ml;clear ml h;go_enter Tryz.func73,Tryz.ntmps73;go_wp2_with fail
 go_loopw [5,6] (fun o i wr=>∃ k:Nat,k<=ts.length/\i=.int .i64 k/\∃ a c xs,o=.slice a k c/\Own wr 145 9 (.slice a k c) k xs/\zW (fun i=>F i/\i<w.heap.size) wr (qK (z8 n (ts.take k))) xs/\Below w.heap.size w wr/\(∀ g,(Nq a k c).ownBlock=some g->w.heap.size<=g)) (fun _ i _=>ts.length-(intOf i).toNat)
 case atStart=>exact ⟨0,Og _,rfl,_,_,[],rfl,Own.litAt #[] 0 _ (by simp) (by decide) rfl,by simp [z8,qK,zC],(mw _ _).alloc (my _) _,p_ (my _)⟩
 case round =>
  obtain ⟨k,hk,rfl,a,c,xs,rfl,ho,hr,hb,hf⟩:=hrel;have HO:=mj ho;have HF:=mj hf;have HB:=mj hb;have HR:=mj hr;clear ho hf hb hr;by_cases m_:k<ts.length
  ·have rF:(k:Int)<(ts.length:Int):=by omega
   obtain ⟨b,o,u,d,e,_,nw,hd,hc,tQ⟩:=H.out k m_;subst e;rw [v_,N3] at hd;obtain ⟨t,ht,rfl⟩:=hd;obtain ⟨ua,uc,rfl⟩:=kU tQ;have q0:=(HB.out.cell (p:=⟨b,o+k,none⟩) nw).trans hc;have HT:=mj (mu ht tQ);clear ht tQ hc;go_wp2_with (at_builtin;refine zE rfl _ _ 142 rfl 145 (.agg #[.int .i64 0,str [],.int .i64 0,.slice none 0 0,.slice none 0 0,.slice none 0 0,.slice none 0 0,.int .i64 0,.int .i64 0]) 9 144 OE Tryz.infoBo rfl (by decide) (.slice a k c) k xs rfl ?c1 _ 1 [.int .i64 ((n:Int)+(k:Int)),str [],.int .i64 0,.slice none 0 0,.slice none 0 0,.slice ua t.args.length uc,.slice none 0 0,.int .i64 0,.int .i64 0] rfl ?c2 ?c3 ?c4 ?_)
   case c1=>exact HO.out.alloc _
   case c2=>exact zq.lit1 #[.int .i64 ((n:Int)+(k:Int)),str [],.int .i64 0,.slice none 0 0,.slice none 0 0,.slice ua t.args.length uc,.slice none 0 0,.int .i64 0,.int .i64 0] rfl (by simp [str,Of]) _ (by simp)
   case c3=>unfold maxLen;omega
   case c4=>omega
   intro a' c' w7 nL mo nG;have tX:Below w.heap.size w w7:=by
    have h1:=HB.out;refine (h1.alloc h1.size _).trans (mo.toBelow (by rw [zK];have:=h1.size;omega) fun i hi e=>?_);have:=HF.out i e;omega
   have oY:∀ g,(Nq a' (k+1) c').ownBlock=some g->w.heap.size<=g:=by
    intro g h;rcases nG g h with h | h
    ·exact HF.out g h
    ·have h2:=HB.out.size;omega
   have iH:zW (fun i=>F i/\i<w.heap.size) w7 (qK (z8 n (ts.take (k+1)))) (xs++[.int .i64 ((n:Int)+(k:Int)),str [],.int .i64 0,.slice none 0 0,.slice none 0 0,.slice ua t.args.length uc,.slice none 0 0,.int .i64 0,.int .i64 0]):=by
    rw [cZ HT.out.1,vI,qK,qK,Ov];refine zW.append ?_ ?_
    ·exact (Rep.keep fun b o hf ho=>⟨hf,by rw [tX.block b hf.2,<- HB.out.block b hf.2];exact ho⟩).2 _ _ HR.out
    ·rw [dJ];refine zQ.2 ⟨_,_,rfl,zH.2 (by rw [Pm]),zQ.2 ⟨_,_,rfl,zH.2 rfl,zQ.2 ⟨_,_,rfl,zH.2 rfl,zQ.2 ⟨_,_,rfl,zH.2 rfl,zQ.2 ⟨_,_,rfl,zH.2 rfl,zQ.2 ⟨_,_,rfl,(Rep.keep fun b o hf ho=>⟨⟨hf,zZ ho⟩,by rw [tX.block b (zZ ho)];exact ho⟩).1 _ _ HT.out.2,zQ.2 ⟨_,_,rfl,zH.2 rfl,zQ.2 ⟨_,_,rfl,zH.2 rfl,zQ.2 ⟨_,_,rfl,yg.2 ⟨_,rfl⟩,zC.2 rfl⟩⟩⟩⟩⟩⟩⟩⟩⟩
   have HA:=mj (mu nL (mu iH (mu tX oY)));clear nL iH tX oY mo nG;go_wp2_with fail
   go_roundw
   case rel=>exact ⟨k+1,by omega,by go_num,a',c',_,rfl,HA.out.1,HA.out.2.1,HA.out.2.2.1,HA.out.2.2.2⟩
   case measure=>simp [intOf];omega
  ·obtain rfl:k=ts.length:=by omega
   go_wp2_with fail
   go_ret;have h0:=HR.out;rw [Oh] at h0;exact ⟨a,c,xs,rfl,HO.out,(Rep.keep fun b o hf ho=>⟨hf.1,ho⟩).2 _ _ h0,HB.out,HF.out⟩
def Wri (w:World) (ww:Nat) (k s:Int):Prop:=w.heap[ww]? = some (.cells #[.int .i64 k,.int .i64 s] 141 (0,0))
theorem Wri.cell {w:World} {ww:Nat} {k s:Int} (h:Wri w ww k s):w.cell? ⟨ww,0,none⟩=some (.int .i64 k)/\w.cell? ⟨ww,1,none⟩=some (.int .i64 s)/\(∀ o,w.frozen? ⟨ww,o,none⟩=false)/\ww<w.heap.size:=by
 unfold Wri at h;exact ⟨by simp [GD,h],by simp [GD,h],fun o=>by simp [World.frozen?,h],zZ h⟩
theorem Wri.below {w w':World} {ww:Nat} {k s:Int} (h:Wri w ww k s) (hb:Below w.heap.size w w'):Wri w' ww k s:=by unfold Wri;rw [hb.block ww (zZ h)];exact h
structure WFr where
 v:Nat
 ss:List Bd
 yes:Bd
 no:Bd
 env:List Mn
def WFr.gf (f:WFr):Gf:=⟨f.yes,f.no,f.env⟩
def encF (f:WFr):List DV:=kL (.ask f.v f.ss f.yes f.no)++[.sl 145 9 f.env.length (qK f.env),.val (.int .i64 (0:Nat))]
def yV:List WFr->List DV
 | []=>[]
 | f::st=>yV st++encF f
theorem encF_length (f:WFr):(encF f).length=6:=by simp [encF,vN]
theorem pU:∀ st:List WFr,(yV st).length=st.length*6
 | []=>rfl
 | f::st=>by rw [yV,NZ,pU st,encF_length,List.length_cons];omega
theorem fJ (ww:Nat) (s:Int) (nvs:Array Value) (s0:Bs) (v0:Int) (a1 a2:Option Addr) (n1 c1 n2 c2:Nat) (hn:nvs=#[str s0,.int .i64 v0,.slice a1 n1 c1,.slice a2 n2 c2]) (ev sv:Value) (n:Nat) (w:World) (h:Wri w ww (-1) s) (h0:0<=s) (h1:s<=1000000000) :
 Calls KD 74 #[.pointer (some ⟨ww,0,none⟩),.agg nvs,ev,sv,.int .i64 (n:Nat)] w fun en w' =>
  en=.returned (.agg #[str [117],.int .i64 0,.slice none 0 0,.slice none 0 0])/\But (· = ww) w w'/\Wri w' ww (-1) (s+1):=by
 subst hn;obtain ⟨W,hW⟩:=zzN ((w.alloc (.cells #[str s0,.int .i64 v0,.slice a1 n1 c1,.slice a2 n2 c2] 47)).alloc (.cells #[str [],.int .i64 0,.slice none 0 0,.slice none 0 0] 47));have nV:Below w.heap.size w W:=by rw [<- hW];exact ((mw _ _).alloc (my _) _).alloc (by rw [zK];omega) _
 have EW:=h.below nV;obtain ⟨k0,k1,kf,klt⟩:=EW.cell;have KF:=kf 1;obtain ⟨W2,rQ⟩:=zzN (W.setCell ⟨ww,1,none⟩ (.int .i64 (s+1)));have io:Wri W2 ww (-1) (s+1):=by unfold Wri at *;rw [<- rQ,zy EW];rfl
 obtain ⟨m0,m1,mf,mlt⟩:=io.cell;have mf0:=mf 0;have tM:kQ (w.heap.size+1) 0 (.slice none 0 0) (.slice none 0 0) W:=by
  have:=zG (w.alloc (.cells #[str s0,.int .i64 v0,.slice a1 n1 c1,.slice a2 n2 c2] 47)) (.cells #[str [],.int .i64 0,.slice none 0 0,.slice none 0 0] 47);rw [zK,hW] at this;exact this
 have hww:=h.cell.2.2.2;obtain ⟨W3,rA⟩:=zzN (W2.setCell ⟨ww,0,none⟩ (.int .i64 (-1)));have iF:Wri W3 ww (-1) (s+1):=by unfold Wri at *;rw [<- rA,zy io];rfl
 have AV:But (· = ww) W W3:=by rw [<- rA,<- rQ];exact ((But.refl (· = ww) W).setCell (p:=⟨ww,1,none⟩) (.inl rfl) _).setCell (p:=⟨ww,0,none⟩) (.inl rfl) _
 have rP:kQ (w.heap.size+1) 0 (.slice none 0 0) (.slice none 0 0) W3:=tM.but AV (by show ¬ (w.heap.size+1=ww);omega);obtain ⟨r0,r1,r2,r3,rlt,rf⟩:=rP.cells;have sG:=rf 0;have tZ:=rf 1;have aJ:=rf 2;have iA:=rf 3;have HW:=mj (mu hW (mu rQ (mu nV (mu rA (mu iF (mu AV rP))))));clear tM rP AV iF rA rf io hW rQ nV EW h kf mf;go_enter Tryz.func74,Tryz.ntmps74;go_upto_region 1 with (fail)
 rw [HW.out.1];refine wp_loop_rounds 1 ?_;rw [rounds_succ];go_upto_region 2 with (fail)
 rw [HW.out.2.1];go_upto_region 4 with (fail)
 rw [HW.out.2.2.2.1];go_wp2_with fail
 obtain ⟨hW,rQ,nV,rA,iF,AV,rP⟩:=HW.out;obtain ⟨W4,aY,rW,rJ,rX,rG,_,BN⟩:=rP.store (.string ⟨#[117]⟩) (.int .i64 0) (.slice none 0 0) (.slice none 0 0);rw [<- aY];refine bodyPost_ret (v:=.agg #[str [117],.int .i64 0,.slice none 0 0,.slice none 0 0]) (by simp [results,Tryz.results74,go_sem,rW,rJ,rX,rG,str]) rfl ?_;refine ⟨rfl,?_,BN ww _ (by omega) iF⟩;have nZ:But (· = ww) w W3:=(But.ofBelow nV).trans AV;have rL:w.heap.size<=w.heap.size+1:=by omega
 rw [aY];exact (((nZ.setCell (p:=⟨w.heap.size+1,0,none⟩) (.inr rL) _).setCell (p:=⟨w.heap.size+1,1,none⟩) (.inr rL) _).setCell (p:=⟨w.heap.size+1,2,none⟩) (.inr rL) _).setCell (p:=⟨w.heap.size+1,3,none⟩) (.inr rL) _
def vm (F:Nat->Prop) (ww:Nat) (D:Int) (o:Option (Bd×Nat×Nat)) (w:World) (en:Ending) (w':World):Prop :=
 ∃ s v a1 n1 c1 a2 n2 c2,en=.returned (.agg #[str s,.int .i64 v,.slice a1 n1 c1,.slice a2 n2 c2])/\But (· = ww) w w'/\(o=none->∃ st,Wri w' ww (-1) st/\0<=st/\st<=D) /\
   ∀ x,o=some x->Wri w' ww (x.2.1:Nat) (20000-(x.2.2:Nat))/\zW (fun i=>F i\/w.heap.size<=i) w' (kL x.1) [str s,.int .i64 v,.slice a1 n1 c1,.slice a2 n2 c2]
def Fx (F:Nat->Prop) (w:World) (k:Nat):Nat->Prop:=fun i=>(F i/\i<w.heap.size)\/w.heap.size+k<=i
structure OBox (w:World) (s0:Bs) (v0:Int) (a1 a2 ta:Option Addr) (n1 c1 n2 c2 nt tc:Nat) (wr:World):Prop where
 x0:wr.cell? ⟨w.heap.size,0,none⟩=some (str s0)
 x1:wr.cell? ⟨w.heap.size,1,none⟩=some (.int .i64 v0)
 x2:wr.cell? ⟨w.heap.size,2,none⟩=some (.slice a1 n1 c1)
 x3:wr.cell? ⟨w.heap.size,3,none⟩=some (.slice a2 n2 c2)
 y0:wr.cell? ⟨w.heap.size+1,0,none⟩=some (.slice ta nt tc)
 res:kQ (w.heap.size+2) 0 (.slice none 0 0) (.slice none 0 0) wr
 bel:Below w.heap.size w wr
theorem OBox.below {w wr w':World} {s0:Bs} {v0:Int} {a1 a2 ta:Option Addr} {n1 c1 n2 c2 nt tc:Nat} (h:OBox w s0 v0 a1 a2 ta n1 c1 n2 c2 nt tc wr) (hb:Below (w.heap.size+3) wr w'):OBox w s0 v0 a1 a2 ta n1 c1 n2 c2 nt tc w':=by
 have hr:=h.res.cells.2.2.2.2.1;have k:∀ (p:Addr),p.block<w.heap.size+3->w'.cell? p=wr.cell? p:=fun p hp=>World.cell?_of_block (w:=wr) (hb.block p.block hp)
 exact ⟨(k ⟨_,_,_⟩ (by show w.heap.size<_;omega)).trans h.x0,(k ⟨_,_,_⟩ (by show w.heap.size<_;omega)).trans h.x1,(k ⟨_,_,_⟩ (by show w.heap.size<_;omega)).trans h.x2,(k ⟨_,_,_⟩ (by show w.heap.size<_;omega)).trans h.x3,
  (k ⟨_,_,_⟩ (by show w.heap.size+1<_;omega)).trans h.y0,h.res.below hb (by omega),h.bel.trans (hb.mono (by omega))⟩
theorem open_any (F:Nat->Prop) (ww:Nat) (D:Int) (o:Option (Bd×Nat×Nat)) (t:Ty) (env:List Mn) (n:Nat) (s0:Bs) (v0:Int) (a1 a2:Option Addr) (n1 c1 n2 c2:Nat) (tv ev:Value) (w:World)
 (ht:Rep F w (ke t) tv) (he:Rep F w (.sl 145 9 env.length (qK env)) ev) (hl:env.length<=1000000) (GF:t.args.length<=15) (hn:n<=1000000) (hww:ww<w.heap.size)
 (C:∀ (a:Option Addr) (c g:Nat) (wX:World),Below w.heap.size w wX->w.heap.size+3<=wX.heap.size->Rep (Fx F w 3) wX (.sl 145 9 (env.length+t.args.length) (qK (env++z8 n t.args))) (.slice a (env.length+t.args.length) c) ->
  Calls KD 74 #[.pointer (some ⟨ww,0,none⟩),.agg #[str s0,.int .i64 v0,.slice a1 n1 c1,.slice a2 n2 c2],.slice a (env.length+t.args.length) c,.slice (some ⟨g,0,none⟩) 0 0,.int .i64 ((n:Int)+(t.args.length:Int))] wX (vm (Fx F w 3) ww D o wX)) :
 Calls KD 141 #[.pointer (some ⟨ww,0,none⟩),.agg #[str s0,.int .i64 v0,.slice a1 n1 c1,.slice a2 n2 c2],.agg #[tv],ev,.int .i64 (n:Nat)] w (vm F ww D o w):=by
 obtain ⟨exs,EE,lN⟩:=zq.ofRep he (vw env);obtain ⟨ea,ec,e⟩:=lN.slice;subst e;have tE:=ht;rw [q_] at tE;obtain ⟨ta,tc,e,_,_,iG⟩:=zP tE;subst e;obtain ⟨W,hW⟩:=zzN (((w.alloc (.cells #[str s0,.int .i64 v0,.slice a1 n1 c1,.slice a2 n2 c2] 47)).alloc (.cells #[.slice ta t.args.length tc] 42)).alloc (.cells #[str [],.int .i64 0,.slice none 0 0,.slice none 0 0] 47));have nV:Below w.heap.size w W:=by rw [<- hW];exact (((mw _ _).alloc (my _) _).alloc (by rw [zK];omega) _).alloc (by rw [zK,zK];omega) _
 have th:w.heap.size+3=W.heap.size:=by rw [<- hW];simp only [zK]
 have aF:OBox w s0 v0 a1 a2 ta n1 c1 n2 c2 t.args.length tc W:=by
  have b0:W.heap[w.heap.size]? = some (.cells #[str s0,.int .i64 v0,.slice a1 n1 c1,.slice a2 n2 c2] 47 (0,0)):=by rw [<- hW];exact zU (zU (zG _ _))
  have b1:W.heap[w.heap.size+1]? = some (.cells #[.slice ta t.args.length tc] 42 (0,0)):=by
   have:=zG (w.alloc (.cells #[str s0,.int .i64 v0,.slice a1 n1 c1,.slice a2 n2 c2] 47)) (.cells #[.slice ta t.args.length tc] 42);rw [zK] at this;rw [<- hW];exact zU this
  have b2:W.heap[w.heap.size+2]? = some (.cells #[str [],.int .i64 0,.slice none 0 0,.slice none 0 0] 47 (0,0)):=by
   have:=zG ((w.alloc (.cells #[str s0,.int .i64 v0,.slice a1 n1 c1,.slice a2 n2 c2] 47)).alloc (.cells #[.slice ta t.args.length tc] 42)) (.cells #[str [],.int .i64 0,.slice none 0 0,.slice none 0 0] 47);simp only [zK] at this;rw [<- hW];exact this
  obtain ⟨x0,x1,x2,x3⟩:=kE b0;exact ⟨x0,x1,x2,x3,by simp [GD,b1],b2,nV⟩
 have hsW:zq 9 (.slice ea env.length ec) env.length exs W:=lN.below nV;have HP:=mj (mu EE (mu iG (mu hW (mu aF (mu hsW (mu C th))))));clear EE lN iG hW aF hsW C nV th ht tE he;go_enter Tryz.func141,Tryz.ntmps141;go_upto_region 1 with (fail)
 rw [HP.out.2.2.1];have BX:=HP.out.2.2.2.1;have y0:=BX.y0;have th:=HP.out.2.2.2.2.2.2;clear BX;go_wp2_with (at_builtin;refine zE rfl _ _ 142 rfl 145 (.agg #[.int .i64 0,str [],.int .i64 0,.slice none 0 0,.slice none 0 0,.slice none 0 0,.slice none 0 0,.int .i64 0,.int .i64 0]) 9 144 OE Tryz.infoBo rfl (by decide) (.slice (some ⟨W.heap.size,0,none⟩) 0 0) 0 [] rfl ?d1 _ env.length exs rfl ?d2 ?d3 ?d4 ?_)
 case d1=>exact Own.litAt #[] 0 _ rfl (by decide) rfl
 case d2=>exact HP.out.2.2.2.2.1.alloc _
 case d3=>unfold maxLen;omega
 case d4=>omega
 intro a6 c6 w6 Fm nJ Ft;have iE:Below W.heap.size W w6:=((mw _ _).alloc (my _) _).trans (nJ.toBelow (by rw [zK];omega) fun i hi e=>by simp [N7] at e;omega);have G5:∀ g,(Nq a6 env.length c6).ownBlock=some g->W.heap.size<=g:=fun g hg=>by
  rcases Ft g hg with h | h
  ·simp [N7] at h;omega
  ·omega
 have sX:zW (fun i=>F i/\i<w.heap.size) w6 (qK (env++z8 n (t.args.take 0))) exs:=by
  rw [QS,z8,Ov];exact (Rep.keep fun b o hf hh=>⟨hf,by rw [(HP.out.2.2.2.1.bel.trans (iE.mono (by omega))).block b hf.2];exact hh⟩).2 _ _ (zW.low HP.out.1)
 have H6:=mj (mu Fm (mu iE (mu G5 sX)));clear Fm iE G5 sX nJ Ft;have y0:=(H6.out.2.1.cell (mx W _ y0)).trans y0;go_wp2_with fail
 go_loopw [11,12] (fun o i wr=>∃ k:Nat,k<=t.args.length/\i=.int .i64 k/\∃ a c xs,o=.slice a (env.length+k:Nat) c/\Own wr 145 9 (.slice a (env.length+k) c) (env.length+k) xs/\zW (fun i=>F i/\i<w.heap.size) wr (qK (env++z8 n (t.args.take k))) xs/\Below W.heap.size W wr/\(∀ g,(Nq a (env.length+k) c).ownBlock=some g->W.heap.size<=g)) (fun _ i _=>t.args.length-(intOf i).toNat)
 case atStart=>exact ⟨0,Og _,rfl,a6,c6,exs,rfl,H6.out.1,H6.out.2.2.2,H6.out.2.1,H6.out.2.2.1⟩
 case round =>
  rename_i wr;obtain ⟨k,hk,rfl,a,c,xs,rfl,ho,hr,hb,hf⟩:=hrel;have BX:=HP.out.2.2.2.1.below (hb.mono (by omega));have z0:=BX.y0;have HO:=mj ho;have HF:=mj hf;have HB:=mj hb;have HR:=mj hr;have HX:=mj BX;clear ho hf hb hr y0 BX;by_cases m_:k<t.args.length
  ·have rF:(k:Int)<(t.args.length:Int):=by omega
   obtain ⟨b,o1,u,d,e,_,nw,hd,hc,tQ⟩:=HP.out.2.1 k m_;subst e;rw [v_,N3] at hd;obtain ⟨t1,ht1,rfl⟩:=hd;obtain ⟨ua,uc,rfl⟩:=kU tQ;have q0:=(HX.out.bel.cell (p:=⟨b,o1+k,none⟩) nw).trans hc;have HT:=mj (mu ht1 tQ);clear ht1 tQ hc;go_wp2_with (at_builtin;refine zE rfl _ _ 142 rfl 145 (.agg #[.int .i64 0,str [],.int .i64 0,.slice none 0 0,.slice none 0 0,.slice none 0 0,.slice none 0 0,.int .i64 0,.int .i64 0]) 9 144 OE Tryz.infoBo rfl (by decide) (.slice a (env.length+k) c) (env.length+k) xs rfl ?e1 _ 1 [.int .i64 ((n:Int)+(k:Int)),str [],.int .i64 0,.slice none 0 0,.slice none 0 0,.slice ua t1.args.length uc,.slice none 0 0,.int .i64 0,.int .i64 0] rfl ?e2 ?e3 ?e4 ?_)
   case e1=>exact HO.out.alloc _
   case e2=>exact zq.lit1 #[.int .i64 ((n:Int)+(k:Int)),str [],.int .i64 0,.slice none 0 0,.slice none 0 0,.slice ua t1.args.length uc,.slice none 0 0,.int .i64 0,.int .i64 0] rfl (by simp [str,Of]) _ (by simp)
   case e3=>unfold maxLen;omega
   case e4=>omega
   intro a' c' w7 nL mo nG;have hzb:=HB.out.size;have tX:Below W.heap.size W w7:=by
    refine (HB.out.alloc hzb _).trans (mo.toBelow (by rw [zK];omega) fun i hi e=>?_);have:=HF.out i e;omega
   have oY:∀ g,(Nq a' (env.length+(k+1)) c').ownBlock=some g->W.heap.size<=g:=by
    intro g h;rcases nG g h with h | h
    ·exact HF.out g h
    ·omega
   have BU:Below w.heap.size w w7:=HP.out.2.2.2.1.bel.trans (tX.mono (by omega));have iH:zW (fun i=>F i/\i<w.heap.size) w7 (qK (env++z8 n (t.args.take (k+1)))) (xs++[.int .i64 ((n:Int)+(k:Int)),str [],.int .i64 0,.slice none 0 0,.slice none 0 0,.slice ua t1.args.length uc,.slice none 0 0,.int .i64 0,.int .i64 0]):=by
    rw [cZ HT.out.1,<- OF,vI,qK,qK,Ov];refine zW.append ?_ ?_
    ·exact (Rep.keep fun b o hf ho=>⟨hf,by rw [BU.block b hf.2,<- HX.out.bel.block b hf.2];exact ho⟩).2 _ _ HR.out
    ·rw [dJ];refine zQ.2 ⟨_,_,rfl,zH.2 (by rw [Pm]),zQ.2 ⟨_,_,rfl,zH.2 rfl,zQ.2 ⟨_,_,rfl,zH.2 rfl,zQ.2 ⟨_,_,rfl,zH.2 rfl,zQ.2 ⟨_,_,rfl,zH.2 rfl,zQ.2 ⟨_,_,rfl,(Rep.keep fun b o hf ho=>⟨⟨hf,zZ ho⟩,by rw [BU.block b (zZ ho)];exact ho⟩).1 _ _ HT.out.2,zQ.2 ⟨_,_,rfl,zH.2 rfl,zQ.2 ⟨_,_,rfl,zH.2 rfl,zQ.2 ⟨_,_,rfl,yg.2 ⟨_,rfl⟩,zC.2 rfl⟩⟩⟩⟩⟩⟩⟩⟩⟩
   have HA:=mj (mu nL (mu iH (mu tX oY)));clear nL iH tX oY mo nG BU;go_wp2_with fail
   go_roundw
   case rel=>exact ⟨k+1,by omega,by go_num,a',c',_,rfl,HA.out.1,HA.out.2.1,HA.out.2.2.1,HA.out.2.2.2⟩
   case measure=>simp [intOf];omega
  ·obtain rfl:k=t.args.length:=by omega
   have z1:=HX.out.x0;have z2:=HX.out.x1;have z3:=HX.out.x2;have z4:=HX.out.x3;have z5:(wr.alloc (.cells #[] 165)).cell? ⟨w.heap.size+1,0,none⟩=some (.slice ta t.args.length tc):=zV z0;have hzb:=HB.out.size;have a_:Below w.heap.size w (wr.alloc (.cells #[] 165)):=HX.out.bel.alloc HX.out.bel.size _;have Lx:Rep (Fx F w 3) (wr.alloc (.cells #[] 165)) (.sl 145 9 (env.length+t.args.length) (qK (env++z8 n t.args))) (.slice a (env.length+t.args.length) c):=by
    have h0:=HR.out;rw [Oh] at h0;exact (HO.out.alloc _).rep (fun g hg=>.inr (by have:=HF.out g hg;omega)) ((Rep.keep fun b o hf ho=>⟨.inl hf,zU ho⟩).2 _ _ h0)
   have C2:=mj (HP.out.2.2.2.2.2.1 a c wr.heap.size _ a_ (by rw [zK];omega) Lx);have resX:kQ (w.heap.size+2) 0 (.slice none 0 0) (.slice none 0 0) (wr.alloc (.cells #[] 165)):=zU HX.out.res;have HY:=mj (mu a_ resX);clear a_ Lx resX;go_wp2_with fail
   (with_reducible refine C2.out.mono ?_);rintro en w9 ⟨s9,v9,b1,m1,d1,b2,m2,d2,rfl,rR,BK,Bx⟩
   have lX:kQ (w.heap.size+2) 0 (.slice none 0 0) (.slice none 0 0) w9:=HY.out.2.but rR (by show ¬ (w.heap.size+2=ww);omega);obtain ⟨r0,r1,r2,r3,rlt,rf⟩:=lX.cells;have sG:=rf 0;have tZ:=rf 1;have aJ:=rf 2;have iA:=rf 3;have H9:=mj (mu rR (mu BK (mu Bx lX)));clear rR BK Bx lX rf;go_wp2_with fail
   obtain ⟨W4,aY,rW,rJ,rX,rG,_,BN⟩:=H9.out.2.2.2.store (str s9) (.int .i64 v9) (.slice b1 m1 d1) (.slice b2 m2 d2);rw [<- aY];refine bodyPost_ret (v:=.agg #[str s9,.int .i64 v9,.slice b1 m1 d1,.slice b2 m2 d2]) (by simp [results,Tryz.results141,go_sem,rW,rJ,rX,rG]) rfl ?_;have nZ:But (· = ww) w w9:=(But.ofBelow HY.out.1).trans H9.out.1;have rL:w.heap.size<=w.heap.size+2:=by omega
   refine ⟨s9,v9,b1,m1,d1,b2,m2,d2,rfl,?_,fun ho=>?_,fun x hx=>?_⟩
   ·rw [aY];exact (((nZ.setCell (p:=⟨w.heap.size+2,0,none⟩) (.inr rL) _).setCell (p:=⟨w.heap.size+2,1,none⟩) (.inr rL) _).setCell (p:=⟨w.heap.size+2,2,none⟩) (.inr rL) _).setCell (p:=⟨w.heap.size+2,3,none⟩) (.inr rL) _
   ·obtain ⟨st,h1,h2⟩:=H9.out.2.1 ho;exact ⟨st,BN ww _ (by omega) h1,h2⟩
   ·obtain ⟨h1,h2⟩:=H9.out.2.2.1 x hx;refine ⟨BN ww _ (by omega) h1,(Rep.keep fun b ob hf hh=>?_).2 _ _ h2⟩;rcases hf with (h | h) | h
    ·exact ⟨.inl h.1,BN b _ (by have:=h.2;omega) hh⟩
    rotate_left
    focus
     rw [zK] at h
    all_goals
     exact ⟨.inr (by omega),BN b _ (by omega) hh⟩
structure mT (F:Nat->Prop) (ww d k l n:Nat) (H:List Ty) (b:Bd) (env:List Mn) (st:List WFr) (s0:Bs) (v0:Int) (a1 a2:Option Addr) (n1 c1 n2 c2:Nat) (ev sv:Value) (w:World):Prop where
 wri:Wri w ww (k:Nat) (20000-(l:Nat))
 hF:∀ i,F i->i≠ww
 ld:l<=d
 d20:d<=20000
 k200:k<=200
 fit:jb H b env (st.map WFr.gf)
 hn:H.length=n
 el:env.length+16*d<=1000000
 nl:n+16*d<=1000000
 stl:st.length+d<=40000
 ok:y8 (1000000-16*d) env
 okg:okGs (1000000-16*d) (st.map WFr.gf)
 wf:wfB b/\wG env/\∀ f∈st.map WFr.gf,wfG f
 rb:zW F w (kL b) [str s0,.int .i64 v0,.slice a1 n1 c1,.slice a2 n2 c2]
 re:Rep F w (.sl 145 9 env.length (qK env)) ev
 rs:Rep F w (.sl 165 6 st.length (yV st)) sv
def wv (d:Nat):Prop:=∀ (F:Nat->Prop) (ww k l n:Nat) (H:List Ty) (b:Bd) (env:List Mn) (st:List WFr) (s0:Bs) (v0:Int) (a1 a2:Option Addr) (n1 c1 n2 c2:Nat) (ev sv:Value) (w:World),
 mT F ww d k l n H b env st s0 v0 a1 a2 n1 c1 n2 c2 ev sv w ->
 Calls KD 74 #[.pointer (some ⟨ww,0,none⟩),.agg #[str s0,.int .i64 v0,.slice a1 n1 c1,.slice a2 n2 c2],ev,sv,.int .i64 (n:Nat)] w
  (vm F ww (20001+20*d) (evN d k l b env n (st.map WFr.gf)) w)
theorem open_live (d:Nat) (ih:wv d) (F:Nat->Prop) (ww k l n:Nat) (H:List Ty) (t:Ty) (b:Bd) (env:List Mn) (s0:Bs) (v0:Int) (a1 a2:Option Addr) (n1 c1 n2 c2:Nat) (tv ev:Value) (w:World)
 (hw:Wri w ww (k:Nat) (20000-(l:Nat))) (hF:∀ i,F i->i≠ww) (BL:l<=d) (hd:d<=20000) (hk:k<=200) (tV:jb (H++t.args) b (env++z8 H.length t.args) []) (hn:H.length=n) (oX:env.length+16*(d+1)<=1000000) (ia:n+16*(d+1)<=1000000) (oZ:zJ t<=15)
 (nC:y8 (1000000-16*(d+1)) env) (ht:Rep F w (ke t) tv) (hb:zW F w (kL b) [str s0,.int .i64 v0,.slice a1 n1 c1,.slice a2 n2 c2]) (he:Rep F w (.sl 145 9 env.length (qK env)) ev) (Am:wfB b/\wG env) :
 Calls KD 141 #[.pointer (some ⟨ww,0,none⟩),.agg #[str s0,.int .i64 v0,.slice a1 n1 c1,.slice a2 n2 c2],.agg #[tv],ev,.int .i64 (n:Nat)] w (vm F ww (20001+20*d) (evN d k l b (env++z8 n t.args) (n+t.args.length) []) w):=by
 have Af:=kZ oZ;have hww:=hw.cell.2.2.2;refine open_any F ww _ _ t env n s0 v0 a1 a2 n1 c1 n2 c2 tv ev w ht he (by omega) Af.2 (by omega) hww ?_;intro a c g wX a_ hzX Lx;have hlen:(env++z8 n t.args).length=env.length+t.args.length:=by rw [NZ,qG]
 rw [<- Pm]
 refine ih (Fx F w 3) ww k l (n+t.args.length) (H++t.args) b (env++z8 n t.args) [] s0 v0 a1 a2 n1 c1 n2 c2 _ _ wX
  { wri:=hw.below a_,hF:=?_,ld:=BL,d20:=hd,k200:=hk,fit:=by rw [<- hn];exact tV,hn:=by rw [NZ,hn],el:=by rw [hlen];omega,nl:=by omega,stl:=by simp;omega,
    ok:=jx _ _ (qU (by omega) _ nC) (jR _ _ Af.1 (by omega)),okg:=trivial,wf:=⟨Am.1,ju _ _ Am.2 (jN _ _),by simp⟩,rb:=?_,re:=by rw [hlen];exact Lx,rs:=zg.2 ⟨by simp [yV],_,_,rfl,my _,fun h=>by simp at h,.inl rfl⟩ }
 ·intro i hi e;rcases hi with h | h
  ·exact hF i h.1 e
  ·omega
 ·exact (Rep.keep fun b o hf hh=>⟨.inl ⟨hf,zZ hh⟩,by rw [a_.block b (zZ hh)];exact hh⟩).2 _ _ hb
theorem open_dead (F:Nat->Prop) (ww n:Nat) (s:Int) (t:Ty) (env:List Mn) (s0:Bs) (v0:Int) (a1 a2:Option Addr) (n1 c1 n2 c2:Nat) (tv ev:Value) (w:World)
 (hw:Wri w ww (-1) s) (h0:0<=s) (h1:s<=1000000000) (oX:env.length<=1000000) (ia:n<=1000000) (oZ:zJ t<=15) (ht:Rep F w (ke t) tv) (he:Rep F w (.sl 145 9 env.length (qK env)) ev) :
 Calls KD 141 #[.pointer (some ⟨ww,0,none⟩),.agg #[str s0,.int .i64 v0,.slice a1 n1 c1,.slice a2 n2 c2],.agg #[tv],ev,.int .i64 (n:Nat)] w (vm F ww (s+1) none w):=by
 refine open_any F ww _ _ t env n s0 v0 a1 a2 n1 c1 n2 c2 tv ev w ht he (by omega) (kZ oZ).2 (by omega) hw.cell.2.2.2 ?_;intro a c g wX a_ hzX Lx;rw [<- Pm];refine (fJ ww s _ s0 v0 a1 a2 n1 c1 n2 c2 rfl _ _ _ wX (hw.below a_) h0 h1).mono ?_;rintro en w' ⟨rfl,hb,tL⟩;exact ⟨_,_,_,_,_,_,_,_,rfl,hb,fun _=>⟨_,tL,by omega,Int.le_refl _⟩,fun x h=>by simp at h⟩
theorem evN_left (d k l:Nat) (b:Bd) (env:List Mn) (n:Nat) (st:List Gf) (r:Bd) (k' l':Nat) (h:evN d k l b env n st=some (r,k',l')):k'<=k/\l'<=l:=by
 rw [evN_eq] at h;cases hq:Go.Proofs.YtpgiohmcggllgaaGreatDoor.ev d l b env n st with
 | none=>rw [hq] at h;simp [pB] at h
 | some x =>
   obtain ⟨o,l1⟩:=x;rw [hq] at h;simp only [pB] at h;split at h
   ·simp at h;obtain ⟨_,rfl,rfl⟩:=h;exact ⟨Nat.sub_le _ _,ev_left _ _ _ _ _ _ _ _ hq⟩
   ·simp at h
theorem dK (f:Nat->Nat->Bd->List Mn->Nat->List Gf->Option (Bd×Nat×Nat)) (env:List Mn) (n:Nat) (t:Ty) (s:Bd):∀ (ts:List Ty) (ss:List Bd) (k l:Nat),ts.length=ss.length ->
 kT f env n k l (ts++[t]) (ss++[s])=(kT f env n k l ts ss).bind fun x=>(f x.2.1 x.2.2 s (env++z8 n t.args) (n+t.args.length) []).bind fun y=>some (x.1++[y.1],y.2.1,y.2.2)
 | [],[],k,l,_=>by
   simp only [OB,kT,NX,Mm]
 | [],s'::ss,k,l,h=>by simp at h
 | t'::ts,[],k,l,h=>by simp at h
 | t'::ts,s'::ss,k,l,h=>by
   simp only [Oe,kT,NX];cases h1:f k l s' (env++z8 n t'.args) (n+t'.args.length) [] with
   | none=>rfl
   | some x =>
     simp only [Mm];rw [dK f env n t s ts ss x.2.1 x.2.2 (by simpa using h)];cases h2:kT f env n x.2.1 x.2.2 ts ss with
     | none=>rfl
     | some y =>
       simp only [Mm];cases h3:f y.2.1 y.2.2 s (env++z8 n t.args) (n+t.args.length) [] with
       | none=>rfl
       | some z=>rfl
theorem dZ {f:Nat->Nat->Bd->List Mn->Nat->List Gf->Option (Bd×Nat×Nat)} {env:List Mn} {n k l j:Nat} {ts:List Ty} {ss:List Bd} {t:Ty} {s:Bd} (ht:ts[j]? = some t) (hs:ss[j]? = some s) :
 kT f env n k l (ts.take (j+1)) (ss.take (j+1))=(kT f env n k l (ts.take j) (ss.take j)).bind fun x=>(f x.2.1 x.2.2 s (env++z8 n t.args) (n+t.args.length) []).bind fun y=>some (x.1++[y.1],y.2.1,y.2.2):=by
 have h1:=(N6.1 ht).1;have h2:=(N6.1 hs).1;rw [OG,OG,ht,hs];exact dK f env n t s _ _ k l (by rw [PG,PG];omega)
theorem pV {f:Nat->Nat->Bd->List Mn->Nat->List Gf->Option (Bd×Nat×Nat)} {env:List Mn} {n:Nat}:∀ (j:Nat) (ts:List Ty) (ss:List Bd) (k l:Nat),kT f env n k l (ts.take j) (ss.take j)=none->kT f env n k l ts ss=none
 | 0,ts,ss,k,l,h=>by simp [kT] at h
 | j+1,[],ss,k,l,h=>by simp [kT] at h
 | j+1,t::ts,[],k,l,h=>by simp [kT] at h
 | j+1,t::ts,s::ss,k,l,h=>by
   simp only [List.take_succ_cons,kT,NX] at h ⊢;cases h1:f k l s (env++z8 n t.args) (n+t.args.length) [] with
   | none=>rfl
   | some x =>
     rw [h1] at h;simp only [Mm] at h ⊢;cases h2:kT f env n x.2.1 x.2.2 (ts.take j) (ss.take j) with
     | none=>rw [pV j ts ss x.2.1 x.2.2 h2];rfl
     | some y=>rw [h2] at h;simp at h
def xi (d k l n o:Nat) (t:Ty) (ss:List Bd) (y no:Bd) (env:List Mn) (st:List Gf):Option (Bd×Nat×Nat) :=
 (kT (evN d) env n k l t.args ss).bind fun x=>(evN d x.2.1 x.2.2 y env n st).bind fun z=>(evN d z.2.1 z.2.2 no env n st).bind fun u=>some (.ask o x.1 z.1 u.1,u.2.1,u.2.2)
theorem evN_op {d k l v n o:Nat} {ss:List Bd} {y no:Bd} {t:Ty} {env:List Mn} {st:List Gf} (h:env[v]? = some (.op o t)) :
 evN (d+1) (k+1) (l+1) (.ask v ss y no) env n st=xi d k l n o t ss y no env st:=by rw [evN.eq_def];simp only [h];rfl
theorem evN_bd {d k l v n:Nat} {ss:List Bd} {y no b':Bd} {t:Ty} {env e:List Mn} {st:List Gf} (h:env[v]? = some (.bd t b' e)) :
 evN (d+1) (k+1) (l+1) (.ask v ss y no) env n st=evN d (k+1) l b' (e++jZ env t.args ss) n (⟨y,no,env⟩::st):=by rw [evN.eq_def];simp only [h]
theorem evN_u {d k l n:Nat} {env:List Mn} {st:List Gf}:evN (d+1) (k+1) (l+1) (.leaf 117) env n st=some (.leaf 117,k,l):=by rw [evN.eq_def];simp
theorem evN_end {d k l n:Nat} {c:UInt8} {env:List Mn}:evN (d+1) (k+1) (l+1) (.leaf c) env n []=some (.leaf c,k,l):=by rw [evN.eq_def];simp
theorem evN_back {d k l n:Nat} {c:UInt8} (h:c≠117) {env:List Mn} {f:Gf} {st:List Gf}:evN (d+1) (k+1) (l+1) (.leaf c) env n (f::st)=evN d (k+1) l (if c=116 then f.yes else f.no) f.env n st:=by rw [evN.eq_def];simp only [if_neg h]
theorem evN_zl {d k n:Nat} {b:Bd} {env:List Mn} {st:List Gf}:evN d k 0 b env n st=none:=by cases d <;> rw [evN.eq_def]
theorem evN_zk {d l n:Nat} {b:Bd} {env:List Mn} {st:List Gf}:evN d 0 l b env n st=none:=by
 cases d with
 | zero=>rw [evN.eq_def]
 | succ d=>cases l <;> rw [evN.eq_def]
theorem bound_at {F:Nat->Prop} {w:World} {env:List Mn} {ev:Value} (h:Rep F w (.sl 145 9 env.length (qK env)) ev) {v:Nat} {m:Mn} (hc:env[v]? = some m) :
 ∃ b o cap us,ev=.slice (some ⟨b,o,none⟩) env.length cap/\F b/\b<w.heap.size/\(∀ (j:Nat) (u:Value),us[j]? = some u->w.cell? ⟨b,o+v*9+j,none⟩=some u)/\zW F w (dJ m) us:=by
 have hv:=(N6.1 hc).1;rw [zg] at h;obtain ⟨hl,a,cap,rfl,hn,hz,h⟩:=h;rcases h with h0 | ⟨b,o,cs,fr,rfl,hb,hcs,hr⟩
 ·omega
 have BB:qK env=qK (env.take v)++(dJ m++qK (env.drop (v+1))):=by
  have e:env=env.take v++m::env.drop (v+1):=by
   have:env[v]=m:=(N6.1 hc).2;rw [<- this,List.getElem_cons_drop,OH]
  conv=>lhs;rw [e]
  rw [vI,qK]
 rw [BB] at hr;have h2:=hr.split.2;rw [dQ,PG,RI (by omega)] at h2;have h3:=h2.split.1;rw [gG] at h3;refine ⟨b,o,cap,_,rfl,hb,zZ hcs,fun j u h=>?_,h3⟩;rw [Pc] at h;split at h
 ·rename_i hj;rw [Pd,Pc,if_pos (by omega),Pd] at h;simp only [GD,hcs];simpa [Te] using h
 ·simp at h
theorem bound_op {F:Nat->Prop} {w:World} {env:List Mn} {ev:Value} (h:Rep F w (.sl 145 9 env.length (qK env)) ev) {v o:Nat} {t:Ty} (hc:env[v]? = some (.op o t)) :
 ∃ b p cap ta tc i,ev=.slice (some ⟨b,p,none⟩) env.length cap/\F b/\b<w.heap.size/\w.cell? ⟨b,p+v*9,none⟩=some (.int .i64 (o:Nat))/\w.cell? ⟨b,p+v*9+1,none⟩=some (str [])/\w.cell? ⟨b,p+v*9+2,none⟩=some (.int .i64 0) /\
   w.cell? ⟨b,p+v*9+3,none⟩=some (.slice none 0 0)/\w.cell? ⟨b,p+v*9+4,none⟩=some (.slice none 0 0)/\w.cell? ⟨b,p+v*9+5,none⟩=some (.slice ta t.args.length tc)/\w.cell? ⟨b,p+v*9+6,none⟩=some (.slice none 0 0) /\
   w.cell? ⟨b,p+v*9+7,none⟩=some (.int .i64 0)/\w.cell? ⟨b,p+v*9+8,none⟩=some (.int .i64 i)/\Rep F w (ke t) (.slice ta t.args.length tc):=by
 obtain ⟨b,p,cap,us,rfl,hb,hw,get,hr⟩:=bound_at h hc;simp only [dJ,zQ,zC,zH,yg] at hr;obtain ⟨_,_,rfl,rfl,_,_,rfl,rfl,_,_,rfl,rfl,_,_,rfl,rfl,_,_,rfl,rfl,x1,_,rfl,q1,_,_,rfl,rfl,_,_,rfl,rfl,x3,_,rfl,⟨i3,rfl⟩,rfl⟩:=hr;obtain ⟨sa,sc,rfl⟩:=kU q1;exact ⟨b,p,cap,sa,sc,i3,rfl,hb,hw,get 0 _ rfl,get 1 _ rfl,get 2 _ rfl,get 3 _ rfl,get 4 _ rfl,get 5 _ rfl,get 6 _ rfl,get 7 _ rfl,get 8 _ rfl,q1⟩
theorem bound_bd {F:Nat->Prop} {w:World} {env:List Mn} {ev:Value} (h:Rep F w (.sl 145 9 env.length (qK env)) ev) {v:Nat} {t:Ty} {b':Bd} {e':List Mn} (hc:env[v]? = some (.bd t b' e')) :
 ∃ b p cap ta tc s v1 a1 m1 c1 a2 m2 c2 ha hcap i,ev=.slice (some ⟨b,p,none⟩) env.length cap/\F b/\b<w.heap.size/\w.cell? ⟨b,p+v*9,none⟩=some (.int .i64 (-1))/\w.cell? ⟨b,p+v*9+1,none⟩=some (str s)/\w.cell? ⟨b,p+v*9+2,none⟩=some (.int .i64 v1) /\
   w.cell? ⟨b,p+v*9+3,none⟩=some (.slice a1 m1 c1)/\w.cell? ⟨b,p+v*9+4,none⟩=some (.slice a2 m2 c2)/\w.cell? ⟨b,p+v*9+5,none⟩=some (.slice ta t.args.length tc)/\w.cell? ⟨b,p+v*9+6,none⟩=some (.slice ha e'.length hcap) /\
   w.cell? ⟨b,p+v*9+7,none⟩=some (.int .i64 0)/\w.cell? ⟨b,p+v*9+8,none⟩=some (.int .i64 i)/\Rep F w (ke t) (.slice ta t.args.length tc)/\zW F w (kL b') [str s,.int .i64 v1,.slice a1 m1 c1,.slice a2 m2 c2]/\Rep F w (.sl 145 9 e'.length (qK e')) (.slice ha e'.length hcap):=by
 obtain ⟨b,p,cap,us,rfl,hb,hw,get,hr⟩:=bound_at h hc;rw [dJ] at hr;obtain ⟨x0,us1,rfl,h0,h1⟩:=zQ.1 (show zW F w (.val (.int .i64 (-1))::(kL b'++[ke t,.sl 145 9 e'.length (qK e'),.val (.int .i64 (0:Nat)),.any])) us from hr);rw [zH] at h0;subst h0;obtain ⟨h2,h3⟩:=h1.split;rw [vN] at h2 h3;obtain ⟨v1,m2,c2,m3,c3,e4,_,_⟩:=vc h2;simp only [zQ,zC,zH,yg] at h3;obtain ⟨y1,_,e5,q1,y2,_,rfl,q2,_,_,rfl,rfl,y4,_,rfl,⟨i4,rfl⟩,rfl⟩:=h3;obtain ⟨sa,sc,rfl⟩:=kU q1;obtain ⟨_,ha,hcap,rfl,_⟩:=zg.1 q2;rw [e4] at h2;have eu:us1=[str (vD b'),.int .i64 v1,.slice m2 (qw b').length c2,.slice m3 (jA b').length c3]++[.slice sa t.args.length sc,.slice ha e'.length hcap,.int .i64 (0:Nat),.int .i64 i4]:=by
  rw [<- OH 4 us1,e4,e5]
 subst eu;exact ⟨b,p,cap,sa,sc,_,_,_,_,_,_,_,_,_,_,i4,rfl,hb,hw,get 0 _ rfl,get 1 _ rfl,get 2 _ rfl,get 3 _ rfl,get 4 _ rfl,get 5 _ rfl,get 6 _ rfl,get 7 _ rfl,get 8 _ rfl,q1,h2,q2⟩
theorem wY {F:Nat->Prop} {ww:Nat} {D:Int} {o:Option (Bd×Nat×Nat)} {w W:World} {s:Bs} {v:Int} {a1 a2:Option Addr} {n1 c1 n2 c2:Nat}
 (hb:But (· = ww) w W) (hww:ww<w.heap.size) (hr:kQ (w.heap.size+1) 0 (.slice none 0 0) (.slice none 0 0) W)
 (hn:o=none->∃ st,Wri W ww (-1) st/\0<=st/\st<=D)
 (hy:∀ x,o=some x->Wri W ww (x.2.1:Nat) (20000-(x.2.2:Nat))/\zW (fun i=>(F i/\i<w.heap.size)\/w.heap.size+2<=i) W (kL x.1) [str s,.int .i64 v,.slice a1 n1 c1,.slice a2 n2 c2]) :
 ∃ W4,W4=((((W.setCell ⟨w.heap.size+1,0,none⟩ (str s)).setCell ⟨w.heap.size+1,1,none⟩ (.int .i64 v)).setCell ⟨w.heap.size+1,2,none⟩ (.slice a1 n1 c1)).setCell ⟨w.heap.size+1,3,none⟩ (.slice a2 n2 c2)) /\
   W4.cell? ⟨w.heap.size+1,0,none⟩=some (str s)/\W4.cell? ⟨w.heap.size+1,1,none⟩=some (.int .i64 v)/\W4.cell? ⟨w.heap.size+1,2,none⟩=some (.slice a1 n1 c1)/\W4.cell? ⟨w.heap.size+1,3,none⟩=some (.slice a2 n2 c2) /\
   vm F ww D o w (.returned (.agg #[str s,.int .i64 v,.slice a1 n1 c1,.slice a2 n2 c2])) W4:=by
 obtain ⟨W4,aY,rW,rJ,rX,rG,_,hk⟩:=hr.store (str s) (.int .i64 v) (.slice a1 n1 c1) (.slice a2 n2 c2);have rL:w.heap.size<=w.heap.size+1:=by omega
 refine ⟨W4,aY,rW,rJ,rX,rG,s,v,a1,n1,c1,a2,n2,c2,rfl,?_,fun ho=>?_,fun x hx=>?_⟩
 ·rw [aY];exact (((hb.setCell (p:=⟨w.heap.size+1,0,none⟩) (.inr rL) _).setCell (p:=⟨w.heap.size+1,1,none⟩) (.inr rL) _).setCell (p:=⟨w.heap.size+1,2,none⟩) (.inr rL) _).setCell (p:=⟨w.heap.size+1,3,none⟩) (.inr rL) _
 ·obtain ⟨st,h1,h2⟩:=hn ho;exact ⟨st,hk ww _ (by omega) h1,h2⟩
 ·obtain ⟨h1,h2⟩:=hy x hx;refine ⟨hk ww _ (by omega) h1,(Rep.keep fun b ob hf hh=>?_).2 _ _ h2⟩;rcases hf with h | h
  ·exact ⟨.inl h.1,hk b _ (by have:=h.2;omega) hh⟩
  ·exact ⟨.inr (by omega),hk b _ (by omega) hh⟩
theorem top_rep {F:Nat->Prop} {w:World} {f:WFr} {st:List WFr} {sv:Value} (h:Rep F w (.sl 165 6 (st.length+1) (yV (f::st))) sv) :
 ∃ b o cap tG sn tm si ea ec,sv=.slice (some ⟨b,o,none⟩) (st.length+1) cap/\F b/\b<w.heap.size/\st.length+1<=cap/\w.cell? ⟨b,o+st.length*6,none⟩=some (str [])/\w.cell? ⟨b,o+st.length*6+1,none⟩=some (.int .i64 (f.v:Nat)) /\
   w.cell? ⟨b,o+st.length*6+2,none⟩=some (.slice tG f.ss.length sn)/\w.cell? ⟨b,o+st.length*6+3,none⟩=some (.slice tm 2 si)/\w.cell? ⟨b,o+st.length*6+4,none⟩=some (.slice ea f.env.length ec)/\w.cell? ⟨b,o+st.length*6+5,none⟩=some (.int .i64 0) /\
   Rep F w (.sl 47 4 2 (zh [f.yes,f.no])) (.slice tm 2 si)/\Rep F w (.sl 145 9 f.env.length (qK f.env)) (.slice ea f.env.length ec) /\
   Rep F w (.sl 165 6 st.length (yV st)) (.slice (some ⟨b,o,none⟩) st.length cap):=by
 rw [zg] at h;obtain ⟨hl,a,cap,rfl,hn,hz,h⟩:=h;rcases h with h0 | ⟨b,o,cs,fr,rfl,hb,hcs,hr⟩
 ·omega
 rw [yV] at hr;obtain ⟨h1,h2⟩:=hr.split;rw [pU] at h1 h2;rw [List.take_take,RI (by omega)] at h1;have get:∀ (j:Nat) (u:Value),(QA (st.length*6) (Ud ((st.length+1)*6) (QA o cs.toList)))[j]? = some u->w.cell? ⟨b,o+st.length*6+j,none⟩=some u:=by
  intro j u hu;rw [Pd,Pc] at hu;split at hu
  ·rw [Pd] at hu;simp only [GD,hcs];simpa [Te] using hu
  ·simp at hu
 generalize QA (st.length*6) (Ud ((st.length+1)*6) (QA o cs.toList))=us at h2 get;rw [encF,xK] at h2;simp only [Oe,OB,zQ,zC,zH] at h2;obtain ⟨_,_,rfl,rfl,_,_,rfl,rfl,x2,_,rfl,q2,x3,_,rfl,q3,x4,_,rfl,q4,_,_,rfl,rfl,rfl⟩:=h2;obtain ⟨_,tG,sn,e1,_⟩:=zg.1 q2;obtain ⟨_,tm,si,e2,_⟩:=zg.1 q3;obtain ⟨_,ea,ec,e3,_⟩:=zg.1 q4;subst e1;subst e2;subst e3;exact ⟨b,o,cap,tG,sn,tm,si,ea,ec,rfl,hb,zZ hcs,hn,get 0 _ rfl,get 1 _ rfl,get 2 _ rfl,get 3 _ rfl,get 4 _ rfl,get 5 _ rfl,q3,q4,zg.2 ⟨pU st,_,cap,rfl,by omega,fun h=>by simp at h,.inr ⟨b,o,cs,fr,rfl,hb,hcs,h1⟩⟩⟩
end Go.Proofs.YtpgiohmcggllgaaGreatDoor

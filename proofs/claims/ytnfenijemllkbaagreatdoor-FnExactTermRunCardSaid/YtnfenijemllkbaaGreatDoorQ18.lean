/- Walks. -/
import Derived.Test.YtnfenijemllkbaaGreatDoorQ17
set_option linter.unusedVariables false
set_option linter.unusedSimpArgs false
set_option maxHeartbeats 4000000
set_option maxRecDepth 100000
open Option renaming none->U
open Option renaming some->OK
open Go.Proofs.Tryz renaming func3->XC,ntmps3->Xs,prog->RG,results11->Wl,underlying22->Ue
open Go.Value renaming oneCell'->R4,ownBlock->RM,slice->RI
open List renaming getElem?_eq_getElem->SS,length_map->Wd,map_append->Vj,map_take->Wu,mem_of_getElem?->RX
open Option renaming bind_eq_some_iff->RH,bind_some->RF,getD_none->VZ,getD_some->SD,isSome_none->Sx,isSome_some->Sj,map_eq_some_iff->RP
open Option.some renaming inj->RZ
namespace Go.Proofs.YtnfenijemllkbaaGreatDoor
open Go.RowKit
def gJ (B:Nat)(w:World)(a:Option Addr)(xs:List Bs):Prop:=∀(k:Nat) (s:Bs),xs[k]?=OK s->∃b o,a=OK ⟨b,o,U⟩/\B<=b/\w.cell? ⟨b,o+k,U⟩=str s
theorem gJ.at {B:Nat}{w:World}{a:Option Addr}{xs:List Bs}(h:gJ B w a xs):vw w a xs:=fun k s hs=>by
 obtain⟨b,o,e,_,hc⟩:=h k s hs;exact⟨b,o,e,hc⟩
theorem gJ.but {B rd:Nat}{w w':World}{a:Option Addr}{xs:List Bs}(h:gJ B w a xs)(hb:But (· = rd) w w')(i8:rd<B):gJ B w' a xs:=fun k s hs=>by
 obtain⟨b,o,e,hB,hc⟩:=h k s hs;exact⟨b,o,e,hB,(hb.cell (p:=(b,o+k)) (sK w ⟨b,o+k,U⟩ hc) (fun e=>by have e2:b=rd:=e;omega)).trans hc⟩
theorem Own.strsNew {B:Nat}{w:World}{e:TypeId}{a:Option Addr}{n c:Nat}{xs:List Bs}(h:Own w e 1 (.slice a n c) n (xs.map str))(hf:∀g,(RI a n c).ownBlock=OK g->B<=g):gJ B w a xs:=by
 intro k s hk;have hn:xs.length=n:=by have:=h.1;simpa using this
 have sC:=(List.getElem?_eq_some_iff.1 hk).1;rcases h.2 with ⟨e0,e1⟩|⟨g,cap,cur,e0,E6⟩
 ·omega
 ·injection e0 with e1 e2 e3;subst e1;refine⟨g,0,rfl,hf g (by simp[RM]),?_⟩;have:=World.ownsRow.cells h (g:=g) (by simp[RM]) k (str s) (by simp[hk]);rw[Nat.zero_add];unfold Addr.add at this;split at this
  ·rename_i h0;subst h0;exact this
  ·simpa using this
theorem Own.cap {w:World}{e:TypeId}{a:Option Addr}{n c k:Nat}{xs:List Value}(h:Own w e 1 (.slice a n c) k xs):n<=c:=by
 rcases h.2 with ⟨e0,rfl⟩|⟨g,cap,cur,e0,_,_,hc,_⟩
 all_goals
  injection e0 with e1 e2 e3;omega
theorem args15 {t:Ty}(h:zU t<=15):(∀a∈t.args,zU a<=15)/\t.args.length<=15:=by
 refine⟨(pg h).1,?_⟩;have:=kW t.args;have:=kI t;omega
def gQ (s:Bs):List Bs:=if (zD s).2 then (zD s).1.args.map zS else []
theorem eS (s:Bs)(hs:Lim s.length)(w:World) :
 Calls RG 11 #[s] w fun en w'=>∃a c,en=.returned (.tuple #[.slice a (gQ s).length c,.bool (zD s).2])/\No w w'/\gJ w w' a (gQ s):=by
 go_enter Tryz.func11,Tryz.ntmps11;go_wp2_with fail
 refine(x5 s hs w).mono ?_;rintro en w1 ⟨v,rfl,sX,aV⟩;obtain⟨ta,tc,e⟩:=za aV;subst e;cases sI:(zD s).2 with
 | false =>
   have sn:=r9 sX;have ER:=r9 sI;clear sX aV sI;have z1:=sn.out.size;go_wp2_with fail
   refine bodyPost_ret (v:=.tuple #[.slice (w1+1:Nat) 0 0,.bool false]) (by simp[results,Wl,go_sem]) rfl ?_;have e0:gQ s=[]:=by unfold gQ;rw[ER.out];rfl
   rw[e0,ER.out];exact⟨_,_,rfl,((sn.out.alloc z1 _).alloc (by rw[zK];omega) _),fun k x hk=>by simp at hk⟩
 | true =>
   have sT:=xQ sI;have As:=args15 sT;have e0:gQ s=(zD s).1.args.map zS:=by unfold gQ;rw[sI];rfl
   have HE:=r9 e0;have ER:=r9 sI;clear sI e0;generalize hT:(zD s).1=t at *;have hlen:(gQ s).length=t.args.length:=by rw[HE.out,Wd]
   have BL:=r9 hlen;rw[jJ]at aV;obtain⟨_,_,e,_,_,sG⟩:=zH aV;cases e;obtain⟨W,hW⟩:=zzN (w1.alloc (.cells #[.slice ta t.args.length tc] 47));have bX:W.heap[(w1:Nat)]?=OK (.cells #[.slice ta t.args.length tc] 47 (0,0)):=by rw[<- hW];exact zW _ _
   have sF:No w W:=by rw[<- hW];exact sX.alloc sX.size _
   have h1W:No w1 W:=by rw[<- hW];exact(sQ _ _).alloc (sZ _) _
   have lU:(w:Nat)<=w1:=sX.size;have iV:(W:Nat)=w1+1:=by rw[<- hW,zK]
   have HW:=r9 (r_ hW (r_ bX (r_ sF (r_ h1W (r_ lU iV)))));have AT:=r9 sG;have HA:=r9 As;clear hW bX sF h1W lU iV sG aV hT hlen sX;have PO:t.args.length<=15:=HA.out.2;go_wp2_with fail
   rw[HW.out.1]
   go_loopw [6,7] (fun o i wr=>∃k:Nat,k<=t.args.length/\i=.int .i64 k/\∃a c,o=.slice a k c/\Own wr 9 1 (.slice a k c) k (((t.args.take k).map zS).map str)/\No W wr/\(∀g,(RI a k c).ownBlock=OK g->(W:Nat)<=g)) (fun _ i _=>t.args.length-(intOf i).toNat)
   case atStart=>exact⟨0,Nat.zero_le _,rfl,_,_,rfl,Own.litAt #[] 0 _ (by have:=HW.out.2.2.2.2.2;omega) (by decide) rfl,(sQ _ _).alloc (sZ _) _,fun g h=>by simp[RM]at h;have:=HW.out.2.2.2.2.2;omega⟩
   case round=>
    obtain⟨k,hk,rfl,a,c,rfl,ho,hb,hf⟩:=hrel;have HO:=r9 ho;have HF:=r9 hf;have HB:=r9 hb;clear ho hf hb;have hcX:wr w1=OK (.slice ta t.args.length tc):=by
     have h:=(HB.out.block _ (zZ HW.out.2.1)).trans HW.out.2.1;simp[World.cell?,h]
    by_cases sC:k<t.args.length
    ·have tB:(k:Int)<(t.args.length:Int):=by omega
     obtain⟨b,o,u,d,e,GD,tY,hd,hc,iK⟩:=AT.out k sC;subst e;rw[vU,RP]at hd;obtain⟨tk,ht,rfl⟩:=hd;obtain⟨ua,uc,rfl⟩:=za iK;have h1r:No w1 wr:=HW.out.2.2.2.1.trans (HB.out.mono (by have:=HW.out.2.2.2.2.2;omega));have q0:wr (b,o+k)=OK (.slice ua tk.args.length uc):=(h1r.cell (p:=(b,o+k)) tY).trans hc;have lM:zU tk<=15:=HA.out.1 tk (RX ht);have C1:=r9 (uK 15 tk lM (by omega) _ wr _ (Rep.below h1r (fun _ h=>h) iK));have HT:=r9 ht;clear ht hc iK h1r GD;go_wp2_with fail
     (with_reducible refine C1.out.mono ?_);rintro en w4 ⟨rfl,sO⟩
     have E8:=HO.out.keep (w':=w4) fun g x _ hx=>by rw[sO.block g (zZ hx)];exact hx
     have BW:=r9 (zzT HB.out sO);have HO4:=r9 E8;clear sO E8 C1;obtain⟨X,hX⟩:=zzM (zS tk);rw[<- hX];have HX:=r9 hX;clear hX;go_wp2_with (at_builtin;refine zF rfl _ _ 22 rfl 9 (str []) 1 16 Ue Tryz.infoStr rfl (by decide) (.slice a k c) k (((t.args.take k).map zS).map str) rfl ?c1 _ 1 [X] rfl ?c2 ?c3 ?c4 ?_)
     case c1=>exact HO4.out.alloc _
     case c2=>exact zz.lit (by simp[R4])
     case c3=>unfold maxLen;omega
     case c4=>omega
     intro a' c' w7 sj sH sS;have tJ:No W w7:=by
      have h1:=BW.out;refine(h1.alloc h1.size _).trans (sH.toBelow (by rw[zK];have:=h1.size;omega) fun i hi e=>?_);have:=HF.out i e;omega
     have iA:∀g,(RI a' (k+1) c').ownBlock=OK g->(W:Nat)<=g:=by
      intro g h;rcases sS g h with h|h
      ·exact HF.out g h
      ·have h2:=BW.out.size;omega
     have DA:Own w7 9 1 (.slice a' (k+1) c') (k+1) (((t.args.take (k+1)).map zS).map str):=by
      have e:((t.args.take (k+1)).map zS).map str=List.take k (List.map (str ∘ zS) t.args)++[str (zS tk)]:=by rw[List.take_add_one,HT.out];simp[Wu]
      have h:=sj;rw[HX.out]at h;rw[e];simpa[Wu] using h
     have HA7:=r9 (r_ DA (r_ tJ iA));clear sj DA tJ iA sH sS;go_wp2_with fail
     go_roundw
     case rel=>exact⟨k+1,by omega,by go_num,a',c',rfl,HA7.out.1,HA7.out.2.1,HA7.out.2.2⟩
     case measure=>simp[intOf];omega
    ·obtain rfl:k=t.args.length:=by omega
     go_wp2_with fail
     refine bodyPost_ret (v:=.tuple #[.slice a t.args.length c,.bool true]) (by simp[results,Wl,go_sem]) rfl ?_;have h0:=HO.out;rw[List.take_length]at h0;refine⟨a,c,by rw[BL.out,ER.out],HW.out.2.2.1.trans (HB.out.mono (by have:=HW.out.2.2.2.2;omega)),?_⟩;rw[HE.out];exact h0.strsNew fun g h=>by have:=HF.out g h;have:=HW.out.2.2.2.2;omega
def trAt (k:Ty)(x:Bs):Option Bs:=(qr x).bind fun y=>if (zS y.1 == zS k)=true then OK (kZ y.2) else U
def yM (ks:List Ty)(xs:List Bs):Nat->Option (List Bs)
 |0=>OK []
 |i+1=>(yM ks xs i).bind fun ts=>(ks[i]?).bind fun k=>(xs[i]?).bind fun x=>(trAt k x).map fun t=>ts++[t]
theorem mm {ks:List Ty}{xs:List Bs}{i:Nat}(h:yM ks xs i=U):∀n,i<=n->yM ks xs n=U
 | 0,hn=>by obtain rfl:i=0:=by omega
            exact h
 | n+1,hn=>by
   rcases Nat.lt_or_ge i (n+1) with h'|h'
   ·rw[yM,mm h n (by omega)];rfl
   ·obtain rfl:i=n+1:=by omega
    exact h
theorem mt {ks:List Ty}{xs:List Bs}{i:Nat}{ts:List Bs}{k:Ty}{x:Bs}(h:yM ks xs i=ts)(hk:ks[i]?=OK k)(hx:xs[i]?=OK x):yM ks xs (i+1)=(trAt k x).map fun t=>ts++[t]:=by
 rw[yM,h,RF,hk,RF,hx,RF]
theorem nw {s:Bs}{k:Ty}{b:Bd}(h:qr s=OK (k,b)):Lim (zS k).length/\Lim (kZ b).length:=by
 have hg:=(xL h).2;have h1:=jY 15 k hg.atoms;have h2:=vK b hg.lv;have h3:=hg.size;have h4:=hg.atoms;exact⟨show _<=_ by omega,show _<=_ by omega⟩
theorem trAt_lim {k:Ty}{x t:Bs}(h:trAt k x=t):Lim t.length:=by
 unfold trAt at h;rw[RH]at h;obtain⟨⟨l,d⟩,h1,h2⟩:=h;split at h2
 ·obtain rfl:=RZ h2;exact(nw h1).2
 ·simp at h2
theorem eF {ks:List Ty}{xs:List Bs}:∀ {i:Nat} {ts:List Bs},yM ks xs i=OK ts->ts.length=i/\∀t∈ts,Lim t.length
 | 0,ts,h=>by
   obtain rfl:=RZ h;exact⟨rfl,by simp⟩
 | i+1,ts,h=>by
   rw[yM,RH]at h;obtain⟨us,h1,h2⟩:=h;simp only[RH,RP]at h2;obtain⟨k,_,x,_,t,ht,rfl⟩:=h2;obtain⟨h3,h4⟩:=eF h1;refine⟨by rw[List.length_append,h3];rfl,fun u hu=>?_⟩;rcases List.mem_append.1 hu with h|h
   ·exact h4 u h
   ·obtain rfl:=List.mem_singleton.1 h;exact trAt_lim ht
def wY (s:Bs)(xs:List Bs):Bs×Bool:=match qr s with
 |none=>([],false)
 |some (k,b)=>if xs.length=k.args.length then (match yM k.args xs xs.length with | none=>([],false) | some ts=>dC (jM 5000 (zS k) (kZ b) ts)) else ([],false)
theorem mh {s:Bs}(h:qr s=U)(xs:List Bs):wY s xs=([],false):=by unfold wY;rw[h]
theorem trRes_len {s:Bs}{k:Ty}{b:Bd}(h:qr s=OK (k,b)){xs:List Bs}(hl:xs.length≠k.args.length):wY s xs=([],false):=by unfold wY;rw[h];exact if_neg hl
theorem bJ {s:Bs}{k:Ty}{b:Bd}(h:qr s=OK (k,b)){xs:List Bs}{i:Nat}(hi:i<=xs.length)(hp:yM k.args xs i=U):wY s xs=([],false):=by
 unfold wY;rw[h];show (if _ then _ else _)=_;rw[mm hp _ hi];split <;> rfl
theorem trRes_run {s:Bs}{k:Ty}{b:Bd}(h:qr s=OK (k,b)){xs ts:List Bs}(hl:xs.length=k.args.length)(hp:yM k.args xs xs.length=ts):wY s xs=dC (jM 5000 (zS k) (kZ b) ts):=by
 unfold wY;rw[h];show (if _ then _ else _)=_;rw[if_pos hl,hp]
theorem mK {s:Bs}{k:Ty}{b:Bd}(h:qr s=OK (k,b)):yX s=OK (zS k)/\pM s=OK (kZ b):=by
 refine⟨?_,by unfold pM;rw[h];rfl⟩;unfold qr at h;simp only[RH,RP,Prod.mk.injEq]at h;obtain⟨t,h1,k',h2,b',h3,rfl,rfl⟩:=h;unfold yX fB;rw[h1,RF,h2];rfl
theorem kindTx_some {s x:Bs}(h:yX s=x):∃k,x=zS k/\zU k<=15:=by
 unfold yX fB at h;simp only[RP,RH]at h;obtain⟨⟨t,k⟩,⟨t',h1,k',h2,h3⟩,rfl⟩:=h;simp only[Prod.mk.injEq]at h3;obtain⟨rfl,rfl⟩:=h3;exact⟨k',rfl,qK t' [] k' (by simp[kinds]) h2⟩
theorem yF.toT {w:World}(h:yF w):yE w:=by
 obtain⟨a,h⟩:=h;exact⟨_,_,h⟩
theorem mN (s:Bs)(xs:List Bs)(a:Option Addr)(c:Nat)(w:World)(hg:uC w)(he:yF w)(hx:vw w a xs)(hs:Lim s.length)(iG:∀x∈xs,Lim x.length)(oY:Lim xs.length) :
 Calls RG 7 #[s,.slice a xs.length c] w fun en w'=>en=.returned (.tuple #[str (wY s xs).1,.bool (wY s xs).2])/\No w w':=by
 have C0:=r9 (cW s w he hs);have HG:=r9 (fun (y:World) (hy:No w y)=>r_ (hg.below hy) (he.below hy));have HX:=r9 hx;have HXS:=r9 iG;clear hg he hx iG hs;go_enter Tryz.func7,Tryz.ntmps7;go_wp2_with fail
 (with_reducible refine C0.out.mono ?_)
 rintro en w1 ⟨kv,bv,rfl,sX,tK,tH⟩;have sn:=r9 sX;cases hq:qr s with
 | none =>
   obtain rfl:=tK hq;have HM:=r9 (mh hq xs);clear hq tK tH sX C0;go_wp2_with fail
   go_ret2
   exact⟨by rw[HM.out];rfl,sn.out⟩
 | some p =>
   obtain⟨k,b⟩:=p;obtain⟨rk,rb⟩:=tH _ hq;obtain⟨kb,sv,rfl,_,hc,tG⟩:=zh rk;obtain⟨bb,rfl⟩:=zg rb;obtain⟨ka,kc,rfl,_,_,sG⟩:=zH tG;have c1:w1 kb=OK (.slice ka k.args.length kc):=by simp[World.cell?,hc]
   have Bw:=(xL hq).2;have As:=args15 Bw.atoms;have HQ:=r9 hq;have HGD:=r9 Bw;have Jq:=r9 As;have s_:=r9 sG;have HRK:=r9 rk;have HRB:=r9 rb;have ES:=r9 c1;clear hq tK tH sX C0 rk rb hc tG sG Bw As;by_cases hlen:xs.length=k.args.length
   ·rw[hlen];have BL:=r9 hlen;clear hlen;go_upto_region 4 with (fail)
    clear c1;go_wp2_with fail
    go_loopw [8,32] (fun o i wr=>∃(j:Nat) (ts:List Bs) (a5:Option Addr) (c5:Nat),j<=k.args.length/\i=.int .i64 j/\o=.slice a5 j c5/\yM k.args xs j=ts/\Own wr 9 1 (.slice a5 j c5) j (ts.map str)/\No w1 wr/\(∀g,(RI a5 j c5).ownBlock=OK g->(w1:Nat)<=g)) (fun _ i _=>k.args.length-(intOf i).toNat)
    case atStart=>exact⟨0,[],U,0,Nat.zero_le _,rfl,rfl,rfl,World.ownsRow_nil _ _ _ _,sQ _ _,fun g h=>by simp[RM]at h⟩
    case round=>
     rename_i wr _ _ _ _ _;obtain⟨j,ts,a5,c5,hj,rfl,rfl,hp,ho,hb,hf⟩:=hrel;have HO:=r9 ho;have HF:=r9 hf;have HB:=r9 hb;have HP:=r9 hp;have HW:=r9 (zzT sn.out hb);clear ho hf hb hp;by_cases sC:j<k.args.length
     ·have tB:(j:Int)<(k.args.length:Int):=by omega
      have Et:j<xs.length:=by have:=BL.out;omega
      obtain⟨x,Js⟩:∃x,xs[j]?=OK x:=⟨xs[j],SS Et⟩;obtain⟨k',Ex⟩:∃k',k.args[j]?=OK k':=⟨k.args[j]'(by omega),SS _⟩;obtain⟨gb,go,rfl,Dj⟩:=HX.out j x Js;have q0:wr (gb,go+j)=str x:=(HW.out.cell (sK w _ Dj)).trans Dj;have CM:=r9 (cW x wr (HG.out wr HW.out).2 (HXS.out x (RX Js)));have HN:=r9 (mt HP.out Ex Js);have HKJ:=r9 Ex;clear Dj Js Ex;go_wp2_with fail
      (with_reducible refine CM.out.mono ?_);rintro en w2 ⟨lv,dv,rfl,sY,lY,lE⟩
      have sw:=r9 (zzT HB.out sY);have aU:=r9 (zzT HW.out sY);have HO2:=r9 (HO.out.keep (w':=w2) fun g x _ hx=>by rw[sY.block g (zZ hx)];exact hx);cases hm:qr x with
      | none =>
        obtain rfl:=lY hm;have HR:=r9 (bJ HQ.out (i:=j+1) Et (by rw[HN.out];unfold trAt;rw[hm];rfl));clear hm lY lE sY CM q0;go_wp2_with fail
        go_ret2
        exact⟨by rw[HR.out];rfl,aU.out⟩
      | some y =>
        obtain⟨l,d⟩:=y;obtain⟨rl,rd⟩:=lE _ hm;obtain⟨lb,_,rfl,_,_,_⟩:=zh rl;obtain⟨db,rfl⟩:=zg rd;obtain⟨eb,eo,u,e9,rfl,_,tY,hd,hcu,iK⟩:=s_.out j (by omega);rw[yH,HKJ.out]at hd;obtain rfl:=RZ hd;obtain⟨ub,_,rfl,_⟩:=zh iK;have KU:=(xL hm).2;have q1:w2 kb=OK (.slice (eb,eo) k.args.length kc):=(sw.out.cell (sK w1 _ ES.out)).trans ES.out;have q2:w2 (eb,eo+j)=OK (.pointer (OK ⟨ub,0,U⟩)):=(sw.out.cell (p:=(eb,eo+j)) tY).trans hcu;have CS:=nX (fun _=>True) l k' _ _ w2 (rl.weak fun _ _=>trivial) ((Rep.below (F':=fun _=>True) sw.out (fun _ _=>trivial) iK)) KU.atoms (Jq.out.1 k' (RX HKJ.out));obtain⟨S,hS⟩:∃S,(zS l == zS k')=S:=⟨_,rfl⟩;rw[hS]at CS;have Gn:=r9 (show yM k.args xs (j+1)=(if S=true then OK (kZ d) else U).map fun t=>ts++[t] by rw[HN.out,<- hS];unfold trAt;rw[hm];rfl);have CS:=r9 CS;have HGL:=r9 KU;have HRD:=r9 rd;clear hm lY lE sY CM q0 rl rd tY hd hcu iK KU hS HN;go_wp2_with fail
        (with_reducible refine CS.out.mono ?_);rintro en w3 ⟨rfl,sE⟩
        have af:=r9 (zzT sw.out sE);have HW3:=r9 (zzT aU.out sE);have Oc:=r9 (HO2.out.keep (w':=w3) fun g x _ hx=>by rw[sE.block g (zZ hx)];exact hx);have HRD3:=r9 (Rep.below (F':=fun _=>True) sE (fun _ _=>trivial) HRD.out);clear sE CS q1 q2;cases S with
        | false =>
          have HR:=r9 (bJ HQ.out (i:=j+1) Et (by rw[Gn.out];rfl));go_wp2_with fail
          go_ret2
          exact⟨by rw[HR.out];rfl,HW3.out⟩
        | true =>
          have CT:=r9 (text_any (zG d) d (sZ _) (by have:=HGL.out.size;omega) HGL.out.lv _ w3 _ (HG.out w3 HW3.out).1 HRD3.out);go_wp2_with fail
          (with_reducible refine CT.out.mono ?_);rintro en w4 ⟨rfl,sO⟩
          have BW:=r9 (zzT af.out sO);have HO4:=r9 (Oc.out.keep (w':=w4) fun g x _ hx=>by rw[sO.block g (zZ hx)];exact hx);obtain⟨X,hX⟩:=zzN (kZ d);have Dc:Hid (yM k.args xs (j+1)=OK (ts++[X])):=r9 (by rw[Gn.out,<- hX];rfl);rw[hX];clear sO CT hX Gn;have P4:j<16:=by have:=Jq.out.2;omega
          go_wp2_with (at_builtin;refine zF rfl _ _ 22 rfl 9 (str []) 1 16 Ue Tryz.infoStr rfl (by decide) (.slice a5 j c5) j (ts.map str) rfl ?c1 _ 1 [X] rfl ?c2 ?c3 ?c4 ?_)
          case c1=>exact HO4.out.alloc _
          case c2=>exact zz.lit (by simp[R4])
          case c3=>unfold maxLen;omega
          case c4=>omega
          intro a' c' w7 sj sH sS;have tJ:No w1 w7:=by
           have h1:=BW.out;refine(h1.alloc h1.size _).trans (sH.toBelow (by rw[zK];have:=h1.size;omega) fun i hi e=>?_);have:=HF.out i e;omega
          have iA:∀g,(RI a' (j+1) c').ownBlock=OK g->(w1:Nat)<=g:=by
           intro g h;rcases sS g h with h|h
           ·exact HF.out g h
           ·have h2:=BW.out.size;omega
          have DA:Own w7 9 1 (.slice a' (j+1) c') (j+1) ((ts++[X]).map str):=by
           rw[Vj];exact sj
          have HA:=r9 (r_ DA (r_ tJ iA));clear sj DA tJ iA sH sS;go_wp2_with fail
          go_roundw
          case rel=>exact⟨j+1,ts++[X],a',c',by omega,by go_num,rfl,Dc.out,HA.out.1,HA.out.2.1,HA.out.2.2⟩
          case measure=>simp[intOf];omega
     ·obtain rfl:j=k.args.length:=by omega
      have HR:=r9 (trRes_run HQ.out BL.out (by rw[BL.out];exact HP.out));obtain⟨Df,t6⟩:=eF HP.out;obtain⟨lk,lb⟩:=nw HQ.out;have CK:=r9 (eN 15 k HGD.out.atoms (by omega) _ wr _ (Rep.below (F':=fun _=>True) HB.out (fun _ _=>trivial) HRK.out));have CB:=r9 (fun (y:World) (hy:No wr y)=>text_any (zG b) b (sZ _) (by have:=HGD.out.size;omega) HGD.out.lv (fun _=>True) y _ (HG.out y (zzT HW.out hy)).1 (Rep.below (F':=fun _=>True) (zzT HB.out hy) (fun _ _=>trivial) HRB.out));have CR:=fun (y:World) (hy:No wr y)=>dg (zS k) (kZ b) ts a5 c5 y (HG.out y (zzT HW.out hy)).1 (HG.out y (zzT HW.out hy)).2.toT ((HO.out.keep (w':=y) fun g x _ hx=>by rw[hy.block g (zZ hx)];exact hx).strsNew HF.out).at lk lb t6 (show _<=_ by rw[Df,<- BL.out];exact oY);rw[Df]at CR;generalize hP:dC (jM 5000 (zS k) (kZ b) ts)=P at CR HR;obtain⟨p0,p1⟩:=P;have CR:=r9 CR;obtain⟨K2,IP⟩:=zzN (zS k);obtain⟨T2,GC⟩:=zzN (kZ b);rw[IP]at CK CR;rw[GC]at CB CR;clear hP Df t6 lk lb IP GC;go_wp2_with fail
      (with_reducible refine CK.out.mono ?_);rintro en w5 ⟨rfl,sx⟩
      have C5:=r9 (CB.out w5 sx);have H5:=r9 sx;clear sx CK CB;go_wp2_with fail
      (with_reducible refine C5.out.mono ?_);rintro en w6 ⟨rfl,sM⟩
      have H6:=r9 (zzT H5.out sM);have C6:=r9 (CR.out w6 H6.out);clear sM C5 CR;go_wp2_with fail
      (with_reducible refine C6.out.mono ?_);rintro en w7 ⟨rfl,sH⟩
      have H7:=r9 (zzT H6.out sH);clear sH C6;go_wp2_with fail
      go_ret2
      exact⟨by rw[HR.out];rfl,zzT HW.out H7.out⟩
   ·have HR:=r9 (trRes_len HQ.out hlen);have i1:¬(xs.length:Int)=(k.args.length:Int):=by omega
    have i2:((xs.length:Int) != (k.args.length:Int))=true:=by simp;omega
    have i3:((xs.length:Int) == (k.args.length:Int))=false:=by simp;omega
    have i4:(xs.length != k.args.length)=true:=by simp;omega
    have i5:(xs.length == k.args.length)=false:=by simp;omega
    go_wp2_with fail
    go_ret2
    exact⟨by rw[HR.out];rfl,sn.out⟩
theorem argsOf_text {k:Ty}(h:zU k<=15):gQ (zS k)=k.args.map zS:=by
 have h1:=fh h;rw[fx]at h1;split at h1
 ·rename_i h2;unfold gQ;rw[if_pos h2,RZ h1]
 ·simp at h1
theorem kindTx_lim (s:Bs):Lim ((yX s).getD []).length:=by
 cases h:yX s with
 |none=>exact show _<=_ by simp
 | some x =>
   obtain⟨k,rfl,sT⟩:=kindTx_some h;have:=jY 15 k sT;show (zS k).length<=_;omega
theorem fu {s:Bs}(h:qr s=U):pM s=U:=by unfold pM;rw[h];rfl
theorem mH (s:Bs)(xs:List Bs)(a:Option Addr)(c:Nat)(w:World)(hx:vw w a xs)(hs:Lim s.length)(iG:∀x∈xs,Lim x.length)(oY:Lim xs.length) :
 Calls RG 5 #[s,.slice a xs.length c] w fun en w'=>en=.returned (.tuple #[str (wY s xs).1,.bool (wY s xs).2])/\No w w':=by
 have C1:=r9 (wl s w hs);have C2:=r9 (fun (y:World)=>xJ s y hs);have C3:=r9 (fun (y:World) (x:Bs) (hx:Lim x.length)=>eS x hx y);have HX:=r9 hx;have HXS:=r9 iG;clear hx iG hs;go_enter Tryz.func5,Tryz.ntmps5;go_wp2_with fail
 (with_reducible refine C1.out.mono ?_)
 rintro en w1 ⟨rfl,sX⟩;have sn:=r9 sX;clear sX C1;cases hq:qr s with
 | none =>
   have HM:=r9 (mh hq xs);have C2:=C2.out w1;rw[fu hq]at C2;have C2:=r9 C2;have C3:=fun y=>C3.out y _ (kindTx_lim s);obtain⟨R,hR⟩:=zzN (yX s);rw[hR]at C3 ⊢;have C3:=r9 C3;clear hq hR;obtain⟨R1,Fs⟩:=zzN (R.getD []);obtain⟨R2,Gh⟩:=zzN (R.isSome);rw[Fs]at C3;rw[Fs,Gh];clear Fs Gh;go_wp2_with fail
   (with_reducible refine C2.out.mono ?_);rintro en w2 ⟨rfl,sY⟩
   have sw:=r9 (zzT sn.out sY);clear sY C2;simp only[VZ,Sx];go_wp2_with fail
   (with_reducible refine(C3.out w2).mono ?_);rintro en w3 ⟨la,lc,rfl,sE,_⟩
   have af:=r9 (zzT sw.out sE);clear sE C3;cases R2 with
   | false =>
     go_wp2_with fail
     go_ret2
     exact⟨by rw[HM.out];rfl,af.out⟩
   | true =>
     go_wp2_with fail
     go_ret2
     exact⟨by rw[HM.out];rfl,af.out⟩
 | some p =>
   obtain⟨k,b⟩:=p;obtain⟨e1,e2⟩:=mK hq;have Bw:=(xL hq).2;have As:=args15 Bw.atoms;obtain⟨lk,lb⟩:=nw hq;have C2:=C2.out w1;rw[e2]at C2;have C2:=r9 C2;have C3:=fun y=>C3.out y _ lk;rw[argsOf_text Bw.atoms,Wd]at C3;rw[e1];simp only[SD,Sj];have HQ:=r9 hq;have Jq:=r9 As;have HLB:=r9 (r_ lk lb);obtain⟨K,hK⟩:=zzN (zS k);obtain⟨M,hM⟩:=zzN (kZ b);rw[hK]at C3;rw[hK];rw[hM]at C2;have Lm:=r9 (r_ hK hM);have C3:=r9 C3;clear hq e1 e2 Bw As lk lb hK hM;go_wp2_with fail
   (with_reducible refine C2.out.mono ?_);rintro en w2 ⟨rfl,sY⟩
   have sw:=r9 (zzT sn.out sY);clear sY C2;simp only[SD,Sj];go_wp2_with fail
   (with_reducible refine(C3.out w2).mono ?_);rintro en w3 ⟨la,lc,rfl,sE,Jc⟩
   have af:=r9 (zzT sw.out sE);have HL3:=r9 Jc.at
   clear sE C3 Jc;by_cases hlen:xs.length=k.args.length
   ·rw[hlen];have BL:=r9 hlen;clear hlen;obtain⟨W,hW⟩:=zzN (w3.alloc (.cells #[] 9));have h0:Own W 9 1 (.slice w3 0 0) 0 []:=by rw[<- hW];exact Own.litAt #[] 0 _ rfl (by decide) rfl
    have sF:No w3 W:=by rw[<- hW];exact(sQ _ _).alloc (sZ _) _
    have HW0:=r9 (r_ hW (r_ h0 sF));clear hW h0 sF;go_upto_region 6 with (fail)
    go_wp2_with fail
    rw[HW0.out.1]
    go_loopw [12,13] (fun o i wr=>∃(j:Nat) (ts:List Bs) (a5:Option Addr) (c5:Nat),j<=k.args.length/\i=.int .i64 j/\o=.slice a5 j c5/\yM k.args xs j=ts/\Own wr 9 1 (.slice a5 j c5) j (ts.map str)/\No w3 wr/\(∀g,(RI a5 j c5).ownBlock=OK g->(w3:Nat)<=g)) (fun _ i _=>k.args.length-(intOf i).toNat)
    case atStart=>exact⟨0,[],_,0,Nat.zero_le _,rfl,rfl,rfl,HW0.out.2.1,HW0.out.2.2,fun g h=>by simp[RM]at h;omega⟩
    case round=>
     rename_i wr _ _ _ _;obtain⟨j,ts,a5,c5,hj,rfl,rfl,hp,ho,hb,hf⟩:=hrel;have HO:=r9 ho;have HF:=r9 hf;have HB:=r9 hb;have HP:=r9 hp;have HW:=r9 (zzT af.out hb);clear ho hf hb hp;by_cases sC:j<k.args.length
     ·have tB:(j:Int)<(k.args.length:Int):=by omega
      have Et:j<xs.length:=by have:=BL.out;omega
      obtain⟨x,Js⟩:∃x,xs[j]?=OK x:=⟨xs[j],SS Et⟩;obtain⟨k',Ex⟩:∃k',k.args[j]?=OK k':=⟨k.args[j]'(by omega),SS _⟩;obtain⟨gb,go,rfl,Dj⟩:=HX.out j x Js;obtain⟨eb,eo,rfl,lD⟩:=HL3.out j (zS k') (by rw[List.getElem?_map,Ex];rfl);have KEY:=r9 (fun (y:World) (hy:No wr y)=>r_ (((zzT HW.out hy).cell (sK w _ Dj)).trans Dj) (((zzT HB.out hy).cell (sK w3 _ lD)).trans lD));have lx:=HXS.out x (RX Js);have CK:=r9 (wl x wr lx);have CM:=fun (y:World)=>xJ x y lx;have HN:=r9 (mt HP.out Ex Js);obtain⟨B,hB⟩:=zzN (zS k');rw[hB]at KEY;have HBB:=r9 hB;obtain⟨q0,_⟩:=KEY.out wr (sQ _ _);clear Dj lD Js Ex lx hB;go_wp2_with fail
      (with_reducible refine CK.out.mono ?_);rintro en w4 ⟨rfl,sO⟩
      obtain⟨q1,_⟩:=KEY.out w4 sO;have H4:=r9 sO;clear sO CK q0;cases hm:qr x with
      | none =>
        rw[fu hm]at CM;have CM:=r9 CM;obtain⟨R1,Fs⟩:=zzN ((yX x).getD []);obtain⟨R2,Gh⟩:=zzN ((yX x).isSome);have HR:=r9 (bJ HQ.out (i:=j+1) Et (by rw[HN.out];unfold trAt;rw[hm];rfl));rw[Fs,Gh];clear hm Fs Gh;go_wp2_with fail
        (with_reducible refine(CM.out w4).mono ?_);rintro en w5 ⟨rfl,sx⟩
        have H5:=r9 (zzT H4.out sx);obtain⟨_,q2⟩:=KEY.out w5 H5.out;clear sx CM q1;simp only[VZ,Sx];cases R2 with
        | false =>
          go_wp2_with fail
          go_ret2
          exact⟨by rw[HR.out];rfl,zzT HW.out H5.out⟩
        | true =>
          go_wp2_with fail
          go_ret2
          exact⟨by rw[HR.out];rfl,zzT HW.out H5.out⟩
      | some y =>
        obtain⟨l,d⟩:=y;obtain⟨e1,e2⟩:=mK hm;rw[e2]at CM;rw[e1];simp only[SD,Sj];obtain⟨S,hS⟩:∃S,(zS l == zS k')=S:=⟨_,rfl⟩;obtain⟨A,hA⟩:=zzN (zS l);obtain⟨X,hX⟩:=zzN (kZ d);have Gn:=r9 (show yM k.args xs (j+1)=(if S=true then OK X else U).map fun t=>ts++[t] by rw[HN.out,<- hS,<- hX];unfold trAt;rw[hm];rfl);rw[hA,HBB.out]at hS;rw[hA];rw[hX]at CM;have CM:=r9 CM;clear hm e1 e2 hA hX HN;go_wp2_with fail
        (with_reducible refine(CM.out w4).mono ?_);rintro en w5 ⟨rfl,sx⟩
        simp only[SD,Sj];have H5:=r9 (zzT H4.out sx);obtain⟨_,q2⟩:=KEY.out w5 H5.out;have HO5:=r9 (HO.out.keep (w':=w5) fun g x _ hx=>by rw[H5.out.block g (zZ hx)];exact hx);clear sx CM q1;cases S with
        | false =>
          have lK:(A != B)=true:=by rw[bne,hS];rfl
          have HR:=r9 (bJ HQ.out (i:=j+1) Et (by rw[Gn.out];rfl));go_wp2_with fail
          go_ret2
          exact⟨by rw[HR.out];rfl,zzT HW.out H5.out⟩
        | true =>
          have lK:(A != B)=false:=by rw[bne,hS];rfl
          have Dc:Hid (yM k.args xs (j+1)=OK (ts++[X])):=r9 (by rw[Gn.out];rfl);have P4:j<16:=by have:=Jq.out.2;omega
          clear Gn;go_upto_region 14 with (fail)
          clear hS lK q2;go_wp2_with (at_builtin;refine zF rfl _ _ 22 rfl 9 (str []) 1 16 Ue Tryz.infoStr rfl (by decide) (.slice a5 j c5) j (ts.map str) rfl ?c1 _ 1 [X] rfl ?c2 ?c3 ?c4 ?_)
          case c1=>exact HO5.out.alloc _
          case c2=>exact zz.lit (by simp[R4])
          case c3=>unfold maxLen;omega
          case c4=>omega
          intro a' c' w7 sj sH sS;have FE:No w3 w5:=zzT HB.out H5.out;have tJ:No w3 w7:=by
           refine(FE.alloc FE.size _).trans (sH.toBelow (by rw[zK];have:=FE.size;omega) fun i hi e=>?_);have:=HF.out i e;omega
          have iA:∀g,(RI a' (j+1) c').ownBlock=OK g->(w3:Nat)<=g:=by
           intro g h;rcases sS g h with h|h
           ·exact HF.out g h
           ·have h2:=FE.size;omega
          have DA:Own w7 9 1 (.slice a' (j+1) c') (j+1) ((ts++[X]).map str):=by
           rw[Vj];exact sj
          have HA:=r9 (r_ DA (r_ tJ iA));clear sj DA tJ iA sH sS FE;go_wp2_with fail
          go_roundw
          case rel=>exact⟨j+1,ts++[X],a',c',by omega,by go_num,rfl,Dc.out,HA.out.1,HA.out.2.1,HA.out.2.2⟩
          case measure=>simp[intOf];omega
     ·obtain rfl:j=k.args.length:=by omega
      have HR:=trRes_run HQ.out BL.out (by rw[BL.out];exact HP.out);obtain⟨Df,t6⟩:=eF HP.out;have CR:=dW (zS k) (kZ b) ts a5 c5 wr (HO.out.strsNew HF.out).at HLB.out.1 HLB.out.2 t6 (show _<=_ by rw[Df,<- BL.out];exact oY);rw[Df,res_same,<- HR,Lm.out.1,Lm.out.2]at CR;have CR:=r9 CR;obtain⟨P,hP⟩:=zzN (wY s xs);rw[hP]at CR;have HPP:=r9 hP;obtain⟨p0,p1⟩:=P;clear hP Df t6 HR;go_wp2_with fail
      (with_reducible refine CR.out.mono ?_);rintro en w7 ⟨rfl,sH⟩
      have H7:=r9 (zzT HW.out sH);clear sH CR;go_wp2_with fail
      go_ret2
      exact⟨by rw[HPP.out];rfl,H7.out⟩
   ·have HR:=r9 (trRes_len HQ.out hlen);have i1:¬(k.args.length:Int)=(xs.length:Int):=by omega
    have i2:((k.args.length:Int) != (xs.length:Int))=true:=by simp;omega
    have i3:((k.args.length:Int) == (xs.length:Int))=false:=by simp;omega
    have i4:(k.args.length != xs.length)=true:=by simp;omega
    have i5:(k.args.length == xs.length)=false:=by simp;omega
    go_wp2_with fail
    go_ret2
    exact⟨by rw[HR.out];rfl,af.out⟩
theorem cn (s:Bs)(xs:List Bs)(a:Option Addr)(c:Nat)(w:World)(hg:uC w)(he:yF w)(hx:vw w a xs)(oY:xs.length<=9223372036854775807)(iG:∀x∈xs,x.length<=9223372036854775807) :
 Calls RG 3 #[s,.slice a xs.length c] w fun en w'=>en=.returned (.bool true)/\No w w':=by
 by_cases ha:1048576<s.length
 ·have ha':(1048576:Int)<(s.length:Int):=by omega
  go_enter XC,Xs;go_wp2_with fail
  go_ret;exact⟨rfl,sQ _ _⟩
 have ha':¬(1048576:Int)<(s.length:Int):=by omega
 have hs:Lim s.length:=show _<=_ by omega
 have CS:Hid (Calls RG 4 #[.slice a xs.length c,.int .i64 1048576] w (Sized 1048576 xs w)):=r9 (szStringS_any 1048576 a c xs w hx (by omega) oY iG);have HX:=r9 hx;clear hx oY iG ha;go_enter XC,Xs;go_wp2_with fail
 refine CS.out.mono ?_;rintro en w0 ⟨rfl,rfl | ⟨r,rfl,hl,iG⟩⟩
 ·go_wp2_with fail
  go_ret;exact⟨rfl,sQ _ _⟩
 have PQ:xs.length<=16777216:=by omega
 have oY:Lim xs.length:=show _<=_ by omega
 have OF:∀x∈xs,Lim x.length:=fun x hx=>show _<=_ by have:=iG x hx;omega
 have HL:=r9 (r_ PQ (r_ oY OF));clear hl iG PQ oY OF;have Hs:¬(r:Int)<0:=by omega
 go_wp2_with fail
 refine(wR a c xs w0 HX.out HL.out.1).mono ?_;rintro en w1 ⟨a1,c1,rfl,Ba,sX⟩;have H1:=r9 (r_ Ba sX);clear Ba sX;go_wp2_with fail
 refine(mH s xs a1 c1 w1 H1.out.1 hs HL.out.2.2 HL.out.2.1).mono ?_;rintro en w2 ⟨rfl,sY⟩;have h02:=zzT H1.out.2 sY;have H2:=r9 h02;clear sY h02;have Cc:=HX.out.below H2.out;have C2:=r9 (wR a c xs w2 Cc HL.out.1);clear Cc;generalize hp:wY s xs=p;obtain⟨p0,p1⟩:=p;go_wp2_with fail
 refine C2.out.mono ?_;rintro en w3 ⟨a3,c3,rfl,I6,sE⟩;have h03:=zzT H2.out sE;have H3:=r9 (r_ I6 h03);clear I6 sE h03;have C3:=r9 (mN s xs a3 c3 w3 (hg.below H3.out.2) (he.below H3.out.2) H3.out.1 hs HL.out.2.2 HL.out.2.1);rw[hp]at C3;go_wp2_with fail
 refine C3.out.mono ?_;rintro en w4 ⟨rfl,sO⟩;have N7:=zzT H3.out.2 sO;have Ko:=H3.out.1.below sO;have H4:=r9 (r_ Ko N7);clear Ko sO N7;have e0:(p0 != p0)=false:=by simp
 have e1:(p1 != p1)=false:=by simp
 have C4:=r9 (wR a c xs w4 (HX.out.below H4.out.2) HL.out.1);go_wp2_with fail
 refine C4.out.mono ?_;rintro en w5 ⟨a5,c5,rfl,hx5,sx⟩;have h05:=zzT H4.out.2 sx;have H5:=r9 (r_ hx5 (r_ (H4.out.1.below sx) h05));clear hx5 sx h05;go_wp2_with fail
 refine(eqStringS_any a3 a5 c3 c5 xs w5 H5.out.2.1 H5.out.1 HL.out.1).mono ?_;rintro en w6 ⟨rfl,sM⟩;have h06:=zzT H5.out.2.2 sM;have H6:=r9 h06;clear sM h06;go_wp2_with fail
 go_ret;exact⟨rfl,H6.out⟩
end Go.Proofs.YtnfenijemllkbaaGreatDoor

/- Walks. -/
import Derived.Test.YtnfenijemllkbaaGreatDoorQ1
set_option linter.unusedVariables false
set_option linter.unusedSimpArgs false
set_option maxHeartbeats 4000000
set_option maxRecDepth 100000
open Option renaming none->U
open Option renaming some->OK
open Bool renaming false->RC
open Go.IntKind renaming i64->RD
open Array renaming ext'->VR,getElem?_eq_getElem->Sh,getElem_modify_self->T0
open Bool renaming false_eq_true->UO
open Go.Lib renaming atoiAll->To,indexAny->WW,itoa->Tb
open Go.Proofs.Tryz renaming func22->W6,func27->WZ,func45->T8,func91->VI,ntmps22->Wy,ntmps27->Wx,ntmps45->TQ,ntmps91->Vy,prog->RG,results22->Uu,results45->SI,underlying45->Ud
open Go.Value renaming ownBlock->RM,slice->RI
open Go.World renaming cell?->RE,cell?_of_block->TP,freeze->Ug,frozen?_of_block->SK,setCell->Ts,var?->WX
open List renaming append_nil->R9,drop_zero->We,isPrefixOf_iff_prefix->SL,length_append->RL,mem_cons->Sc,mem_of_getElem?->RX,take_length->R8
open Nat renaming zero_le->R6
open Option renaming bind_eq_bind->RJ,bind_eq_some_iff->RH,bind_none->S0,bind_some->RF,map_eq_some_iff->RP
namespace Go.Proofs.YtnfenijemllkbaaGreatDoor
open Go.RowKit
def gr (l:Bs):Int:=if (zM l)=[] then -1 else (zR l).length
theorem y_ (l:Bs):zR l++zM l=l:=List.takeWhile_append_dropWhile
theorem word_take (l:Bs):l.take (zR l).length=zR l:=by
 have h:=y_ l;have:=List.take_left (l₁:=zR l) (l₂:=zM l);rw[h]at this;exact this
theorem word_drop (l:Bs):l.drop (zR l).length=zM l:=by
 have h:=y_ l;have:=List.drop_left (l₁:=zR l) (l₂:=zM l);rw[h]at this;exact this
theorem yr (l:Bs):(zR l).length+(zM l).length=l.length:=by
 have:=congrArg List.length (y_ l);simpa using this
theorem indexAny_sep (l:Bs):WW l [32,40,41]=gr l:=by
 induction l with
 |nil=>rfl
 | cons b l ih =>
   rw[WW];have hs:([32,40,41]:Bs).contains b=sep b:=by
    rw[Bool.eq_iff_iff];simp[sep,or_assoc]
   rw[hs];cases hb:sep b
   ·have e1:zR (b::l)=b::zR l:=by simp[zR,hb]
    have e2:zM (b::l)=zM l:=by simp[zM,hb]
    rw[ih];unfold gr;rw[e1,e2];by_cases h:zM l=[]
    ·simp[h]
    ·simp only[h,if_false,UO];rw[if_neg (by rw[beq_iff_eq];omega)];simp
   ·have e1:zR (b::l)=[]:=by simp[zR,hb]
    have e2:zM (b::l)=b::l:=by simp[zM,hb]
    unfold gr;rw[e1,e2];simp
theorem indexAny_any (l:Bs)(w:World)(hl:Lim l.length) :
 Calls RG 101 #[l,.string ⟨#[32,40,41]⟩] w fun en w'=>en=.returned (.int RD (gr l))/\No w w':=by
 have Ar:=hl.le;have tV:(⟨l.toArray⟩:ByteArray).size=l.length:=gS l;rw[<- indexAny_sep];by_cases h8:l.length<=8
 ·have:=rJ ⟨l.toArray⟩ (by omega) w;simpa[str] using this
 ·refine (Tryz.strings_IndexAny_long (zero_of_info (n:=256) (by kernel_rfl)).1 ⟨l.toArray⟩ ⟨#[32,40,41]⟩ w (by show 2<=3;omega) (by omega) (by omega) (by show 3<4294967281;omega) (by
   intro j b hj;have:b∈([32,40,41]:Bs):=RX hj;simp at this
   rcases this with rfl | rfl | rfl <;> decide)).mono ?_
  rintro e w' ⟨rfl,rfl⟩;refine⟨by simp,((sQ _ _).alloc (sZ _) _).alloc (by simp) _⟩
theorem wv (sc:Nat)(c:List Value)(e:TypeId)(r:Bs)(w:World)(h:qL sc c e r w)(hr:Lim r.length) :
 Calls RG 77 #[sc] w fun en w'=>
  en=.returned (str (zR r))/\But (· = sc) w w'/\qL sc c e (zM r) w':=by
 have h1:=h.cell;have h2:=h.free 0;have Cu:=yK h;have hl:=hr.le;have hw:=yr r;go_enter Tryz.func77,Tryz.ntmps77;go_wp2_with fail
 refine(indexAny_any r w hr).mono ?_;rintro en w1 ⟨rfl,hb⟩;have c1:w1 sc=str r:=by rw[hb.cell Cu];exact h1
 have c2:w1.frozen? sc=RC:=by rw[hb.frozen Cu];exact h2
 have hS:qL sc c e r w1:=by unfold qL;rw[hb.block sc Cu];exact h
 clear h1 h2;by_cases h0:zM r=[]
 ·have hi:gr r = -1:=by simp[gr,h0]
  rw[hi];have e1:zR r=r:=by have:=y_ r;rw[h0]at this;simpa using this
  have HE:=r9 e1;have H0:=r9 h0;clear e1 h0 hi;go_wp2_with fail
  go_ret;have e2:(⟨r.toArray⟩:ByteArray).extract 0 r.length=⟨(zR r).toArray⟩:=by rw[bI,HE.out];simp
  refine⟨?_,(But.ofBelow hb).setS 0 _,?_⟩
  ·show Ending.returned (.string _)=_;rw[e2]
  ·have:=hS.put (r':=zM r);rw[H0.out]at this ⊢;exact this
 ·have hi:gr r=(zR r).length:=by simp[gr,h0]
  rw[hi];have sC:(zR r).length<=r.length:=by omega
  have H0:=r9 h0;clear h0 hi;go_wp2_with fail
  go_ret;have e2:(⟨r.toArray⟩:ByteArray).extract 0 (zR r).length=⟨(zR r).toArray⟩:=by rw[bI,We,word_take]
  have e3:(⟨r.toArray⟩:ByteArray).extract (zR r).length r.length=⟨(zM r).toArray⟩:=by rw[bI,R8,word_drop]
  refine⟨?_,(But.ofBelow hb).setS 0 _,?_⟩
  ·show Ending.returned (.string _)=_;rw[e2]
  ·rw[e3];exact hS.put
structure uC (w:World):Prop where
 e0:∃te pe,w.var? RG "strconv.ErrSyntax" = OK #[.iface te pe]
 e1:∃te pe,w.var? RG "strconv.ErrRange" = OK #[.iface te pe]
 tab:Lib.TabIs RG w "internal/strconv.uint64pow10" .u64 Lib.pow10Tab
def ru (b:Nat):Prop:=b≠5/\b≠6/\b≠1
theorem Tryz.gn0:RG.globalNamed "strconv.ErrSyntax" = OK 5:=by kernel_rfl
theorem Tryz.gn1:RG.globalNamed "strconv.ErrRange" = OK 6:=by kernel_rfl
theorem Tryz.gn2:RG.globalNamed "internal/strconv.uint64pow10" = OK 1:=by kernel_rfl
theorem eD {P:Program}{w:World}{nm:String}{g:Nat}{x:Array Value}(hg:P.globalNamed nm=g)(h:w.var? P nm=x):g<w:=by
 unfold WX at h;rw[hg]at h;simp only[RF]at h;rcases Nat.lt_or_ge g w with h'|h'
 ·exact h'
 ·rw[Array.getElem?_eq_none h']at h;simp at h
theorem mp {P:Program}{w w':World}{nm:String}{g:Nat}{x:Array Value}(hg:P.globalNamed nm=g)(hk:w'.heap[g]?=w.heap[g]?)(h:w.var? P nm=x):w'.var? P nm=x:=by
 unfold WX at *;rw[hg] at *;simp only[RF] at *;rw[hk];exact h
theorem uC.but {m:Nat->Prop}{w w':World}(h:uC w)(hb:But m w w')(hm:∀i,m i->ru i):uC w':=by
 obtain⟨⟨t0,p0,h0⟩,⟨t1,p1,h1⟩,h2⟩:=h;have l0:=eD Tryz.gn0 h0;have l1:=eD Tryz.gn1 h1;have l2:=eD Tryz.gn2 h2;exact⟨⟨t0,p0,mp Tryz.gn0 (hb.block _ l0 fun e=>(hm _ e).1 rfl) h0⟩,⟨t1,p1,mp Tryz.gn1 (hb.block _ l1 fun e=>(hm _ e).2.1 rfl) h1⟩,mp Tryz.gn2 (hb.block _ l2 fun e=>(hm _ e).2.2 rfl) h2⟩
theorem uC.below {w w':World}(h:uC w)(hb:No w w'):uC w':=h.but (m:=fun _=>False) (But.ofBelow hb) (fun _ e=>e.elim)
theorem uC.new {w:World}(h:uC w){b:Nat}(hb:w<=b):ru b:=by
 obtain⟨⟨t0,p0,h0⟩,⟨t1,p1,h1⟩,h2⟩:=h;have l0:=eD Tryz.gn0 h0;have l1:=eD Tryz.gn1 h1;have l2:=eD Tryz.gn2 h2;exact⟨by omega,by omega,by omega⟩
theorem below_drewN {B:Nat}{a w:World}(h:Below B a w)(n:Nat):Below B a (w.drewN n):=h.trans ⟨rfl,rfl,rfl,sZ _,fun _ _=>rfl⟩
theorem below_grow (w:World)(os:Array Obj):No w (Go.Sort.grow w os):=
 ⟨rfl,rfl,rfl,by simp[Go.Sort.grow],fun k hk=>by simp[Go.Sort.grow,Array.getElem?_append_left hk]⟩
theorem below_freeze {B:Nat}{a w:World}(h:Below B a w){p:Addr}(hp:B<=p.block)(n:Nat):Below B a (w.freeze p n):=by
 refine h.trans ⟨?_,?_,?_,?_,?_⟩
 ·unfold Ug;split <;> rfl
 ·unfold Ug;split <;> rfl
 ·unfold Ug;split <;> rfl
 ·unfold Ug;split <;> simp
 ·intro k hk;unfold Ug;split
  ·rfl
  ·simp only[Array.getElem?_modify];rw[if_neg (by omega)]
theorem fE (w:World)(e:TypeId)(s:ByteArray):No w (Lib.bytesWorld w e s):=
 below_freeze (((sQ w w).drew).alloc (sZ _) _) (sZ _) _
theorem atoi_ok (l:Bs)(w:World)(hl:Lim l.length)(v:Int)(h:To l=.ok v) :
 Calls RG 110 #[l] w fun en w'=>en=.returned (.tuple #[.int RD v,.nilIface])/\No w w':=by
 have Ar:=hl.le;refine(Tryz.strconv_Atoi_ok ⟨l.toArray⟩ (by show l.toArray.size<=_;simp;omega) v h w).mono ?_;rintro en w' ⟨rfl,rfl | ⟨t,rfl⟩⟩
 ·exact⟨rfl,sQ _ _⟩
 ·exact⟨rfl,fE _ _ _⟩
theorem atoi_no (l:Bs)(w:World)(hl:Lim l.length)(hg:uC w)(h:∀v,To l≠.ok v) :
 Calls RG 110 #[l] w fun en w'=>∃v t p,en=.returned (.tuple #[.int RD v,.iface t p])/\No w w':=by
 have Ar:=hl.le;have hs:(⟨l.toArray⟩:ByteArray).size<=281474976710656:=by show l.toArray.size<=_;simp;omega
 cases ha:To l
 ·rename_i v;exact absurd ha (h v)
 ·obtain⟨te,pe,h0⟩:=hg.e0;refine(Tryz.strconv_Atoi_syntax_var ⟨l.toArray⟩ hs ha te pe w h0).mono ?_;rintro en w' ⟨N,rfl,_,_,hb⟩;exact⟨_,_,_,rfl,hb⟩
 ·obtain⟨te,pe,h0⟩:=hg.e1;refine(Tryz.strconv_Atoi_range_var ⟨l.toArray⟩ hs ha te pe w h0).mono ?_;rintro en w' ⟨N,rfl,_,_,hb⟩;exact⟨_,_,_,rfl,hb⟩
theorem rZ (n:Int)(w:World)(hg:uC w)(h0 : -9223372036854775808<=n)(h1:n<=9223372036854775807) :
 Calls RG 28 #[.int RD n] w fun en w'=>en=.returned (str (Tb n))/\No w w':=by
 refine(Tryz.strconv_Itoa n h0 h1 w hg.tab).mono ?_;rintro en w' ⟨rfl,k,os,rfl⟩;exact⟨rfl,(below_drewN (sQ _ _) k).trans (below_grow (w.drewN k) os)⟩
theorem rA {l:Bs}{v:Int}(h:To l=.ok v) : -9223372036854775808<=v/\v<=9223372036854775807:=by
 unfold To at h;split at h
 ·simp at h
 ·simp only at h;split at h
  ·simp at h
  ·simp at h
  ·split at h
   ·simp at h
   ·split at h
    ·simp at h
    ·rename_i h1 h2;simp only[Lib.NumEnd.ok.injEq]at h;split at h <;> omega
theorem itoa_of {l:Bs}{v:Int}(h:To l=.ok v)(w:World)(hg:uC w) :
 Calls RG 28 #[.int RD v] w fun en w'=>en=.returned (str (Tb v))/\No w w':=
 rZ v w hg (rA h).1 (rA h).2
def uF (sr:Nat)(w:World)(o:Option (Bd×Bs×Nat))(en:Ending)(w':World):Prop:=
 ∃ (v:Value) (r':Bs) (left':Int),en=.returned v/\But (fun x=>x=sr) w w'/\qL sr [.int .i64 left'] 168 r' w'/\(o=none->v=.pointer none) /\
   (∀b rest tU,o=OK (b,rest,tU)->r'=rest/\left'=(tU:Nat)/\Rep (w<=·) w' (kM b) v)
theorem zg {F:Nat->Prop}{w:World}{b:Bd}{v:Value}(h:Rep F w (kM b) v):∃a,v=.pointer (OK ⟨a,0,U⟩):=by
 cases b with
 |leaf c=>rw[kM,jx]at h;obtain⟨a,c,h,_⟩:=h;exact⟨a,h⟩
 |ask v ss y n=>rw[kM,jx]at h;obtain⟨a,c,h,_⟩:=h;exact⟨a,h⟩
theorem uF.no {sr:Nat}{w:World}{o:Option (Bd×Bs×Nat)}{w':World}{r:Bs}{left:Int}(ho:o=U)(hb:But (fun x=>x=sr) w w')(hs:qL sr [.int RD left] 168 r w') :
 uF sr w o (.returned (.pointer U)) w':=
 ⟨_,r,left,rfl,hb,hs,fun _=>rfl,fun _ _ _ h=>by rw[ho]at h;simp at h⟩
theorem uF.yes {sr:Nat}{w:World}{o:Option (Bd×Bs×Nat)}{w':World}{r:Bs}{left:Nat}{b:Bd}{v:Value}(ho:o=OK (b,r,left))(hb:But (fun x=>x=sr) w w')(hs:qL sr [.int RD left] 168 r w')(hv:Rep (w<=·) w' (kM b) v):uF sr w o (.returned v) w':=
 ⟨_,r,left,rfl,hb,hs,fun h=>by rw[ho]at h;simp at h,fun _ _ _ h=>by rw[ho]at h;simp at h;obtain⟨rfl,rfl,rfl⟩:=h;exact⟨rfl,rfl,hv⟩⟩
def jD (d:Nat)(levels:List Ty):Prop:=(∀t∈levels,zU t<=15)/\levels.length+15*d<=10000
def h_ (d:Nat):Prop:=∀(sr left:Nat) (levels:List Ty) (l:Bs) (lv:Value) (F:Nat->Prop) (w:World),uC w->ru sr->
 qL sr [.int RD left] 168 l w->left<=1000->Lim l.length->jD d levels->
 Rep F w (.sl 33 1 levels.length (qh levels)) lv->(∀b,F b->b≠sr)->
 Calls RG 91 #[sr,lv,.int RD d] w (uF sr w (rdB d levels left l))
theorem d8 (a b:List Ty):qh (a++b)=qh a++qh b:=by
 induction a with
 |nil=>rfl
 |cons t ts ih=>simp[qh,ih]
theorem bV {F:Nat->Prop}{m:Nat->Prop}{w w':World}{e:TypeId}{sz n:Nat}{cs:List DV}{v:Value}{news:List Value}(hb:But m w w')(hF:∀b,F b->¬m b)(h:Rep F w (.sl e sz n cs) v)(hs:zz sz v n news w):zz sz v n news w':=by
 rw[zv]at h;obtain⟨hl,a,cap,rfl,hn,hz,h⟩:=h;obtain⟨h1,h2,h3⟩:=hs;refine⟨h1,h2,?_⟩;rcases h with rfl|⟨b,o,c,fr,rfl,sA,hc,hr⟩
 ·have:news=[]:=List.eq_nil_of_length_eq_zero (by simpa using h1);subst this;rcases h3 with ⟨a',c',e',_⟩|h3
  ·exact .inl ⟨a',c',e',by simp⟩
  ·exact .inr h3
 ·rcases h3 with ⟨a',c',e',h3⟩|⟨h3,_⟩
  ·simp at e';obtain⟨e1,e2⟩:=e';subst e1;refine .inl ⟨_,cap,rfl,fun j u hj=>?_⟩;have:=h3 j u hj;rw[hb.cell (sK w _ this) ?_]
   ·exact this
   ·unfold Addr.add;split <;> exact hF b sA
  ·simp at h3
theorem part_pre {F:Nat->Prop}{sr:Nat}{left:Int}{levels more:List Ty}{r1:Bs}{xs1 xs2:List Value}{ac:Option Addr}{kc:Nat}{w w1 wx wc:World}(hg:uC w)(hn:ru sr)(Hd:sr<w)(sX:But (fun x=>x=sr) w w1)(iH:qL sr [.int RD left] 168 r1 w1)(hF:∀b,F b->b≠sr)(G1:zY F w1 (qh levels) xs1)(G2:zY F w1 (qh more) xs2)(hx:No w1 wx)(Mr:Own wc 33 1 (.slice ac (levels.length+more.length) kc) (levels.length+more.length) (xs1++xs2))(K9:No wx wc)(DE:∀g,(RI ac (levels.length+more.length) kc).ownBlock=OK g->(wx:Nat)<=g) :
 No w1 wc/\uC wc/\qL sr [.int RD left] 168 r1 wc /\
  Rep (fun b=>b≠sr) wc (.sl 33 1 (levels++more).length (qh (levels++more))) (.slice ac (levels.length+more.length) kc):=by
 have z1:=sX.size;have hb:No w1 wc:=zzT hx K9;refine⟨hb,(hg.but sX fun i e=>by subst e;exact hn).below hb,(hb.block sr (by omega)).trans iH,?_⟩;rw[RL,d8];refine Mr.rep (fun g h=>?_) (zY.append (G1.below hb hF) (G2.below hb hF));have:=DE g h;have:=hx.size;omega
theorem nT (d:Nat)(ih:h_ d)(sr left:Nat)(levels more:List Ty)(l:Bs)(lv mv:Value)(F:Nat->Prop)(w:World)(b1 b2 b3:Nat)(hg:uC w)(hn:ru sr)(hs:qL sr [.int RD left] 168 l w)(hl:left<=1000)(hr:Lim l.length)(hh:jD d (levels++more))(hd:d<=1000)(iT:Rep F w (.sl 33 1 levels.length (qh levels)) lv)(hmv:Rep F w (.sl 33 1 more.length (qh more)) mv)(hF:∀b,F b->b≠sr)(c1:w b1=OK (.pointer (OK ⟨sr,0,U⟩)))(c2:w b2=lv)(c3:w b3=OK (.int RD ((d:Int)+1)))(n1:b1≠sr)(n2:b2≠sr)(n3:b3≠sr) :
 Calls RG 111 #[mv,b1,b2,b3] w (uF sr w (jm (rdB d) (levels++more) left l)):=by
 have IH:=r9 ih;clear ih;have HF:=r9 hF;clear hF;have l1:=sK w _ c1;have l2:=sK w _ c2;have l3:=sK w _ c3;go_enter Tryz.func111,Tryz.ntmps111;go_wp2_with fail
 rcases kC [32] l with h1|⟨r1,h1⟩
 ·refine(vo hs h1).mono ?_;rintro en w1 ⟨rfl,sX,iH⟩;go_wp2_with fail
  go_ret;exact uF.no (by simp[jm,h1.out]) sX iH
 ·refine(jf hs h1).mono ?_;rintro en w1 ⟨rfl,sX,iH⟩;have d1:w1 b1=OK (.pointer (OK ⟨sr,0,U⟩)):=by rw[sX.cell l1 n1];exact c1
  have d2:w1 b2=lv:=by rw[sX.cell l2 n2];exact c2
  have d3:w1 b3=OK (.int RD ((d:Int)+1)):=by rw[sX.cell l3 n3];exact c3
  obtain⟨xs1,Ba,g1⟩:=zz.ofRep iT (wS _);obtain⟨xs2,Cc,g2⟩:=zz.ofRep hmv (wS _);have lim:levels.length+more.length<=10000:=by have:=hh.2;simp at this;omega
  have Hd:=yK hs;have z1:=sX.size;have N3:=HF.out;have G1:=r9 (zY.but sX (fun b hb=>⟨HF.out b hb,hb⟩) Ba);have G2:=r9 (zY.but sX (fun b hb=>⟨HF.out b hb,hb⟩) Cc);have W1:zz 1 lv levels.length xs1 w1:=bV sX N3 iT g1;have W2:zz 1 mv more.length xs2 w1:=bV sX N3 hmv g2;clear N3 Ba Cc g1 g2 c1 c2 c3;obtain⟨a1,k1,rfl⟩:=W1.slice;obtain⟨a2,k2,rfl⟩:=W2.slice;have l1':b1<(w1:Nat):=by omega
  have l2':b2<(w1:Nat):=by omega
  have l3':b3<(w1:Nat):=by omega
  go_wp2_with fail
  have HW:=r9 (IntWalk.i64_in (d:Int) (by omega))
  go_region_held3 (fun w'=>w' b1=OK (.pointer (OK ⟨sr,0,U⟩))/\w' b2=OK (.slice a1 levels.length k1)/\w' b3=OK (.int RD ((d:Int)+1)))
   (first
    |exact⟨(Af.cell l1' n1).trans d1,(Af.cell l2' n2).trans d2,(Af.cell l3' n3).trans d3⟩
    |exact⟨(hbb.cell l1').trans d1,(hbb.cell l2').trans d2,(hbb.cell l3').trans d3⟩
    | go_keep)
   (first
    |(go_at_call 112;refine(concatK_any w1 levels.length more.length (.slice a1 levels.length k1) (.slice a2 more.length k2) xs1 xs2 _ (by simp) (by simp) (W1.keep fun _ _ h=>by simpa using zV h) (W2.keep fun _ _ h=>by simpa using zV h) (show _<=_ by omega) (show _<=_ by omega) (show _<=_ by omega)).mono ?_;rintro en wc ⟨ac,kc,rfl,Mr,K9,DE⟩;obtain⟨hbb,hgc,Cu,Ml⟩:=part_pre hg hn Hd sX iH HF.out G1.out G2.out (((sQ w1 w1).alloc (sZ _) _).drew) Mr K9 DE)
    | (go_at_call 91
       rw[HW.out];refine(IH.out sr left (levels++more) r1 _ (fun b=>b≠sr) wc hgc hn Cu hl (hr.mono h1.le) hh Ml (fun b h=>h)).mono ?_
       rintro en wf ⟨v,r',left',rfl,hbf,Ap,JG,hyf⟩;have Af:=(But.ofBelow (m:=fun x=>x=sr) hbb).trans hbf))
  go_wp2_with fail
  go_ret;refine⟨v,r',left',rfl,sX.trans Af,Ap,fun h=>JG ?_,fun b rest tU h=>?_⟩
  ·simpa[jm,h1.out] using h
  ·obtain⟨e1,e2,e3⟩:=hyf b rest tU (by simpa[jm,h1.out] using h);exact⟨e1,e2,(Rep.keep fun b o h ho=>⟨by have:=h;have:=hbb.size;omega,ho⟩).1 _ _ e3⟩
theorem qL.cell1 {sc:Nat}{c:List Value}{e:TypeId}{r:Bs}{u:Value}{w:World}(h:qL sc (u::c) e r w):w (sc,1)=u:=by
 simp[RE,qL] at *;simp[h]
theorem qL.put1 {sc:Nat}{c:List Value}{e:TypeId}{r:Bs}{u u':Value}{w:World}(h:qL sc (u::c) e r w):qL sc (u'::c) e r (w.setCell (sc,1) u'):=by
 unfold qL at *;have sC:=zZ h;have h':w.heap[sc]=.cells (str r::u::c).toArray e (0,0):=by simpa[Sh sC] using h
 show (w.heap.modify sc _)[sc]?=_;rw[Sh (by simpa using sC),T0,h'];simp
def mP (B sr:Nat)(lv:Value)(d:Nat)(w:World):Prop:=
 w B=OK (.pointer (OK ⟨sr,0,U⟩))/\w (B+1:Nat)=lv/\w (B+1+1:Nat)=OK (.int RD (d:Int))
theorem mP.but {B sr:Nat}{lv:Value}{d:Nat}{m:Nat->Prop}{w w':World}(h:mP B sr lv d w)(hb:But m w w')(hm:∀i,m i->i≠B/\i≠B+1/\i≠B+1+1):mP B sr lv d w':=by
 obtain⟨h1,h2,h3⟩:=h;refine⟨?_,?_,?_⟩
 ·rw[hb.cell (sK w _ h1) (fun e=>(hm _ e).1 rfl)];exact h1
 ·rw[hb.cell (sK w _ h2) (fun e=>(hm _ e).2.1 rfl)];exact h2
 ·rw[hb.cell (sK w _ h3) (fun e=>(hm _ e).2.2 rfl)];exact h3
def xE (ob v:Nat)(slv y n:Value)(w:World):Prop:=w.heap[ob]?=OK (.cells #[str [],.int RD v,slv,y,n] 71 (0,0))
theorem xE.cells {ob v:Nat}{slv y n:Value}{w:World}(h:xE ob v slv y n w):w (ob,2)=slv/\w (ob,3)=y/\w (ob,4)=n/\ob<w/\(∀o,w.frozen? ⟨ob,o,U⟩=RC):=by
 have hl:=zZ h;unfold xE at h;exact⟨by simp[RE,h],by simp[RE,h],by simp[RE,h],hl,fun o=>by simp[World.frozen?,h]⟩
theorem zT {w:World}{b o:Nat}{c:Array Value}{e:TypeId}{u:Value}(h:w.heap[b]?=OK (.cells c e (0,0))):(w.setCell (b,o) u).heap[b]?=OK (.cells (c.setIfInBounds o u) e (0,0)):=by
 have sC:=zZ h;have h':w.heap[b]=.cells c e (0,0):=by simpa[Sh sC] using h
 show (w.heap.modify b _)[b]?=_;rw[Sh (by simpa using sC),T0,h'];simp
theorem xE.put2 {ob v:Nat}{slv y n u:Value}{w:World}(h:xE ob v slv y n w):xE ob v u y n (w.setCell (ob,2) u):=by
 unfold xE;rw[zT h];rfl
theorem xE.put3 {ob v:Nat}{slv y n u:Value}{w:World}(h:xE ob v slv y n w):xE ob v slv u n (w.setCell (ob,3) u):=by
 unfold xE;rw[zT h];rfl
theorem xE.put4 {ob v:Nat}{slv y n u:Value}{w:World}(h:xE ob v slv y n w):xE ob v slv y u (w.setCell (ob,4) u):=by
 unfold xE;rw[zT h];rfl
def eB (sr B ob Z v d:Nat)(lv:Value)(levels ts:List Ty)(E3:Nat)(r0:Bs)(w:World)(rd:Rd)(k:Nat)(wr:World):Prop:=
 ∃ bs lk leftk slv vs,k9 rd (kx levels (ts.take k)) E3 r0=some (bs,lk,leftk)/\But (fun x=>x=sr) w wr/\qL sr [(leftk:Int)] 168 lk wr /\
   xE ob v slv (.pointer U) (.pointer U) wr/\Own wr 34 1 slv k vs/\(∀g,slv.ownBlock=OK g->Z<=g)/\zY (fun b=>Z<=b/\slv.ownBlock≠OK b) wr (qH bs) vs/\mP B sr lv (d+1) wr/\Z<=wr
theorem pi (a b:List Bd):qH (a++b)=qH a++qH b:=by
 induction a with
 |nil=>rfl
 |cons t ts ih=>simp[qH,ih]
theorem Tryz.infoB:(RG.info? 34).map (fun i=>(i.zero,i.size,i.bytes))=OK (OK (.pointer U),1,8):=by kernel_rfl
theorem nf {sr left:Nat}{x:UInt8}{r:Bs}{w w2:World}{o:Option (Bd×Bs×Nat)}{u:Value}(hw:u=str [x])(hm:o=OK (.leaf x,r,left))(hb:But (fun x=>x=sr) w w2)(hs:qL sr [(left:Int)] 168 r w2) :
 uF sr w o (.returned (.pointer (OK ⟨w2,0,U⟩))) (w2.alloc (.cells #[u,.int RD 0,(),.pointer U,.pointer U] 71)):=by
 refine uF.yes hm (hb.alloc _) (hs.alloc _) ?_;rw[kM,jx];refine⟨_,_,rfl,hb.size,zW _ _,?_⟩;subst hw;refine zQ.2 ⟨_,_,rfl,zC.2 rfl,zQ.2 ⟨_,_,rfl,zC.2 rfl,zQ.2 ⟨_,_,rfl,?_,zQ.2 ⟨_,_,rfl,zC.2 rfl,zQ.2 ⟨_,_,rfl,zC.2 rfl,zE.2 rfl⟩⟩⟩⟩⟩;exact zv.2 ⟨rfl,U,0,rfl,sZ _,fun _=>rfl,.inl rfl⟩
theorem jD.next {d:Nat}{levels:List Ty}{v:Nat}{t a:Ty}(h:jD (d+1) levels)(hv:levels[v]?=OK t)(ha:a∈t.args):jD d (levels++a.args):=by
 have ht:=h.1 t (RX hv);have tw:∀ts:List Ty,∀a∈ts,1+zU a<=zc ts:=by
  intro ts
  induction ts with
  |nil=>simp
  | cons x xs ih =>
    intro a ha;rcases Sc.1 ha with rfl|ha
    ·simp[zc]
    ·have:=ih a ha;simp[zc];omega
 have hlen:∀ts:List Ty,ts.length<=zc ts:=by
  intro ts
  induction ts with
  |nil=>simp
  |cons x xs ih=>simp[zc];omega
 have h1:=tw _ a ha;have h2:=kI t;have h3:=kI a;refine⟨fun x hx=>?_,?_⟩
 ·rcases List.mem_append.1 hx with hx|hx
  ·exact h.1 x hx
  ·have:=tw _ x hx;omega
 ·have:=hlen a.args;have:=h.2;simp;omega
theorem jD.same {d:Nat}{levels:List Ty}(h:jD (d+1) levels):jD d (levels++[]):=by
 refine⟨fun x hx=>h.1 x (by simpa using hx),?_⟩;have:=h.2;simp;omega
theorem eB.next {sr B ob Z v d:Nat}{lv:Value}{levels ts:List Ty}{E3:Nat}{r0:Bs}{w:World}{rd:Rd}{k:Nat}{wr w1 w2:World}{t:Ty}{bs:List Bd}{lk:Bs}{leftk:Nat}{slv:Value}{vs:List Value}{b:Bd}{rest:Bs}{tU:Nat}{vb:Value}{o:Obj}{a':Option Addr}{c':Nat}(ht:ts[k]?=OK t)(hp:k9 rd (kx levels (ts.take k)) E3 r0=OK (bs,lk,leftk))(hb:But (fun x=>x=sr) w wr)(az:xE ob v slv (.pointer U) (.pointer U) wr)(hZ:∀g,slv.ownBlock=OK g->Z<=g)(si:Own wr 34 1 slv k vs)(hr:zY (fun b=>Z<=b/\slv.ownBlock≠OK b) wr (qH bs) vs)(hx:mP B sr lv (d+1) wr)(hz:Z<=wr)(hq:jm rd (levels++t.args) leftk lk=OK (b,rest,tU))(sX:But (fun x=>x=sr) wr w1)(iH:qL sr [(tU:Int)] 168 rest w1)(hv:Rep (wr<=·) w1 (kM b) vb)(iz:Own w2 34 1 (.slice a' (k+1) c') (k+1) (vs++[vb]))(sY:But (fun b=>slv.ownBlock=OK b) (w1.alloc o) w2)(hg:∀g,(RI a' (k+1) c').ownBlock=OK g->slv.ownBlock=OK g\/g=(w1.alloc o).heap.size)(Hd:sr<w)(hB:w<=B)(Hw:B+1+1<ob)(hobZ:ob<Z) :
 eB sr B ob Z v d lv levels ts E3 r0 w rd (k+1) (w2.setCell (ob,2) (.slice a' (k+1) c')):=by
 have z1:=sX.size;have z2:=sY.size;have zw:=hb.size;rw[zK]at hg z2;have sC:∀g,slv.ownBlock=OK g->g<wr.heap.size:=fun g h=>si.lt h;have hnsr:∀g,slv.ownBlock=OK g->Z<=g:=hZ;have keep:∀i x,w1.heap[i]?=OK x->slv.ownBlock≠OK i->i≠ob->(w2.setCell ⟨ob,2,U⟩ (.slice a' (k+1) c')).heap[i]?=OK x:=by
  intro i x hi hne ho;rw[sJ _ _ _ _ (by simpa using ho),sY.block i (by rw[zK];have:=zZ hi;omega) hne];exact zJ hi
 have PG:xE ob v slv (.pointer U) (.pointer U) w1:=(sX.block ob (zZ az) (by omega)).trans az;have hnb2:xE ob v slv (.pointer U) (.pointer U) w2:=by
  unfold xE;rw[sY.block ob (by rw[zK];have:=zZ PG;omega) (fun e=>by have:=hZ ob e;omega)];exact zJ PG
 have Ba:=hx.but sX (fun i e=>by subst e;omega);refine⟨bs++[b],rest,tU,_,vs++[vb],?_,?_,?_,hnb2.put2,?_,?_,?_,?_,?_⟩
 ·rw[rV ht hp,hq];rfl
 ·refine((hb.trans sX).trans' ((But.refl (fun b=>slv.ownBlock=OK b) w1).alloc o |>.trans sY) fun i hi e=>?_).setCell (p:=⟨ob,2,U⟩) (.inr (by simp;omega)) _;have:=hZ i e;omega
 ·exact keep sr _ iH (fun e=>by have:=hZ sr e;omega) (by omega)
 ·refine iz.keep fun g x tS BS=>?_
  rw [sJ _ _ _ _ (by
   rcases hg g tS with h|h
   ·have:=hZ g h;simp;omega
   ·simp;omega)]
  exact BS
 ·intro g h;rcases hg g h with h|h
  ·exact hZ g h
  ·omega
 ·rw[pi];refine zY.append ?_ (zY.one ?_)
  ·refine(Rep.keep fun i x hi BS=>⟨⟨hi.1,fun e=>?_⟩,?_⟩).2 _ _ hr
   ·have hne:i≠sr:=by omega
    exact keep i x (by rw[sX.block i (zZ BS) hne];exact BS) hi.2 (by omega)
   ·rcases hg i e with h|h
    ·exact hi.2 h
    ·have:=zZ BS;omega
  ·refine(Rep.keep fun i x hi BS=>⟨⟨by have:=hi;omega,fun e=>?_⟩,?_⟩).1 _ _ hv
   ·exact keep i x BS (fun e=>by have:=sC i e;have:=hi;omega) (by have:=hi;omega)
   ·rcases hg i e with h|h
    ·have:=sC i h;have:=hi;omega
    ·have:=zZ BS;omega
 ·obtain⟨y1,y2,y3⟩:=Ba;have ck:∀i u,w1.cell? ⟨i,0,U⟩=OK u->slv.ownBlock≠OK i->i≠ob->(w2.setCell ⟨ob,2,U⟩ (.slice a' (k+1) c')).cell? ⟨i,0,U⟩=OK u:=by
   intro i u hi hne ho;rw[TP (w:=w1) (a:=⟨i,0,U⟩) ?_];exact hi;have hl:=sK w1 _ hi;obtain⟨x,BS⟩:∃x,w1.heap[i]?=OK x:=⟨w1.heap[i],by simp at hl;simp[hl]⟩;show (w2.setCell ⟨ob,2,U⟩ (.slice a' (k+1) c')).heap[i]?=w1.heap[i]?;rw[keep i x BS hne ho,BS]
  exact⟨ck _ _ y1 (fun e=>by have:=hZ _ e;omega) (by omega),ck _ _ y2 (fun e=>by have:=hZ _ e;omega) (by omega),ck _ _ y3 (fun e=>by have:=hZ _ e;omega) (by omega)⟩
 ·simp only[Ts];simp;omega
theorem body_ask (d:Nat)(hd:d+1<=1000)(ih:h_ d)(sr left:Nat)(levels:List Ty)(l:Bs)(lv:Value)(F:Nat->Prop)(w:World)(hg:uC w)(hn:ru sr)(hs:qL sr [.int RD ((left+1:Nat):Int)] 168 l w)(hl:left+1<=1000)(hr:Lim l.length)(hh:jD (d+1) levels)(iT:Rep F w (.sl 33 1 levels.length (qh levels)) lv)(hF:∀b,F b->b≠sr)(r1:Bs)(v:Nat)(t:Ty)(h1:Cut [40] l r1)(FW:lvl (zR r1) levels.length=v)(ht:levels[v]?=OK t) :
 Calls RG 91 #[sr,lv,.int RD ((d:Int)+1)] w (uF sr w (rdB (d+1) levels (left+1) l)):=by
 have HM:=r9 (dM (d+1) levels left h1.out);have hm:rdB (d+1) levels (left+1) l=nM (rdB d) levels v t left (zM r1):=by rw[HM.out,FW];simp only[ht]
 have HM:=r9 hm;clear hm;rw[rdAsk_eq]at HM;have IH:=r9 ih;clear ih;obtain⟨D1,sI,FX⟩:=lvl_lt FW;have Bp:=r9 sI;have ME:=r9 FX;have hlvl':=r9 FW;have HT:=r9 ht;have c1:=hs.cell1;have f1:=hs.free 1;have lsr:=yK hs;have lsr1:sr<w+1:=by omega
 have lsr2:sr<w+1+1:=by omega
 obtain⟨a0,k0,elv,_,_,sG⟩:=zH iT;obtain⟨bl,ol,u,dv,ea,N2,_,NO,lD,iK⟩:=sG v D1;rw[yH,ht]at NO;simp only[Option.map_some,Option.some.injEq]at NO;subst NO;subst ea;subst elv;obtain⟨bt,st,eu,hFt,K5,lC⟩:=zh iK;subst eu;obtain⟨sa,ks,est,Bv,_,II⟩:=zH lC;subst est;have Qo:w bt=OK (.slice sa t.args.length ks):=by simp[RE,K5]
 have nl:=hF bl N2;have nt:=hF bt hFt;have HF:=r9 hF;have Nu:=r9 II;have CL:=r9 lD;have CT:=r9 Qo;clear sI FX FW ht sG iK K5 lC hF II lD Qo;have hlen:levels.length<=10000:=by have:=hh.2;omega
 have AD:t.args.length<=15:=by
  have h1:=hh.1 t (RX HT.out);have h2:=kI t;have hlen:∀ts:List Ty,ts.length<=zc ts:=by
   intro ts
   induction ts with
   |nil=>simp
   |cons x xs ih=>simp[zc];omega
  have:=hlen t.args;omega
 go_enter VI,Vy;go_wp2_with fail
 obtain⟨W0,tW⟩:=zzM (((((w.setCell (sr,1) (.int RD left)).alloc (.cells #[sr] 166)).alloc (.cells #[.slice (bl,ol) levels.length k0] 37)).alloc (.cells #[.int RD ((d:Int)+1)] 3)));rw[<- tW];have s8:But (fun x=>x=sr) w W0:=by subst tW;exact((((But.refl _ _).setS 1 _).alloc _).alloc _).alloc _
 have oX:qL sr [.int RD left] 168 l W0:=by subst tW;exact((hs.put1).alloc _).alloc _ |>.alloc _
 have AA:mP w sr (.slice (bl,ol) levels.length k0) (d+1) W0:=by subst tW;refine⟨?_,?_,?_⟩ <;> go_simp
 have z0:(W0:Nat)=w+3:=by subst tW;simp
 clear tW c1 f1;refine(jf oX h1).mono ?_;rintro en w1 ⟨rfl,sX,iH⟩;have Ba:=AA.but sX (fun i e=>by subst e;omega);have hb:=s8.trans sX;have z1:=sX.size;clear s8 sX oX AA;obtain⟨x1,x2,x3⟩:=id Ba;go_wp2_with fail
 refine(wv _ _ _ _ _ iH (hr.mono h1.le)).mono ?_;rintro en w2 ⟨rfl,sY,lR⟩;have aV:=hr.mono h1.le;have Bb:=aV.mono (show (zR r1).length<=r1.length by have:=yr r1;omega);have Cc:=Ba.but sY (fun i e=>by subst e;omega);have sA:=hb.trans sY;have z2:=sY.size;have By:=hg.but sA (fun i e=>by subst e;exact hn);clear x1 x2 x3 hb sY iH Ba;go_wp2_with fail
 refine(atoi_ok _ _ Bb (v:Int) Bp.out).mono ?_;rintro en w3 ⟨rfl,sE⟩;have z3:=sE.size;have D7:=By.below sE;have Bf:=(sE.block sr (by omega)).trans lR;have I6:=Cc.but (But.ofBelow (m:=fun _=>False) sE) (fun i e=>e.elim);have hb:=sA.trans (But.ofBelow sE);clear sA sE lR Cc By;go_wp2_with fail
 refine(itoa_of Bp.out w3 D7).mono ?_;rintro en w4 ⟨rfl,sO⟩;have z4:=sO.size;have iy:=(sO.block sr (by omega)).trans Bf;have hg4:=D7.below sO;have Ko:=I6.but (But.ofBelow (m:=fun _=>False) sO) (fun i e=>e.elim);obtain⟨x1,x2,x3⟩:=id Ko;have sA:=hb.trans (But.ofBelow sO);have hq:(Tb (v:Int) == zR r1)=true:=by rw[beq_iff_eq];exact ME.out
 have G5:decide ((v:Int)<0)=RC:=by rw[decide_eq_false_iff_not];omega
 have AC:decide (levels.length<=v)=RC:=by rw[decide_eq_false_iff_not];omega
 have DH:(((d:Int)+1) == 0)=RC:=by rw[beq_eq_false_iff_ne];omega
 have s1:(w:Nat)+1<(w4:Nat):=by omega
 have s2:(w:Nat)<w4:=by omega
 have s3:(w:Nat)+1+1<(w4:Nat):=by omega
 have d1:w4 (bl,ol+v)=OK (.pointer (OK ⟨bt,0,U⟩)):=by rw[sA.cell (sK w _ CL.out) nl];exact CL.out
 have d2:w4 bt=OK (.slice sa t.args.length ks):=by rw[sA.cell (sK w _ CT.out) nt];exact CT.out
 have d3:=sK w4 _ d1;have d4:=sK w4 _ d2;clear hb sO Bf I6 D7;go_wp2_with fail
 have lZ:eB sr w w4 ((w4:Nat)+1) v d (.slice (bl,ol) levels.length k0) levels t.args left (zM r1) w (rdB d) 0
  (w4.alloc (.cells #[.string ⟨#[]⟩,.int RD v,(),.pointer U,.pointer U] 71)):=by
  refine⟨[],zM r1,left,(),[],by simp[kx,k9],sA.alloc _,qL.alloc iy _,zW _ _,World.ownsRow_nil _ _ _ _,fun g h=>by simp[RM]at h,zE.2 rfl,Ko.but ((But.refl (fun _=>False) _).alloc _) (fun i e=>e.elim),by simp⟩
 have L3:(w:Nat)+1+1<(w4:Nat):=s3;clear x1 x2 x3 d1 d2 d3 d4 Ko iy sA hg4;generalize hZ:w4.heap.size+1=Z at lZ;generalize hO:w4.heap.size=ob at *;have HZ:=r9 hZ;clear hZ;have HO:=r9 hO;clear hO
 go_loopw [93] (fun i wr=>∃k:Nat,k<=t.args.length/\i=.int RD k/\eB sr w ob Z v d (.slice (bl,ol) levels.length k0) levels t.args left (zM r1) w (rdB d) k wr)
  (fun i _=>t.args.length-(intOf i).toNat)
 case atStart=>exact⟨0,R6 _,rfl,lZ⟩
 case round=>
  clear lZ;rename_i wr;obtain⟨k,hk,rfl,hrel⟩:=hrel;obtain⟨bs,lk,leftk,slv,vs,hp,hb,Dh,az,si,hZb,tG,iw,Oz⟩:=hrel;have hple:=pI (nF d) _ hp;have PN:leftk<=1000:=by omega
  have lG:=wU r1;have Ig:Lim lk.length:=hr.mono (by have:=h1.le;omega);have hgk:uC wr:=hg.but hb (fun i e=>by subst e;exact hn);have Mx:Rep F wr (.sl 33 1 levels.length (qh levels)) (.slice (bl,ol) levels.length k0):=Rep.but hb (fun b hb=>⟨HF.out b hb,hb⟩) iT;have Gv:=r9 hp;have Le:=r9 hZb;clear hp hZb hple;by_cases sC:k<t.args.length
  ·obtain⟨ba,oa,uk,dk,esa,hFa,_,Ip,Jj,tq⟩:=Nu.out k sC;subst esa;rw[yH,RP]at Ip;obtain⟨tk,lM,rfl⟩:=Ip;obtain⟨bk,sk,euk,hFk,Qr,Mg⟩:=zh tq;subst euk;obtain⟨ask,ksk,esk⟩:∃a c,sk=.slice a tk.args.length c:=by obtain⟨a,c,e,_⟩:=zH Mg;exact⟨a,c,e⟩
   subst esk;have e1:wr (ba,oa+k)=OK (.pointer (OK ⟨bk,0,U⟩)):=by rw[hb.cell (sK w _ Jj) (HF.out ba hFa)];exact Jj
   have e2:wr bk=OK (.slice ask tk.args.length ksk):=by
    have:w bk=OK (.slice ask tk.args.length ksk):=by simp[RE,Qr]
    rw[hb.cell (sK w _ this) (HF.out bk hFk)];exact this
   have OY:Rep F wr (.sl 33 1 tk.args.length (qh tk.args)) (.slice ask tk.args.length ksk):=Rep.but hb (fun b hb=>⟨HF.out b hb,hb⟩) Mg;have hhk:jD d (levels++tk.args):=hh.next HT.out (RX lM);have HTK:=r9 lM;clear lM Jj Qr tq Mg;obtain⟨y1,y2,y3⟩:=id iw;go_wp2_with fail
   refine(nT d IH.out sr leftk levels tk.args lk _ _ F wr w ((w:Nat)+1) ((w:Nat)+1+1) hgk hn Dh PN Ig hhk (by omega) Mx OY HF.out y1 y2 y3 (by omega) (by omega) (by omega)).mono ?_;rintro en w5 ⟨vb,r',left',rfl,sx,B1,Cy,Cr⟩;clear y1 y2 y3 e1 e2;cases hq:jm (rdB d) (levels++tk.args) leftk lk with
   | none =>
     obtain rfl:=Cy hq;have HQ:=r9 hq;clear hq Cy Cr;go_wp2_with fail
     go_ret;refine uF.no ?_ (hb.trans sx) B1;rw[HM.out,hands_none (k+1) (by rw[rV HTK.out Gv.out,HQ.out];rfl)];rfl
   | some x =>
     obtain⟨b,rest,tU⟩:=x;obtain⟨rfl,rfl,E5⟩:=Cr b rest tU hq;have HQ:=r9 hq;clear hq Cy Cr;obtain⟨ab,evb⟩:=zg E5;subst evb;have FU:xE ob v slv (.pointer U) (.pointer U) w5:=(sx.block ob (zZ az) (by have:=HO.out;omega)).trans az;obtain⟨q1,_,_,q4,q5⟩:=FU.cells;have q6:=q5 2;have Bi:Own w5 34 1 slv k vs:=si.keep fun g o tS ho=>by rw[sx.block g (zZ ho) (by have:=Le.out g tS;have:=HZ.out;omega)];exact ho
     clear q5;go_wp2_with (at_builtin;refine zF rfl _ _ 69 rfl 34 (.pointer U) 1 8 Tryz.underlying69 Tryz.infoB rfl (by decide) slv k vs rfl ?c1 _ 1 [.pointer (OK ⟨ab,0,U⟩)] rfl ?c2 ?c3 ?c4 ?_)
     case c1=>exact Bi.keep fun g o tS ho=>zJ ho
     case c2=>exact zz.lit rfl
     case c3=>unfold maxLen;omega
     case c4=>omega
     intro a' c' w6 iz sM tS;have JJ:xE ob v slv (.pointer U) (.pointer U) w6:=by
      unfold xE;rw[sM.block ob (by simp;omega) (fun e=>by have:=Le.out ob e;have:=HZ.out;omega)];exact zJ FU
     have tF:=eB.next HTK.out Gv.out hb az Le.out si tG iw Oz HQ.out sx B1 E5 iz sM (fun g h=>(tS g h).imp_right fun e=>e.trans (by simp)) lsr (sZ _) L3 (by have:=HZ.out;omega);obtain⟨p1,_,_,p4,p5⟩:=JJ.cells;have p6:=p5 2;have HG:=r9 tS;clear tS p5;go_wp2_with fail
     go_roundw
     case rel=>exact⟨k+1,by omega,by go_num,tF⟩
     case measure=>simp[intOf];omega
  ·obtain rfl:k=t.args.length:=by omega
   have hp:k9 (rdB d) (kx levels t.args) left (zM r1)=OK (bs,lk,leftk):=by have:=Gv.out;rwa [R8]at this
   have HP:=r9 hp;clear hp Gv sC hk;have iS:∀W:World,Rep F W (.sl 33 1 ([]:List Ty).length (qh [])) ():=fun W=>zv.2 ⟨rfl,U,0,rfl,sZ _,fun _=>rfl,.inl rfl⟩;have hh0:=hh.same;have Rs:=r9 iS;clear iS;obtain⟨y1,y2,y3⟩:=id iw;go_wp2_with fail
   refine(nT d IH.out sr leftk levels [] lk _ _ F wr w ((w:Nat)+1) ((w:Nat)+1+1) hgk hn Dh PN Ig hh0 (by omega) Mx (Rs.out wr) HF.out y1 y2 y3 (by omega) (by omega) (by omega)).mono ?_;rw[R9] at *;rintro en w5 ⟨vb,r',left',rfl,sx,B1,Cy,Cr⟩;clear y1 y2 y3;have FU:xE ob v slv (.pointer U) (.pointer U) w5:=(sx.block ob (zZ az) (by have:=HO.out;omega)).trans az;have Qt:=iw.but sx (fun i e=>by subst e;omega);have iJ:=hb.trans sx;have z5:=sx.size;have zr:=hb.size;obtain⟨_,q2,_,q4,q5⟩:=FU.cells;have q6:=q5 3;clear q5;cases hq:jm (rdB d) levels leftk lk with
   | none =>
     obtain rfl:=Cy hq;have HQ:=r9 hq;clear hq Cy Cr;go_wp2_with fail
     go_ret;refine uF.no ?_ (iJ.setCell (p:=⟨ob,3,U⟩) (.inr (by simp;omega)) _) (r:=r') (left:=left') ?_
     ·rw[HM.out];simp only[HP.out,RJ,RF,HQ.out,S0]
     ·unfold qL;rw[sJ _ _ _ _ (by simp;omega)];exact B1
   | some x =>
     obtain⟨by1,rest1,oT⟩:=x;obtain⟨rfl,rfl,E5⟩:=Cr _ _ _ hq;have hle5:=pJ (nF d) hq;have HQ:=r9 hq;clear hq Cy Cr;obtain⟨ab,evb⟩:=zg E5;subst evb;have Mv:=FU.put3 (u:=.pointer (OK ⟨ab,0,U⟩));obtain⟨WA,NW⟩:=zzM (w5.setCell (ob,3) (.pointer (OK ⟨ab,0,U⟩)));go_wp2_with fail
     rw[<- NW]at Mv ⊢;have Fk:But (fun x=>x=sr) w WA:=by subst NW;exact iJ.setCell (p:=⟨ob,3,U⟩) (.inr (by simp;omega)) _
     have kA:∀i x,w5.heap[i]?=OK x->i≠ob->WA.heap[i]?=OK x:=by
      intro i x hx hne;subst NW;rw[sJ _ _ _ _ (by simpa using hne)];exact hx
     have zA:(WA:Nat)=w5:=by subst NW;simp[Ts]
     have hsA:qL sr [(oT:Int)] 168 r' WA:=kA _ _ B1 (by omega);have Qs:mP w sr (.slice (bl,ol) levels.length k0) (d+1) WA:=by
      subst NW;exact Qt.but (m:=fun i=>i=ob) ((But.refl (fun i=>i=ob) w5).setCell (p:=⟨ob,3,U⟩) (.inl rfl) _) (fun i e=>by subst e;omega)
     have hrsA:zY (fun b=>Z<=b/\slv.ownBlock≠OK b) WA (qH bs) vs:=
      (Rep.keep fun i x hi hx=>⟨hi,kA i x (by rw[sx.block i (zZ hx) (by have:=HZ.out;omega)];exact hx) (by have:=HZ.out;omega)⟩).2 _ _ tG
     have Pt:Own WA 34 1 slv t.args.length vs:=si.keep fun g o tS ho=>kA g o (by rw[sx.block g (zZ ho) (by have:=Le.out g tS;have:=HZ.out;omega)];exact ho) (by have:=Le.out g tS;have:=HZ.out;omega);have hv5A:Rep (wr<=·) WA (kM by1) (.pointer (OK ⟨ab,0,U⟩)):=(Rep.keep fun i x hi hx=>⟨hi,kA i x hx (by have:=zZ az;have:=hi;omega)⟩).1 _ _ E5;have hgA:uC WA:=hg.but Fk (fun i e=>by subst e;exact hn);have hlvA:Rep F WA (.sl 33 1 levels.length (qh levels)) (.slice (bl,ol) levels.length k0):=Rep.but Fk (fun b hb=>⟨HF.out b hb,hb⟩) iT;have KA:=r9 kA;clear NW kA q2 q4 q6 FU sx Qt B1 tG E5 Dh iw Mx hgk;obtain⟨y1,y2,y3⟩:=id Qs;refine(nT d IH.out sr oT levels [] r' _ _ F WA w ((w:Nat)+1) ((w:Nat)+1+1) hgA hn hsA (by omega) (Ig.mono (by omega)) (by rw[R9];exact hh0) (by omega) hlvA (Rs.out WA) HF.out y1 y2 y3 (by omega) (by omega) (by omega)).mono ?_;rw[R9] at *;rintro en w6 ⟨vn,r6,Ov,rfl,sM,Jy,oL,Am⟩;clear y1 y2 y3;have JJ:xE ob v slv (.pointer (OK ⟨ab,0,U⟩)) (.pointer U) w6:=(sM.block ob (zZ Mv) (by have:=HO.out;omega)).trans Mv;have hbx6:=Qs.but sM (fun i e=>by subst e;omega);obtain⟨x1,_,_⟩:=id hbx6;have D8:=Fk.trans sM;have z6:=sM.size;obtain⟨_,_,q3,q4,q5⟩:=JJ.cells;have q6:=q5 4;clear q5;cases Cv:jm (rdB d) levels oT r' with
     | none =>
       obtain rfl:=oL Cv;have Jp:=r9 Cv;clear Cv oL Am;go_wp2_with fail
       go_ret;refine uF.no ?_ (D8.setCell (p:=⟨ob,4,U⟩) (.inr (by simp;omega)) _) (r:=r6) (left:=Ov) ?_
       ·rw[HM.out];simp only[HP.out,RJ,RF,HQ.out,Jp.out,S0]
       ·unfold qL;rw[sJ _ _ _ _ (by simp;omega)];exact Jy
     | some x =>
       obtain⟨bn,rest2,tU⟩:=x;obtain⟨rfl,rfl,hv6⟩:=Am _ _ _ Cv;have hle6:=pJ (nF d) Cv;have Jp:=r9 Cv;clear Cv oL Am;obtain⟨an,evn⟩:=zg hv6;subst evn;have PF:=JJ.put4 (u:=.pointer (OK ⟨an,0,U⟩));have hbD:But (fun x=>x=sr) w (w6.setCell (ob,4) (.pointer (OK ⟨an,0,U⟩))):=D8.setCell (p:=⟨ob,4,U⟩) (.inr (by simp;omega)) _;have hsD:qL sr [(tU:Int)] 168 r6 (w6.setCell (ob,4) (.pointer (OK ⟨an,0,U⟩))):=by
        unfold qL;rw[sJ _ _ _ _ (by simp;omega)];exact Jy
       go_wp2_with fail
       rcases kC [41] r6 with h7|⟨r7,h7⟩
       ·refine(vo hsD h7).mono ?_;rintro en w7 ⟨rfl,sH,Gs⟩;go_wp2_with fail
        go_ret;refine uF.no ?_ (hbD.trans sH) Gs;rw[HM.out];simp only[HP.out,RJ,RF,HQ.out,Jp.out,h7.out,S0]
       refine(jf hsD h7).mono ?_;rintro en w7 ⟨rfl,sH,Gs⟩;go_wp2_with fail
       go_ret;refine uF.yes (b:=.ask v bs by1 bn) (r:=r7) (left:=tU) ?_ (hbD.trans sH) Gs ?_
       ·rw[HM.out];simp only[HP.out,RJ,RF,HQ.out,Jp.out,h7.out]
       ·have i_:∀i x,w6.heap[i]?=OK x->i≠ob->i≠sr->w7.heap[i]?=OK x:=by
         intro i x hx hne H_;rw[sH.block i (by have:=zZ hx;simpa[Ts] using this) H_,sJ _ _ _ _ (by simpa using hne)];exact hx
        have keepA:∀i x,WA.heap[i]?=OK x->i≠ob->i≠sr->w7.heap[i]?=OK x:=fun i x hx hne H_=>i_ i x (by rw[sM.block i (zZ hx) H_];exact hx) hne H_;have hnb7:xE ob v slv (.pointer (OK ⟨ab,0,U⟩)) (.pointer (OK ⟨an,0,U⟩)) w7:=(sH.block ob (zZ PF) (by omega)).trans PF;have hZo:=HZ.out;have Dk:bs.length=t.args.length:=by
         have:=(pI (nF d) _ HP.out).2.2;simpa[kx] using this
        rw[kM,jx];refine⟨ob,_,rfl,by omega,hnb7,?_⟩;refine zQ.2 ⟨_,_,rfl,zC.2 rfl,zQ.2 ⟨_,_,rfl,zC.2 rfl,zQ.2 ⟨_,_,rfl,?_,zQ.2 ⟨_,_,rfl,?_,zQ.2 ⟨_,_,rfl,?_,zE.2 rfl⟩⟩⟩⟩⟩
        ·rw[Dk];refine(Pt.keep fun g o tS ho=>keepA g o ho (by have:=Le.out g tS;omega) (by have:=Le.out g tS;omega)).rep (fun g tS=>by have:=Le.out g tS;omega) ?_;exact(Rep.keep fun i x hi hx=>⟨by omega,keepA i x hx (by omega) (by omega)⟩).2 _ _ hrsA
        ·exact(Rep.keep fun i x hi hx=>⟨by have:=hi;omega,keepA i x hx (by have:=hi;omega) (by have:=hi;omega)⟩).1 _ _ hv5A
        ·exact(Rep.keep fun i x hi hx=>⟨by have:=hi;omega,i_ i x hx (by have:=hi;omega) (by have:=hi;omega)⟩).1 _ _ hv6
theorem body_step (d:Nat)(hd:d<=1000)(ih:∀d',d=d'+1->h_ d'):h_ d:=by
 intro sr left levels l lv F w hg hn hs hl hr hh iT hF;have IH:=r9 ih;clear ih;have HF:=r9 hF;clear hF;have c1:=hs.cell1;have f1:=hs.free 1;have lsr:=yK hs;have lsr1:sr<w+1:=by omega
 have lsr2:sr<w+1+1:=by omega
 obtain⟨a0,k0,elv⟩:∃a k,lv=.slice a levels.length k:=by obtain⟨a,k,e,_⟩:=zH iT;exact⟨a,k,e⟩
 subst elv;rcases left with _|left
 ·clear IH;go_enter VI,Vy;go_wp2_with fail
  go_ret;refine uF.no (by unfold rdB;rfl) (((((But.refl _ _).setS 1 _).alloc _).alloc _).alloc _) (((hs.put1).alloc _).alloc _ |>.alloc _)
 by_cases M1:∃d' r1 v t,d=d'+1/\Cut [40] l r1/\lvl (zR r1) levels.length=OK v/\levels[v]?=OK t
 ·obtain⟨d',r1,v,t,rfl,h1,h2,h3⟩:=M1;exact body_ask d' hd (IH.out d' rfl) sr left levels l _ F w hg hn hs hl hr hh iT HF.out r1 v t h1 h2 h3
 have Ry:=r9 M1;clear M1 IH;go_enter VI,Vy;go_wp2_with fail
 obtain⟨W0,tW⟩:=zzM (((((w.setCell (sr,1) (.int RD left)).alloc (.cells #[sr] 166)).alloc (.cells #[.slice a0 levels.length k0] 37)).alloc (.cells #[.int RD d] 3)));rw[<- tW];have s8:But (fun x=>x=sr) w W0:=by subst tW;exact((((But.refl _ _).setS 1 _).alloc _).alloc _).alloc _
 have oX:qL sr [.int RD left] 168 l W0:=by subst tW;exact((hs.put1).alloc _).alloc _ |>.alloc _
 have AA:mP w sr (.slice a0 levels.length k0) d W0:=by subst tW;refine⟨?_,?_,?_⟩ <;> go_simp
 have z0:(W0:Nat)=w+3:=by subst tW;simp
 have tE:=s8;clear tW c1 f1;have n1:w≠sr:=by omega
 have n2:w+1≠sr:=by omega
 have n3:w+1+1≠sr:=by omega
 rcases kC [40] l with h1|⟨r1,h1⟩
 ·refine(vo oX h1).mono ?_;rintro en w1 ⟨rfl,sX,iH⟩;obtain⟨x1,x2,x3⟩:=AA.but sX (fun i e=>by subst e;omega);go_wp2_with fail
  refine(wv _ _ _ _ _ iH hr).mono ?_;rintro en w2 ⟨rfl,sY,lR⟩;have hb:=(s8.trans sX).trans sY;have hm:rdB d levels (left+1) l=(if zR l=[116] then OK (Bd.leaf 116,zM l,left) else if zR l=[102] then OK (.leaf 102,zM l,left) else if zR l=[117] then OK (.leaf 117,zM l,left) else U):=by
   unfold rdB;simp only[h1.out]
  have HM:=r9 hm;clear hm;go_wp2_with fail
  ·have hw:zR l=[116]:=by assumption
   go_ret;exact nf (o:=rdB d levels (left+1) l) (x:=116) rfl (by rw[HM.out,if_pos hw]) hb lR
  ·have hw:zR l=[102]:=by assumption
   go_ret;exact nf (o:=rdB d levels (left+1) l) (x:=102) rfl (by rw[HM.out,if_neg (by rw[hw];decide),if_pos hw]) hb lR
  ·have hw:((!zR l == [116])=true/\(!zR l == [102])=true)/\(!zR l == [117])=true:=by assumption
   go_ret;simp only[Bool.not_eq_true',beq_eq_false_iff_ne]at hw;exact uF.no (by rw[HM.out,if_neg hw.1.1,if_neg hw.1.2,if_neg hw.2]) hb lR
  ·have hw:((!zR l == [116])=RC\/(!zR l == [102])=RC)\/(!zR l == [117])=RC:=by assumption
   have lF:¬zR l=[116]:=by assumption
   have Kr:¬zR l=[102]:=by assumption
   have hw3:zR l=[117]:=by simpa[lF,Kr] using hw
   go_ret;exact nf (o:=rdB d levels (left+1) l) (x:=117) (by rw[hw3]) (by rw[HM.out,if_neg lF,if_neg Kr,if_pos hw3]) hb lR
 refine(jf oX h1).mono ?_;rintro en w1 ⟨rfl,sX,iH⟩;have Ba:=AA.but sX (fun i e=>by subst e;omega);obtain⟨x1,x2,x3⟩:=Ba;go_wp2_with fail
 refine(wv _ _ _ _ _ iH (hr.mono h1.le)).mono ?_;rintro en w2 ⟨rfl,sY,lR⟩;have aV:=hr.mono h1.le;have hb:=(s8.trans sX).trans sY;have Cc:=(AA.but sX (fun i e=>by subst e;omega)).but sY (fun i e=>by subst e;omega);clear x1 x2 x3;have By:=hg.but hb (fun i e=>by subst e;exact hn);have Bb:=aV.mono (show (zR r1).length<=r1.length by have:=yr r1;omega);have z2:=hb.size;have z2':(w:Nat)+3<=(w2:Nat):=by have:=sX.size;have:=sY.size;omega
 clear sX sY oX s8 tE AA iH;have HM:=r9 (dM d levels left h1.out);go_wp2_with fail
 cases AF:lvl (zR r1) levels.length with
 | none =>
   have HN:rdB d levels (left+1) l=U:=by rw[HM.out,AF]
   rcases lvl_no AF with oW|⟨v,sI,hv⟩
   ·refine(atoi_no _ _ Bb By oW).mono ?_;rintro en w3 ⟨v,t,p,rfl,sE⟩;have Lk:=r9 HN;clear HN AF oW;go_wp2_with fail
    go_ret;exact uF.no Lk.out (hb.trans (But.ofBelow sE)) ((sE.block sr (by omega)).trans lR)
   ·refine(atoi_ok _ _ Bb v sI).mono ?_;rintro en w3 ⟨rfl,sE⟩;have Lk:=r9 HN;clear HN AF;have D7:=By.below sE;have Bf:=(sE.block sr (by omega)).trans lR;have I6:=Cc.but (But.ofBelow (m:=fun _=>False) sE) (fun i e=>e.elim);have Bp:=r9 sI;clear sI;go_wp2_with fail
    refine(itoa_of Bp.out w3 D7).mono ?_;rintro en w4 ⟨rfl,sO⟩;have z3:=sE.size;have iy:=(sO.block sr (by omega)).trans Bf;obtain⟨x1,x2,x3⟩:=I6.but (But.ofBelow (m:=fun _=>False) sO) (fun i e=>e.elim);have sA:=(hb.trans (But.ofBelow sE)).trans (But.ofBelow sO);rcases hv with hv|⟨hv,Ks⟩|⟨hv,Ks,hv3⟩
    ·have hq:(Tb v == zR r1)=RC:=by rw[beq_eq_false_iff_ne];exact hv
     clear hv;go_wp2_with fail
     go_ret;exact uF.no Lk.out sA iy
    all_goals
     have hq:(Tb v == zR r1)=true:=by rw[beq_iff_eq];exact hv
     clear hv;go_wp2_with fail
     go_ret;exact uF.no Lk.out sA iy
 | some v =>
   obtain⟨D1,sI,FX⟩:=lvl_lt AF;have Qn:d=0:=by
    rcases Nat.eq_zero_or_pos d with h|h
    ·exact h
    ·exact absurd ⟨d-1,r1,v,levels[v],by omega,h1,AF,by simp[D1]⟩ Ry.out
   have HD:=r9 Qn;clear Qn Ry;refine(atoi_ok _ _ Bb (v:Int) sI).mono ?_;rintro en w3 ⟨rfl,sE⟩;have D7:=By.below sE;have Bf:=(sE.block sr (by omega)).trans lR;have I6:=Cc.but (But.ofBelow (m:=fun _=>False) sE) (fun i e=>e.elim);have Bp:=r9 sI;clear sI;have FW:=r9 AF;clear AF;have ME:=r9 FX;clear FX;go_wp2_with fail
   refine(itoa_of Bp.out w3 D7).mono ?_;rintro en w4 ⟨rfl,sO⟩;have z3:=sE.size;have z4:=sO.size;have iy:=(sO.block sr (by omega)).trans Bf;have hg4:=D7.below sO;have Ko:=I6.but (But.ofBelow (m:=fun _=>False) sO) (fun i e=>e.elim);obtain⟨x1,x2,x3⟩:=Ko;have sA:=(hb.trans (But.ofBelow sE)).trans (But.ofBelow sO);have hq:(Tb (v:Int) == zR r1)=true:=by rw[beq_iff_eq];exact ME.out
   have hlen:levels.length<=10000:=by have:=hh.2;omega
   clear hb sE sO lR Cc I6 Bf By D7;have DH:((d:Int) == 0)=true:=by rw[beq_iff_eq];have:=HD.out;omega
   go_wp2_with fail
   go_ret;exact uF.no (by rw[HM.out,FW.out];have:=HD.out;subst this;rfl) sA iy
theorem body_any (d:Nat)(hd:d<=1000):h_ d:=by
 induction d with
 |zero=>exact body_step 0 hd (fun d' h=>by omega)
 | succ d ih=>exact body_step (d+1) hd (fun d' h=>by obtain rfl:d=d':=by omega
                                                     exact ih (by omega))
def qd (t:Ty)(l:Bs):Option Bd:=match rdB 100 t.args 200 l with
 |some (b,[],_)=>OK b
 |_=>U
def RPost {α:Type}(enc:α->DV)(w:World)(o:Option α)(en:Ending)(w':World):Prop:=
 ∃v,en=.returned v/\No w w'/\(o=U->v=.pointer U)/\(∀b,o=OK b->Rep (w<=·) w' (enc b) v)
theorem fU {t:Ty}(h:zU t<=15):jD 100 t.args:=by
 have h1:=kI t;have hlen:∀ts:List Ty,ts.length<=zc ts:=by
  intro ts;induction ts with
  |nil=>simp
  |cons x xs ih=>simp[zc];omega
 have tw:∀ts:List Ty,∀a∈ts,1+zU a<=zc ts:=by
  intro ts
  induction ts with
  |nil=>simp
  | cons x xs ih =>
    intro a ha;rcases Sc.1 ha with rfl|ha
    ·simp[zc]
    ·have:=ih a ha;simp[zc];omega
 refine⟨fun a ha=>?_,?_⟩
 ·have:=tw _ a ha;omega
 ·have:=hlen t.args;omega
theorem pK (F:Nat->Prop)(t:Ty)(l:Bs)(kv:Value)(w:World)(hg:uC w)(hk:Rep F w (jk t) kv)(ht:zU t<=15)(hl:Lim l.length) :
 Calls RG 64 #[kv,l] w (RPost kM w (qd t l)):=by
 obtain⟨bk,sk,rfl,hFk,hc,hs⟩:=zh hk;obtain⟨a,c,e,_⟩:=zH hs;subst e;have c1:w bk=OK (.slice a t.args.length c):=by simp[RE,hc]
 have lk:=zZ hc;have HC:=r9 hc;clear hc;go_enter Tryz.func64,Tryz.ntmps64;go_wp2_with fail
 have oX:qL w [.int RD (200:Nat)] 168 l (w.alloc (.cells #[l,.int RD 200] 168)):=zW _ _
 have PZ:Rep (fun b=>b<w) (w.alloc (.cells #[l,.int RD 200] 168)) (.sl 33 1 t.args.length (qh t.args)) (.slice a t.args.length c):=
  (Rep.keep fun b o _ ho=>⟨zZ ho,zJ ho⟩).1 _ _ hs
 refine(body_any 100 (by omega) w 200 t.args l _ _ _ (hg.below ((sQ _ _).alloc (sZ _) _)) (hg.new (sZ _)) oX (by omega) hl (fU ht) PZ (fun b hb=>by have:=hb;omega)).mono ?_;rintro en w1 ⟨v,r',left',rfl,sX,iH,tK,tH⟩;have hb:No w w1:=((sQ w w).alloc (sZ _) _).trans (sX.toBelow (by simp) (fun i hi e=>by omega));have lJ:=iH.cell;have hz:(w:Nat)<w1:=yK iH;cases hq:rdB 100 t.args 200 l with
 | none =>
   obtain rfl:=tK hq;have HQ:=r9 hq;clear hq tK tH;go_wp2_with fail
   go_ret;exact⟨_,rfl,hb,fun _=>rfl,fun b h=>by simp[qd,HQ.out]at h⟩
 | some x =>
   obtain⟨b,rest,left⟩:=x;obtain⟨rfl,_,hv⟩:=tH _ _ _ hq;have HQ:=r9 hq;clear hq tK tH;obtain⟨av,ev⟩:=zg hv;subst ev;cases r' with
   | cons x xs =>
     have hne:(!(x::xs).isEmpty)=true:=rfl;go_wp2_with fail
     go_ret;exact⟨_,rfl,hb,fun _=>rfl,fun b h=>by simp[qd,HQ.out]at h⟩
   | nil =>
     go_wp2_with fail
     go_ret;have HM:qd t l=b:=by simp[qd,HQ.out]
     refine⟨_,rfl,hb,fun h=>by simp[HM]at h,fun b' h=>?_⟩;rw[HM]at h;simp at h;subst h;exact(Rep.keep fun b o h ho=>⟨by have:=h;simp at this;omega,ho⟩).1 _ _ hv
def mF (s l:Bs):Option (Ty×Bd):=do
 let t<-uy s
 let b<-qd t l
 OK (t,b)
def TSPost (w:World)(s l:Bs)(en:Ending)(w':World):Prop:=
 ∃ kv bv,en=.returned (.tuple #[kv,bv])/\Below w w w'/\(mF s l=none->bv=.pointer none) /\
   (∀t b,mF s l=OK (t,b)->Rep (w<=·) w' (jk t) kv/\Rep (w<=·) w' (kM b) bv)
theorem rdKind_le {s:Bs}{t:Ty}(h:uy s=t):zU t<=15:=by
 unfold uy at h;split at h
 ·split at h
  ·rename_i sT;simp at h;subst h;exact sT
  ·simp at h
 ·simp at h
theorem strategy_any (s l:Bs)(w:World)(hg:uC w)(hs:Lim s.length)(hl:Lim l.length) :
 Calls RG 63 #[s,l] w (TSPost w s l):=by
 go_enter Tryz.func63,Tryz.ntmps63;go_wp2_with fail
 refine(readKind_any s w hs).mono ?_;rintro en w1 ⟨kv,rfl,sX,tK,tH⟩;cases hq:uy s with
 | none =>
   obtain rfl:=tK hq;have HQ:=r9 hq;clear hq tK tH;go_wp2_with fail
   go_ret2
   exact⟨_,_,rfl,sX,fun _=>rfl,fun t b h=>by simp[mF,HQ.out]at h⟩
 | some t =>
   have hv:=tH _ hq;have ht:=rdKind_le hq;have HQ:=r9 hq;clear hq tK tH;obtain⟨ak,_,ek,_⟩:=zh hv;subst ek;go_wp2_with fail
   refine(pK _ t l _ w1 (hg.below sX) hv ht hl).mono ?_;rintro en w2 ⟨bv,rfl,sY,lY,lE⟩;go_wp2_with fail
   go_ret2
   refine⟨_,_,rfl,zzT sX sY,fun h=>lY ?_,fun t' b h=>?_⟩
   ·cases hr:qd t l with
    |none=>rfl
    |some b=>simp[mF,HQ.out,hr]at h
   ·cases hr:qd t l with
    |none=>simp[mF,HQ.out,hr]at h
    | some b' =>
      simp[mF,HQ.out,hr]at h;obtain⟨rfl,rfl⟩:=h;exact⟨Rep.below sY (fun _ h=>h) hv,(Rep.keep fun i o hi ho=>⟨by have:=sX.size;have:=hi;omega,ho⟩).1 _ _ (lE _ hr)⟩
theorem yC (ts:List Bd):∀k:Nat,(qH ts)[k]?=ts[k]?.map kM:=by
 induction ts with
 |nil=>intro k;simp[qH]
 |cons t ts ih=>intro k;cases k <;> simp[qH,ih]
theorem cX {F:Nat->Prop}{w:World}(ts:List Bd):∀us,zY F w (qH ts) us->∀u∈us,u.oneCell'=true:=by
 induction ts with
 |nil=>intro us h;rw[qH,zE]at h;subst h;simp
 | cons t ts ih =>
   intro us h u hu;rw[qH,zQ]at h;obtain⟨v,vs',rfl,h1,h2⟩:=h;rcases Sc.1 hu with rfl|hu
   ·obtain⟨a,rfl⟩:=zg h1;rfl
   ·exact ih _ h2 u hu
theorem xu {F:Nat->Prop}{w:World}{c:UInt8}{v:Value}(h:Rep F w (kM (.leaf c)) v) :
 ∃b sl,v=.pointer (OK ⟨b,0,U⟩)/\F b/\w.heap[b]?=OK (.cells #[str [c],.int RD (0:Nat),sl,.pointer U,.pointer U] 71 (0,0))/\Rep F w (.sl 34 1 0 []) sl:=by
 rw[kM,jx]at h;obtain⟨b,cs,hv,hb,hc,hr⟩:=h;simp only[zQ,zE,zC]at hr;obtain⟨_,_,e1,rfl,_,_,rfl,rfl,sl,_,rfl,h3,_,_,rfl,rfl,_,_,rfl,rfl,rfl⟩:=hr;have:cs=#[str [c],.int RD (0:Nat),sl,.pointer U,.pointer U]:=by apply VR;simpa using e1
 subst this;exact⟨b,sl,hv,hb,hc,h3⟩
theorem uL {F:Nat->Prop}{w:World}{v:Nat}{ss:List Bd}{y n:Bd}{p:Value}(h:Rep F w (kM (.ask v ss y n)) p) :
 ∃ b sl yv nv,p=.pointer (some ⟨b,0,none⟩)/\F b/\w.heap[b]? = some (.cells #[str [],.int .i64 v,sl,yv,nv] 71 (0,0)) /\
   Rep F w (.sl 34 1 ss.length (qH ss)) sl/\Rep F w (kM y) yv/\Rep F w (kM n) nv:=by
 rw[kM,jx]at h;obtain⟨b,cs,hv,hb,hc,hr⟩:=h;simp only[zQ,zE,zC]at hr;obtain⟨_,_,e1,rfl,_,_,rfl,rfl,sl,_,rfl,h3,yv,_,rfl,h4,nv,_,rfl,h5,rfl⟩:=hr;have:cs=#[str [],.int RD v,sl,yv,nv]:=by apply VR;simpa using e1
 subst this;exact⟨b,sl,yv,nv,hv,hb,hc,h3,h4,h5⟩
theorem ur (F:Nat->Prop)(w:World)(c:UInt8)(v:Value)(h:Rep F w (kM (.leaf c)) v) :
 Calls RG 27 #[v] w fun en w'=>en=.returned (.bool RC)/\w'=w:=by
 obtain⟨b,sl,rfl,_,hc,_⟩:=xu h;have c1:w b=OK (.string ⟨#[c]⟩):=by simp[RE,hc]
 clear hc h;go_enter WZ,Wx;go_wp2_with fail
 go_ret;exact⟨rfl,rfl⟩
theorem yx (F:Nat->Prop)(w:World)(v:Nat)(ss:List Bd)(y n:Bd)(p:Value)(h:Rep F w (kM (.ask v ss y n)) p) :
 Calls RG 27 #[p] w fun en w'=>en=.returned (.bool true)/\w'=w:=by
 obtain⟨b,sl,yv,nv,rfl,_,hc,_⟩:=uL h;have c1:w b=OK (.string ⟨#[]⟩):=by simp[RE,hc]
 clear hc h;go_enter WZ,Wx;go_wp2_with fail
 go_ret;exact⟨rfl,rfl⟩
mutual
def ki:Ty->DV
 |.mk ts=>.sl 47 1 ts.length (qu ts)
def qu:List Ty->List DV
 |[]=>[]
 |t::ts=>ki t::qu ts
end
def uY (L:Nat)(w:World)(o:Option (Ty×Bs))(en:Ending)(w':World):Prop:=
 ∃(v:Value) (k:Int) (t:Ty),en=.returned (.tuple #[.agg #[v],.int RD k])/\No w w'/\Rep (w<=·) w' (ki t) v/\(o=U->k = -1/\t=.mk [])/\(∀t' rest,o=OK (t',rest)->k=(L:Int)-rest.length/\t=t')
theorem Tryz.infoS:(RG.info? 47).map (fun i=>(i.zero,i.size,i.bytes))=OK (OK (.agg #[()]),1,24):=by kernel_rfl
theorem vU (ts:List Ty):∀k:Nat,(qu ts)[k]?=ts[k]?.map ki:=by
 induction ts with
 |nil=>intro k;simp[qu]
 |cons t ts ih=>intro k;cases k <;> simp[qu,ih]
theorem dl (a b:List Ty):qu (a++b)=qu a++qu b:=by
 induction a with
 |nil=>rfl
 |cons t ts ih=>simp[qu,ih]
theorem jJ (t:Ty):ki t=.sl 47 1 t.args.length (qu t.args):=by cases t;rw[ki];rfl
theorem za {F:Nat->Prop}{w:World}{t:Ty}{v:Value}(h:Rep F w (ki t) v):∃a c,v=.slice a t.args.length c:=by
 rw[jJ]at h;obtain⟨a,c,e,_⟩:=zH h;exact⟨a,c,e⟩
theorem uA {F:Nat->Prop}{w:World}(ts:List Ty):∀us,zY F w (qu ts) us->∀u∈us,u.oneCell'=true:=by
 induction ts with
 |nil=>intro us h;rw[qu,zE]at h;subst h;simp
 | cons t ts ih =>
   intro us h u hu;rw[qu,zQ]at h;obtain⟨v,vs',rfl,h1,h2⟩:=h;rcases Sc.1 hu with rfl|hu
   ·obtain⟨a,c,rfl⟩:=za h1;rfl
   ·exact ih _ h2 u hu
theorem fW (F:Nat->Prop)(w:World):Rep F w (ki (.mk [])) ():=by
 rw[jJ];exact zv.2 ⟨rfl,U,0,rfl,sZ _,fun _=>rfl,.inl rfl⟩
theorem uY.no {L:Nat}{w w':World}{o:Option (Ty×Bs)}(ho:o=U)(hb:No w w') :
 uY L w o (.returned (.tuple #[.agg #[()],.int RD (-1)])) w':=
 ⟨_,_,.mk [],rfl,hb,fW _ _,fun _=>⟨rfl,rfl⟩,fun _ _ h=>by rw[ho]at h;simp at h⟩
theorem uY.yes {L:Nat}{w w':World}{o:Option (Ty×Bs)}{t:Ty}{rest:Bs}{v:Value}{k:Int}(ho:o=OK (t,rest))(hk:k=(L:Int)-rest.length)(hb:No w w')(hv:Rep (w<=·) w' (ki t) v) :
 uY L w o (.returned (.tuple #[.agg #[v],.int RD k])) w':=
 ⟨_,_,t,rfl,hb,hv,fun h=>by rw[ho]at h;simp at h,fun _ _ h=>by rw[ho]at h;simp at h;obtain⟨rfl,rfl⟩:=h;exact⟨hk,rfl⟩⟩
def rq (l:Bs)(d:Nat):Prop:=∀ (i:Nat) (w:World),i<=l.length->d<=21 ->
    Calls RG 45 #[l,.int RD i,.int RD d] w (uY l.length w (rdS (21-d) (l.drop i)))
theorem mZ (l:Bs)(hl:Lim l.length)(d:Nat)(ih:d<=20->rq l (d+1)):rq l d:=by
 intro i w hi hd;have Ar:=hl.le;have IH:=r9 ih;clear ih;by_cases JQ:d<=20;rotate_left
 ·have h0:Hid (21-d=0):=by show 21-d=0;omega
  go_enter T8,TQ;go_wp2_with fail
  refine bodyPost_ret (v:=.tuple #[.agg #[()],.int RD (-1)]) (by simp[results,SI,go_sem]) rfl ?_;exact uY.no (by rw[h0.out];rfl) ((sQ _ _).alloc (sZ _) _)
 obtain⟨n,hn⟩:∃n,21-d=n+1:=⟨20-d,by omega⟩;have IH':=r9 (IH.out JQ);clear IH;have HN:=r9 hn;have Lk:Hid (21-(d+1)=n):=by show 21-(d+1)=n;omega
 clear hn;by_cases sC:i<l.length;rotate_left
 ·go_enter T8,TQ;go_wp2_with fail
  refine bodyPost_ret (v:=.tuple #[.agg #[()],.int RD (-1)]) (by simp[results,SI,go_sem]) rfl ?_;exact uY.no (by rw[HN.out,rdS_no (be (by omega)),be (by omega)];rfl) ((sQ _ _).alloc (sZ _) _)
 by_cases hb:l[i]=98
 ·have f1:=x9 sC (n:=98) (by decide) hb;have hc:Cut [98] (l.drop i) (l.drop (i+1)):=by unfold Cut;rw[y8 sC,if_pos hb]
  clear hb;go_enter T8,TQ;go_wp2_with fail
  refine bodyPost_ret (v:=.tuple #[.agg #[()],.int RD ((i:Int)+1)]) (by simp[results,SI,go_sem]) rfl ?_;exact uY.yes (t:=.mk []) (by rw[HN.out,rdS_b hc]) (by simp;omega) ((sQ _ _).alloc (sZ _) _) (fW _ _)
 have f1:=uG sC (n:=98) (by decide) hb;have hc:hH [98] (l.drop i):=by unfold hH;rw[y8 sC,if_neg hb]
 have HM:=r9 (rdS_no (n:=n) hc);clear hb hc;by_cases h3:i+3<=l.length;rotate_left
 ·have h3':(l.length:Int)<(i:Int)+3:=by omega
  have oI:Hid (cut [40,62,32] (l.drop i)=U):=by
   show cut [40,62,32] (l.drop i)=U;cases hq:cut [40,62,32] (l.drop i) with
   |none=>rfl
   |some r=>have:=(cut_drop hq).2;simp at this;omega
  go_enter T8,TQ;go_wp2_with fail
  refine bodyPost_ret (v:=.tuple #[.agg #[()],.int RD (-1)]) (by simp[results,SI,go_sem]) rfl ?_;exact uY.no (by rw[HN.out,HM.out,oI.out];rfl) ((sQ _ _).alloc (sZ _) _)
 have h3':(i:Int)+3<=(l.length:Int):=by omega
 have hx:(l.take (i+3)).drop i=(l.drop i).take 3:=by rw[List.drop_take];congr 1;omega
 rcases kC [40,62,32] (l.drop i) with h4|⟨r1,h4⟩
 ·have f2:(((⟨l.toArray⟩:ByteArray).extract i (i+3)).toList == [40,62,32])=RC:=by
   rw[ext_list,hx,beq_eq_false_iff_ne];intro e;have h5:=h4.out;have hp:[40,62,32].isPrefixOf (l.drop i)=true:=by rw[SL,<- e];exact List.take_prefix _ _
   unfold cut at h5;rw[if_pos hp]at h5;simp at h5
  clear hx;go_enter T8,TQ;go_wp2_with fail
  refine bodyPost_ret (v:=.tuple #[.agg #[()],.int RD (-1)]) (by simp[results,SI,go_sem]) rfl ?_;exact uY.no (by rw[HN.out,HM.out,h4.out];rfl) ((sQ _ _).alloc (sZ _) _)
 have f2:(((⟨l.toArray⟩:ByteArray).extract i (i+3)).toList == [40,62,32])=true:=by
  rw[ext_list,hx,beq_iff_eq];have h5:=h4.out;unfold cut at h5;split at h5
  ·rename_i hp;exact(List.prefix_iff_eq_take.1 (SL.1 hp)).symm
  ·simp at h5
 have aV:=(cut_drop h4.out).1;have JB:r1=l.drop (i+3):=aV;subst JB;clear hx aV;go_enter T8,TQ;go_wp2_with fail
 rw[show (i:Int)+3=((i+3:Nat):Int) from by omega,show (d:Int)+1=((d+1:Nat):Int) from by omega];refine(IH'.out (i+3) _ h3 (by omega)).mono ?_;rintro en w1 ⟨v1,k1,t1,rfl,sX,AC,tK,tH⟩;rw[Lk.out]at tK tH;have iJ:No w w1:=((sQ w w).alloc (sZ _) _).trans (sX.mono (by simp));have z1:=sX.size;have lU:(w:Nat)<w1:=by simp at z1;omega
 have a_:w1 w=OK (.slice U 0 0):=by rw[sX.cell (by simp)];simp
 have Bz:w1.frozen? w=RC:=by rw[sX.frozen (by simp)];simp
 obtain⟨a1,c1,e1⟩:=za AC;subst e1;cases hq:rdS n (l.drop (i+3)) with
 | none =>
   obtain⟨rfl,rfl⟩:=tK hq;have HQ:=r9 hq;clear hq tK tH;go_wp2_with fail
   refine bodyPost_ret (v:=.tuple #[.agg #[()],.int RD (-1)]) (by simp[results,SI,go_sem,lU,vN a_]) rfl ?_;exact uY.no (by rw[HN.out,HM.out,h4.out];simp[HQ.out]) (by repeat (first | exact iJ | refine Below.alloc ?_ (by simp;omega) _ | refine Below.setCell ?_ (by simp) _ | refine Below.drew ?_))
 | some x =>
   obtain⟨ta,r2⟩:=x;obtain⟨rfl,rfl⟩:=tH _ _ hq;have Ap:=xK (nD hq);have lq:=(rdS_le hq).1;have HQ:=r9 hq;clear hq tK tH;obtain⟨e,he⟩:=zzM (l.length-r2.length);have BU:e<=l.length:=by omega
   have hr2l:r2.length<=l.length:=by simp at lq;omega
   have hk:(l.length:Int)-(r2.length:Int)=(e:Int):=by omega
   rw[<- he]at Ap;rw[hk];have HSF:=r9 Ap;clear hk Ap lq;by_cases Qj:e<l.length;rotate_left
   ·have Ff:Hid (cut [32] r2=U):=by show cut [32] r2=U;rw[HSF.out];exact be (by omega)
    have HE:=r9 he;clear he;go_wp2_with fail
    refine bodyPost_ret (v:=.tuple #[.agg #[()],.int RD (-1)]) (by simp[results,SI,go_sem,lU,vN a_]) rfl ?_;exact uY.no (by rw[HN.out,HM.out,h4.out];simp[HQ.out,Ff.out]) (by repeat (first | exact iJ | refine Below.alloc ?_ (by simp;omega) _ | refine Below.setCell ?_ (by simp) _ | refine Below.drew ?_))
   have HE:=r9 he;clear he;by_cases sx:l[e]=32;rotate_left
   ·have f5:=vR Qj (n:=32) (by decide) sx;have Ff:Hid (cut [32] r2=U):=by show cut [32] r2=U;rw[HSF.out,y8 Qj,if_neg sx]
    clear sx;go_wp2_with fail
    refine bodyPost_ret (v:=.tuple #[.agg #[()],.int RD (-1)]) (by simp[results,SI,go_sem,lU,vN a_]) rfl ?_;exact uY.no (by rw[HN.out,HM.out,h4.out];simp[HQ.out,Ff.out]) (by repeat (first | exact iJ | refine Below.alloc ?_ (by simp;omega) _ | refine Below.setCell ?_ (by simp) _ | refine Below.drew ?_))
   have f5:=vi Qj (n:=32) (by decide) sx;have g1:decide ((e:Int)<0)=RC:=by rw[decide_eq_false_iff_not];omega
   have g2:decide (l.length<=e)=RC:=by rw[decide_eq_false_iff_not];omega
   have Ff:Hid (cut [32] r2=OK (l.drop (e+1))):=by show cut [32] r2=_;rw[HSF.out,y8 Qj,if_pos sx]
   clear sx;go_wp2_with fail
   rw[show (e:Int)+1=((e+1:Nat):Int) from by omega,show (d:Int)+1=((d+1:Nat):Int) from by omega];refine(IH'.out (e+1) _ Qj (by omega)).mono ?_;rintro en w2 ⟨v2,k2,t2,rfl,sY,Ks,lY,lE⟩;rw[Lk.out]at lY lE;obtain⟨a2,c2,e2⟩:=za Ks;subst e2;have z2:=sY.size;rw[zK]at z2;have Fk:No w w2:=(iJ.alloc iJ.size _).trans (sY.mono (by rw[zK];omega));have iP:(w:Nat)<w2:=by omega
   have hz2':(w1:Nat)<w2:=by omega
   have Ac:w2 w=OK (.slice U 0 0):=by rw[sY.cell (by simp;omega)];exact zV a_
   have In:w2.frozen? w=RC:=by rw[sY.frozen (by simp;omega)];rw[SK (w:=w1) (Below.heap_alloc _ _ _ lU)];exact Bz
   have hcellA:w2 w1=OK (.slice a1 t1.args.length c1):=by rw[sY.cell (by simp)];simp
   have FF:Rep (w1<=·) w2 (ki t1) (.slice a1 t1.args.length c1)\/True:=.inr trivial;clear FF a_ Bz;cases hq:rdS n (l.drop (e+1)) with
   | none =>
     obtain⟨rfl,rfl⟩:=lY hq;have Jp:=r9 hq;clear hq lY lE;go_wp2_with fail
     refine bodyPost_ret (v:=.tuple #[.agg #[()],.int RD (-1)]) (by simp[results,SI,go_sem,iP,vN Ac]) rfl ?_;exact uY.no (by rw[HN.out,HM.out,h4.out];simp[HQ.out,Ff.out,Jp.out]) (by repeat (first | exact Fk | refine Below.alloc ?_ (by simp;omega) _ | refine Below.setCell ?_ (by simp) _ | refine Below.drew ?_))
   | some x =>
     obtain⟨tb,r4⟩:=x;obtain⟨rfl,rfl⟩:=lE _ _ hq;have Ap:=xK (nD hq);have FQ:=rdS_le hq;have Jp:=r9 hq;clear hq lY lE;obtain⟨e2,he⟩:=zzM (l.length-r4.length);have BU:e2<=l.length:=by omega
     have hr2l:r4.length<=l.length:=by simp at FQ;omega
     have hk:(l.length:Int)-(r4.length:Int)=(e2:Int):=by omega
     have Df:t2.args.length<=16777216:=by simp at FQ;omega
     rw[<- he]at Ap;rw[hk];have Nl:=r9 Ap;clear hk Ap FQ;have Gp:=r9 he;clear he;by_cases JP:e2<l.length;rotate_left
     ·have Fe:Hid (cut [41] r4=U):=by show cut [41] r4=U;rw[Nl.out];exact be (by omega)
      go_wp2_with fail
      refine bodyPost_ret (v:=.tuple #[.agg #[()],.int RD (-1)]) (by simp[results,SI,go_sem,iP,vN Ac]) rfl ?_;exact uY.no (by rw[HN.out,HM.out,h4.out];simp[HQ.out,Ff.out,Jp.out,Fe.out]) (by repeat (first | exact Fk | refine Below.alloc ?_ (by simp;omega) _ | refine Below.setCell ?_ (by simp) _ | refine Below.drew ?_))
     by_cases sM:l[e2]=41;rotate_left
     ·have f6:=vR JP (n:=41) (by decide) sM;have Fe:Hid (cut [41] r4=U):=by show cut [41] r4=U;rw[Nl.out,y8 JP,if_neg sM]
      clear sM;go_wp2_with fail
      refine bodyPost_ret (v:=.tuple #[.agg #[()],.int RD (-1)]) (by simp[results,SI,go_sem,iP,vN Ac]) rfl ?_;exact uY.no (by rw[HN.out,HM.out,h4.out];simp[HQ.out,Ff.out,Jp.out,Fe.out]) (by repeat (first | exact Fk | refine Below.alloc ?_ (by simp;omega) _ | refine Below.setCell ?_ (by simp) _ | refine Below.drew ?_))
     have f6:=vi JP (n:=41) (by decide) sM;have g3:decide ((e2:Int)<0)=RC:=by rw[decide_eq_false_iff_not];omega
     have g4:decide (l.length<=e2)=RC:=by rw[decide_eq_false_iff_not];omega
     have Fe:Hid (cut [41] r4=OK (l.drop (e2+1))):=by show cut [41] r4=_;rw[Nl.out,y8 JP,if_pos sM]
     clear sM;rw[jJ]at Ks;obtain⟨xs,iG,aD⟩:=zz.ofRep Ks (uA _);go_wp2_with (at_builtin;refine zF rfl _ _ 45 rfl 47 (.agg #[()]) 1 24 Ud Tryz.infoS rfl (by decide) _ 1 [.slice a1 t1.args.length c1] rfl ?c1 _ t2.args.length xs rfl ?c2 ?c3 ?c4 ?_)
     case c1=>exact Own.litAt #[.slice a1 t1.args.length c1] 1 _ (by simp) (by decide) rfl
     case c2=>exact aD.keep fun _ _ h=>zV (zV h)
     case c3=>unfold maxLen;omega
     case c4=>omega
     intro a' c' w3 ho sE D7;have sF:No w2 ((w2.alloc (.cells #[.slice a2 t2.args.length c2] 47)).alloc (.cells #[.slice a1 t1.args.length c1] 47)):=((sQ _ _).alloc (sZ _) _).alloc (by simp) _;have AL:No w2 w3:=sF.trans (sE.toBelow (by simp;omega) (fun i hi e=>by simp[RM]at e;omega));have D8:No w w3:=Fk.trans (AL.mono (by omega));have MR:w3 w=OK (.slice U 0 0):=by rw[AL.cell iP];exact Ac
     have hfree3:w3.frozen? w=RC:=by rw[AL.frozen iP];exact In
     have hv1W:Rep (w<=·) w3 (ki t1) (.slice a1 t1.args.length c1):=by
      refine(Rep.keep fun b o h ho=>⟨by have:=xr h;omega,?_⟩).1 _ _ AC;rw[AL.block b (by have:=zZ ho;omega),sY.block b (by have:=zZ ho;simp;omega)];exact zJ ho
     have hxsW:zY (w<=·) w3 (qu t2.args) xs:=
      (Rep.keep fun b o h ho=>⟨by have:=xr h;omega,by rw[AL.block b (zZ ho)];exact ho⟩).2 _ _ iG
     have si:∀g,(RI a' (1+t2.args.length) c').ownBlock=OK g->(w:Nat)<=g:=by
      intro g h;rcases D7 g h with h|h
      ·simp[RM]at h;omega
      ·have:=AL.size;omega
     have HG:=r9 si;have HG3:=r9 D7;clear D7 si;go_wp2_with fail
     refine bodyPost_ret (v:=.tuple #[.agg #[.slice a' (1+t2.args.length) c'],.int RD ((e2:Int)+1)]) (by simp[results,SI,go_sem,vN MR]) rfl ?_;refine uY.yes (t:=zi t1 t2) (rest:=l.drop (e2+1)) (by rw[HN.out,HM.out,h4.out];simp[HQ.out,Ff.out,Jp.out,Fe.out]) (by simp;omega) (D8.setCell (sZ _) _) ?_;refine(Rep.keep (w:=w3) (F:=fun b=>w<=b/\b≠w) fun b o h ho=>⟨h.1,?_⟩).1 _ _ ?_
     ·rw[sJ _ _ _ _ (by simpa using h.2)];exact ho
     rw[jJ,show (zi t1 t2).args.length=1+t2.args.length from by simp[zi,Ty.args,Nat.add_comm]];refine ho.rep (fun g h=>⟨HG.out g h,?_⟩) ?_
     ·rcases HG3.out g h with h|h
      ·simp[RM]at h;omega
      ·have:=AL.size;omega
     ·show zY _ _ (ki t1::qu t2.args) _;refine zQ.2 ⟨_,_,rfl,?_,?_⟩
      ·refine(Rep.keep fun b o h ho=>⟨⟨by have:=xr h;omega,by have:=xr h;omega⟩,?_⟩).1 _ _ AC;rw[AL.block b (by have:=zZ ho;omega),sY.block b (by have:=zZ ho;simp;omega)];exact zJ ho
      ·exact(Rep.keep fun b o h ho=>⟨⟨by have:=xr h;omega,by have:=xr h;omega⟩,by rw[AL.block b (zZ ho)];exact ho⟩).2 _ _ iG
theorem l1Read_any (l:Bs)(hl:Lim l.length)(n:Nat):∀d,21-d=n->rq l d:=by
 induction n with
 |zero=>exact fun d h=>mZ l hl d (fun h'=>by omega)
 |succ n ih=>exact fun d h=>mZ l hl d (fun h'=>ih (d+1) (by omega))
def fS (t:Ty):Prop:=∀(F:Nat->Prop) (w:World) (v:Value),Rep F w (ki t) v->
 Calls RG 46 #[.agg #[v]] w fun en w'=>en=.returned (.int RD (zU t))/\No w w'
theorem kW (ts:List Ty):ts.length<=zc ts:=by
 induction ts with
 |nil=>simp
 |cons t ts ih=>simp[zc];omega
theorem l1Size_step (t:Ty)(hl:Lim (zU t))(ih:∀t',zU t'<zU t->fS t'):fS t:=by
 intro F w v hv;obtain⟨a,cap,e⟩:=za hv;subst e;have L7:=hv;rw[jJ]at L7;obtain⟨_,_,e,_,hlen,sG⟩:=zH L7;simp only[Value.slice.injEq]at e;obtain⟨rfl,_,rfl⟩:=e;have IH:=r9 ih;clear ih;have Ar:=hl.le;have E1:=r9 (kI t);have PO:t.args.length<=16777216:=by have:=kW t.args;have:=E1.out;omega
 have AT:=r9 sG;clear sG hlen L7;go_enter Tryz.func46,Tryz.ntmps46;go_wp2_with fail
 go_loopw [3,4] (fun n i wr=>∃k:Nat,k<=t.args.length/\i=.int RD k/\n=.int RD ((1+zc (t.args.take k):Nat):Int)/\No w wr/\wr w=OK (.slice a t.args.length cap)) (fun _ i _=>t.args.length-(intOf i).toNat)
 case atStart=>exact⟨0,R6 _,rfl,by simp[zc],(sQ _ _).alloc (sZ _) _,by simp⟩
 case round=>
  rename_i wr;obtain⟨k,hk,rfl,rfl,hb,hc⟩:=hrel;by_cases sC:k<t.args.length
  ·obtain⟨b',o,u,d,rfl,_,sA,hd,hu,hr⟩:=AT.out k sC;rw[vU,RP]at hd;obtain⟨t',al,rfl⟩:=hd;obtain⟨ua,uc,rfl⟩:=za hr;have hu':wr (b',o+k)=OK (.slice ua t'.args.length uc):=by rw[hb.cell sA];exact hu
   have o_:=Rep.below (F':=F) hb (fun _ h=>h) hr;have hs:=xq al;have tw:=uz t.args (k+1);have oQ:=E1.out;have IH':=r9 (IH.out t' (by omega));have HS:=r9 hs;have b1:1+zc (t.args.take k)+(1+zU t')<=16777216:=by omega
   have hz:=sK wr _ hc;clear hs al oQ hu hr;go_wp2_with fail
   refine(IH'.out _ _ _ o_).mono ?_;rintro en w2 ⟨rfl,sY⟩;have sE:=zzT hb sY;have oI:w2 w=OK (.slice (b',o) t.args.length cap):=by rw[sY.cell hz];exact hc
   go_wp2_with fail
   go_roundw
   case rel=>exact⟨k+1,by omega,by go_num,by rw[HS.out] <;> go_num,sE,oI⟩
   case measure=>simp[intOf];omega
  ·obtain rfl:k=t.args.length:=by omega
   go_wp2_with fail
   go_ret;exact⟨yQ (by rw[E1.out,R8]),hb⟩
theorem n9 (n:Nat):∀t,zU t<=n->Lim n->fS t:=by
 induction n with
 |zero=>intro t h _;have:=qA t;omega
 |succ n ih=>exact fun t h hn=>l1Size_step t (hn.mono h) (fun t' h'=>ih t' (by omega) (hn.mono (by omega)))
def zD (l:Bs):Ty×Bool:=
 if 100<l.length then (.mk [],RC) else
 match rdS 21 l with
 |none=>(.mk [],RC)
 |some (t,rest)=>(t,rest.isEmpty && decide (zU t<=15))
def TypePost (l:Bs)(w:World)(en:Ending)(w':World):Prop:=
 ∃v,en=.returned (.tuple #[.agg #[v],.bool (zD l).2])/\No w w'/\Rep (w<=·) w' (ki (zD l).1) v
theorem x5 (l:Bs)(hl:Lim l.length)(w:World):Calls RG 22 #[l] w (TypePost l w):=by
 have Ar:=hl.le;by_cases AQ:100<l.length
 ·have Q3:(100:Int)<(l.length:Int):=by omega
  have HM:zD l=(.mk [],RC):=by unfold zD;rw[if_pos AQ]
  have HM:=r9 HM;go_enter W6,Wy;go_wp2_with fail
  refine bodyPost_ret (v:=.tuple #[.agg #[()],.bool RC]) (by simp[results,Uu,go_sem]) rfl ?_;refine⟨_,by rw[HM.out],(sQ _ _).alloc (sZ _) _,?_⟩;rw[HM.out];exact fW _ _
 have Q3:¬(100:Int)<(l.length:Int):=by omega
 have HM:zD l=(match rdS 21 l with
  |none=>(.mk [],RC)
  | some (t,rest)=>(t,rest.isEmpty && decide (zU t<=15))):=by unfold zD;rw [if_neg AQ]
 have HM:=r9 HM;go_enter W6,Wy;go_wp2_with fail
 refine(l1Read_any l hl 21 0 rfl 0 _ (R6 _) (by omega)).mono ?_;rintro en w1 ⟨v1,k1,t1,rfl,sX,AC,tK,tH⟩;rw[show (21-0:Nat)=21 from rfl,We]at tK tH;obtain⟨a1,c1,e1⟩:=za AC;subst e1;have z1:=sX.size;rw[zK]at z1;have lU:(w:Nat)<w1:=by omega
 have iJ:No w w1:=((sQ w w).alloc (sZ _) _).trans (sX.mono (by simp));have a_:w1 w=OK (.slice U 0 0):=by rw[sX.cell (by simp)];simp
 have Bz:w1.frozen? w=RC:=by rw[sX.frozen (by simp)];simp
 cases hq:rdS 21 l with
 | none =>
   obtain⟨rfl,rfl⟩:=tK hq;have HQ:=r9 hq;clear hq tK tH;have g1:((-1:Int) == (l.length:Int))=RC:=by rw[beq_eq_false_iff_ne];omega
   go_wp2_with fail
   go_region
   go_wp2_with fail
   refine bodyPost_ret (v:=.tuple #[.agg #[.slice a1 0 c1],.bool RC]) (by simp[results,Uu,go_sem,lU,vN a_,Ty.args]) rfl ?_;refine⟨_,by rw[HM.out,HQ.out],(by repeat (first | exact iJ | refine Below.alloc ?_ (by simp;omega) _ | refine Below.setCell ?_ (by simp) _ | refine Below.drew ?_)),?_⟩;rw[HM.out,HQ.out];rw[jJ];refine zv.2 ⟨rfl,a1,c1,rfl,R6 _,?_,.inl rfl⟩;obtain⟨_,_,_,e,_,h0,_⟩:=zv.1 (by rw[jJ]at AC;exact AC);simp only[Value.slice.injEq]at e;obtain⟨rfl,_,rfl⟩:=e;exact h0
 | some x =>
   obtain⟨t,rest⟩:=x;obtain⟨rfl,rfl⟩:=tH _ _ hq;have sG:=rdS_atoms hq;have HQ:=r9 hq;clear hq tK tH;obtain⟨e,he⟩:=zzM (l.length-rest.length);rw[show (l.length:Int)-(rest.length:Int)=(e:Int) from by omega];have HE:=r9 he;clear he;cases rest with
   | cons x xs =>
     have g1:((e:Int) == (l.length:Int))=RC:=by rw[beq_eq_false_iff_ne];have:=HE.out;simp at this sG;omega
     go_wp2_with fail
     go_region
     go_wp2_with fail
     refine bodyPost_ret (v:=.tuple #[.agg #[.slice a1 t1.args.length c1],.bool RC]) (by simp[results,Uu,go_sem,lU,vN a_]) rfl ?_;refine⟨_,by rw[HM.out,HQ.out];rfl,(by repeat (first | exact iJ | refine Below.alloc ?_ (by simp;omega) _ | refine Below.setCell ?_ (by simp) _ | refine Below.drew ?_)),?_⟩;rw[HM.out,HQ.out];refine(Rep.keep fun b o h ho=>⟨by have:=xr h;omega,?_⟩).1 _ _ AC;have hb:b≠w:=by have:=xr h;omega
     exact zJ (by rw[sJ _ _ _ _ (by simpa using hb)];exact ho)
   | nil =>
     obtain rfl:e=l.length:=by have:=HE.out;simpa using this
     have g1:((l.length:Int) == (l.length:Int))=true:=by simp
     have hlA:Lim (zU t1):=hl.mono (by simp at sG;omega);have hrA:Rep (w < ·) (w1.alloc (.cells #[.slice a1 t1.args.length c1] 47)) (ki t1) (.slice a1 t1.args.length c1):=(Rep.keep fun b o h ho=>⟨by have:=xr h;omega,zJ ho⟩).1 _ _ AC;have JR:(w1.alloc (.cells #[.slice a1 t1.args.length c1] 47)) w1=OK (.slice a1 t1.args.length c1):=by simp
     go_wp2_with fail
     go_region_held3 (fun w'=>w' w1=OK (.slice a1 t1.args.length c1))
      (first
       |exact(sY.cell (by simp)).trans JR
       |(rw[TP (w:=w2) (sJ _ _ _ _ (by simp;omega))];exact(sY.cell (by simp)).trans JR)
       | go_keep)
      (first
       | (go_at_call 46;refine (n9 (zU t1) t1 (sZ _) hlA (w < ·) _ _ (by exact hrA.drew)).mono ?_;rintro en w2 ⟨rfl,sY⟩;have z2:=sY.size;have iP:(w:Nat)<w2:=(by simp at z2;omega);have Ac:w2 w=some (.slice none 0 0):=(sY.cell (by simp;omega)).trans (zV a_);have In:w2.frozen? w=false:=(sY.frozen (by simp;omega)).trans ((SK (w:=w1) (Below.heap_alloc _ _ _ lU)).trans Bz)))
     go_wp2_with fail
     refine bodyPost_ret (v:=.tuple #[.agg #[.slice a1 t1.args.length c1],.bool (decide ((zU t1:Int)<=15))]) (by simp[results,Uu,go_sem,vN Ac]) rfl ?_;have Fk:No w w2:=((iJ.alloc iJ.size _).drew).trans (sY.mono (by simp;omega));refine⟨.slice a1 t1.args.length c1,?_,Fk.setCell (sZ _) _,?_⟩
     ·have e15:decide ((zU t1:Int)<=15)=decide (zU t1<=15):=by rw[decide_eq_decide];omega
      rw[HM.out,HQ.out,e15];rfl
     ·rw[HM.out,HQ.out];refine(Rep.keep fun b o h ho=>⟨by have:=xr h;omega,?_⟩).1 _ _ AC;have hb:b≠w:=by have:=xr h;omega
      rw[sJ _ _ _ _ (by simpa using hb),sY.block b (by have:=zZ ho;simp;omega)];exact zJ ho
theorem nE (d:Nat):∀ {l:Bs} {t:Ty} {r:Bs} (e:Nat),d<=e->rdK d l=OK (t,r)->rdK e l=OK (t,r):=by
 induction d with
 | zero =>
   intro l t r e he h;rcases kC [98] l with hc|⟨r',hc⟩
   ·rw[xX hc]at h;simp at h
   ·rw[xR hc]at h ⊢;exact h
 | succ d ih =>
   intro l t r e he h;obtain⟨e,rfl⟩:∃e',e=e'+1:=⟨e-1,by omega⟩;rcases kC [98] l with hc|⟨r',hc⟩
   ·rw[jj hc]at h ⊢;simp only[RJ,RH,Prod.exists]at h ⊢;obtain⟨r1,h1,a,r2,h2,r3,h3,b,r4,h4,r5,h5,h6⟩:=h;exact⟨r1,h1,a,r2,ih e (by omega) h2,r3,h3,b,r4,ih e (by omega) h4,r5,h5,h6⟩
   ·rw[xR hc]at h ⊢;exact h
theorem eK {p l r:Bs}(h:cut p l=r):l.length=p.length+r.length:=by
 unfold cut at h;split at h
 ·rename_i hp;have:=List.IsPrefix.length_le (SL.1 hp);simp at h;subst h;simp;omega
 ·simp at h
theorem xj (a b:Ty):zU (zi a b)=1+zU a+zU b:=by cases b;simp[zi,zU,zc,Ty.args];omega
theorem rdK_shallow (e:Nat):∀ {l:Bs} {t:Ty} {r:Bs} (d:Nat),zU t<=2*d+1->rdK e l=OK (t,r)->rdK d l=OK (t,r):=by
 induction e with
 | zero =>
   intro l t r d hd h;exact nE 0 d (R6 _) h
 | succ e ih =>
   intro l t r d hd h;rcases kC [98] l with hc|⟨r',hc⟩
   ·rw[jj hc]at h;simp only[RJ,RH,Prod.exists]at h;obtain⟨r1,h1,a,r2,h2,r3,h3,b,r4,h4,r5,h5,h6⟩:=h;simp at h6;obtain⟨rfl,rfl⟩:=h6;have sG:=xj a b;have pa:=qA a;have pb:=qA b;obtain⟨d,rfl⟩:∃d',d=d'+1:=⟨d-1,by omega⟩;rw[jj hc];simp only[RJ,RH,Prod.exists];exact⟨r1,h1,a,r2,ih d (by omega) h2,r3,h3,b,r4,ih d (by omega) h4,r5,h5,rfl⟩
   ·rw[xR hc]at h ⊢;exact h
theorem rdK_len (e:Nat):∀ {l:Bs} {t:Ty} {r:Bs},rdK e l=OK (t,r)->l.length+5<=r.length+6*zU t:=by
 induction e with
 | zero =>
   intro l t r h;rcases kC [98] l with hc|⟨r',hc⟩
   ·rw[xX hc]at h;simp at h
   ·rw[xR hc]at h;simp at h;obtain⟨rfl,rfl⟩:=h;have:=eK hc;simp[zU,zc] at *;omega
 | succ e ih =>
   intro l t r h;rcases kC [98] l with hc|⟨r',hc⟩
   ·rw[jj hc]at h;simp only[RJ,RH,Prod.exists]at h;obtain⟨r1,h1,a,r2,h2,r3,h3,b,r4,h4,r5,h5,h6⟩:=h;simp at h6;obtain⟨rfl,rfl⟩:=h6;have sG:=xj a b;have k1:=eK h1;have k2:=ih h2;have k3:=eK h3;have k4:=ih h4;have k5:=eK h5;simp at k1 k3 k5;omega
   ·rw[xR hc]at h;simp at h;obtain⟨rfl,rfl⟩:=h;have:=eK hc;simp[zU,zc] at *;omega
theorem fx (l:Bs):uy l=if (zD l).2 then OK (zD l).1 else U:=by
 unfold uy zD;by_cases AQ:100<l.length
 ·rw[if_pos AQ];simp only[UO,if_false];split
  ·rename_i t hq;have:=rdK_len 15 hq;rw[if_neg (by simp at this;omega)]
  ·rfl
 ·rw[if_neg AQ];have e21:rdS 21 l=rdK 20 l:=rfl;rw[e21];cases hq:rdK 20 l with
  | none =>
    simp only[UO,if_false];split
    ·rename_i t Cv;have:=nE 15 20 (by omega) Cv;rw[hq]at this;simp at this
    ·rfl
  | some x =>
    obtain⟨t,rest⟩:=x;simp only;by_cases ht:zU t<=15
    ·have Cv:=rdK_shallow 20 15 (by omega) hq;rw[Cv];cases rest with
     |nil=>simp[ht]
     |cons x xs=>simp
    ·cases Cv:rdK 15 l with
     |none=>simp[ht]
     | some y =>
       obtain⟨t2,r2⟩:=y;have:=nE 15 20 (by omega) Cv;rw[hq]at this;simp at this;obtain⟨rfl,rfl⟩:=this;cases rest <;> simp[ht]
theorem l3Hand_any (F:Nat->Prop)(hand:List Ty)(t:Ty)(hv tv:Value)(w:World)(hh:Rep F w (.sl 47 1 hand.length (qu hand)) hv)(ht:Rep F w (ki t) tv)(hl:Lim (hand.length+t.args.length)) :
 Calls RG 99 #[hv,.agg #[tv]] w fun en w'=>
  ∃a c,en=.returned (.slice a (hand++t.args).length c)/\No w w'/\Rep (fun k=>F k\/w<=k) w' (.sl 47 1 (hand++t.args).length (qu (hand++t.args))) (.slice a (hand++t.args).length c):=by
 have Ar:=hl.le;obtain⟨xs1,Ba,g1⟩:=zz.ofRep hh (uA _);have al:=ht;rw[jJ]at al;obtain⟨xs2,Cc,g2⟩:=zz.ofRep al (uA _);obtain⟨a1,c1,e1⟩:=g1.slice;obtain⟨a2,c2,e2⟩:=g2.slice;subst e1;subst e2;have JR:(w.alloc (.cells #[.slice a2 t.args.length c2] 47)) w=OK (.slice a2 t.args.length c2):=by simp
 go_enter Tryz.func99,Tryz.ntmps99;go_wp2_with fail
 go_region_held3 (fun w'=>w' w=OK (.slice a2 t.args.length c2))
  (first
   |exact(Gc.cell (by simp)).trans JR
   |exact(oh.cell (by simp)).trans JR
   | go_keep)
  (first
   |(refine zL (by rfl) (.tmp 7) (.tmp 9) _ (by rfl) 47 (.agg #[.slice none 0 0]) 1 24 Ud Tryz.infoS rfl (by omega) (.slice ax hand.length cx) hand.length xs1 (by rfl) (by exact Mo) (.slice a2 t.args.length c2) t.args.length xs2 (by rfl) (by exact(g2.alloc _).below oh) (by unfold maxLen;omega) (by omega) ?_;intro ay cy wy hoy aI hgy;obtain⟨Gc,hfy⟩:=xI oh MJ aI hgy)
   | (refine zL (by rfl) (.tmp 5) (.tmp 6) _ (by rfl) 47 (.agg #[.slice none 0 0]) 1 24 Ud Tryz.infoS rfl (by omega) (.slice (some ⟨w.heap.size+1,0,none⟩) 0 0) 0 [] (by rfl) (by exact (Own.litAt #[] 0 _ (by simp) (by decide) rfl).drew) (.slice a1 hand.length c1) hand.length xs1 (by rfl) (by exact ((g1.alloc _).alloc _).drew) (by unfold maxLen;omega) (by omega) ?_;rw [Nat.zero_add,List.nil_append];intro ax cx wx Mo iw MG;obtain ⟨oh,MJ⟩:=xI (((sQ _ _).alloc (sZ _) _).drew) (dS (by simp)) iw MG))
 go_wp2_with fail
 go_ret;have sX:No w (w.alloc (.cells #[.slice a2 t.args.length c2] 47)):=(sQ _ _).alloc (sZ _) _;have Gb:No w wy:=sX.trans (Gc.mono (by simp));rw[RL];refine⟨ay,cy,rfl,Gb,?_⟩;rw[dl];exact hoy.rep (fun g h=>.inr (by have:=hfy g h;simp at this;omega)) (zY.append (Ba.below Gb (fun _ h=>.inl h)) (Cc.below Gb (fun _ h=>.inl h)))
end Go.Proofs.YtnfenijemllkbaaGreatDoor

/- Walks. -/
import Derived.Test.YtdhaafoiokkbnabGreatDoorQ1
set_option linter.unusedVariables false
set_option linter.unusedSimpArgs false
set_option maxHeartbeats 4000000
set_option maxRecDepth 100000
open Array renaming ext'->SD,getElem?_eq_getElem->O0,getElem_modify_self->QL
open Bool renaming false_eq_true->Rz
open Go.Lib renaming atoiAll->P9,indexAny->TW,itoa->PU
open Go.Proofs.Tryz renaming func27->TZ,func36->T0,func68->QN,func78->Sv,ntmps27->Tt,ntmps36->Tu,ntmps68->QE,ntmps78->Sl,prog->No,results36->Rf,results68->Px,underlying40->QU
open Go.Value renaming ownBlock->OG,slice->Ox
open Go.World renaming cell?->Li,cell?_of_block->QD,freeze->QW,frozen?_of_block->PB,setCell->Qi,var?->TX
open List renaming append_nil->OY,drop_zero->S7,isPrefixOf_iff_prefix->PC,length_append->Ov,mem_cons->OX,mem_of_getElem?->OI,take_length->OT
open Nat renaming zero_le->OS
open Option renaming bind_eq_bind->Ow,bind_eq_some_iff->N0,bind_none->PK,bind_some->Lx,map_eq_some_iff->OA
namespace Go.Proofs.YtdhaafoiokkbnabGreatDoor
open Go.RowKit
def gy (l:Bs):Int:=if (zD l)=[] then -1 else (zN l).length
theorem xQ (l:Bs):zN l++zD l=l:=List.takeWhile_append_dropWhile
theorem word_take (l:Bs):l.take (zN l).length=zN l:=by
 have h:=xQ l;have:=List.take_left (l₁:=zN l) (l₂:=zD l);rw [h] at this;exact this
theorem word_drop (l:Bs):l.drop (zN l).length=zD l:=by
 have h:=xQ l;have:=List.drop_left (l₁:=zN l) (l₂:=zD l);rw [h] at this;exact this
theorem y7 (l:Bs):(zN l).length+(zD l).length=l.length:=by
 have:=congrArg List.length (xQ l);simpa using this
theorem indexAny_sep (l:Bs):TW l [32,40,41]=gy l:=by
 induction l with
 | nil=>rfl
 | cons b l ih =>
   rw [TW];have hs:([32,40,41]:Bs).contains b=sep b:=by
    rw [Bool.eq_iff_iff];simp [sep,or_assoc]
   rw [hs];cases hb:sep b
   ·have e1:zN (b::l)=b::zN l:=by simp [zN,hb]
    have e2:zD (b::l)=zD l:=by simp [zD,hb]
    rw [ih];unfold gy;rw [e1,e2];by_cases h:zD l=[]
    ·simp [h]
    ·simp only [h,if_false,Rz];rw [if_neg (by rw [beq_iff_eq];omega)];simp
   ·have e1:zN (b::l)=[]:=by simp [zN,hb]
    have e2:zD (b::l)=b::l:=by simp [zD,hb]
    unfold gy;rw [e1,e2];simp
theorem indexAny_any (l:Bs) (w:World) (hl:Lim l.length) :
 Calls No 96 #[str l,.string ⟨#[32,40,41]⟩] w fun en w'=>en=.returned (.int .i64 (gy l))/\Below w.heap.size w w':=by
 have i5:=hl.le;have hsz:(⟨l.toArray⟩:ByteArray).size=l.length:=gG l;rw [<- indexAny_sep];by_cases h8:l.length<=8
 ·have:=nX ⟨l.toArray⟩ (by omega) w;simpa [str] using this
 ·refine (Tryz.strings_IndexAny_long (zero_of_info (n:=256) (by kernel_rfl)).1 ⟨l.toArray⟩ ⟨#[32,40,41]⟩ w (by show 2<=3;omega) (by omega) (by omega) (by show 3<4294967281;omega) (by
   intro j b hj;have:b∈([32,40,41]:Bs):=OI hj;simp at this;rcases this with rfl | rfl | rfl <;> decide)).mono ?_
  rintro e w' ⟨rfl,rfl⟩;refine ⟨by simp,((rZ _ _).alloc (n9 _) _).alloc (by simp) _⟩
theorem wN (sc:Nat) (c:List Value) (e:TypeId) (r:Bs) (w:World) (h:qA sc c e r w) (hr:Lim r.length) :
 Calls No 74 #[.pointer (some ⟨sc,0,none⟩)] w fun en w' =>
  en=.returned (str (zN r))/\But (· = sc) w w'/\qA sc c e (zD r) w':=by
 have h1:=h.cell;have h2:=h.free 0;have BA:=yX h;have hl:=hr.le;have hw:=y7 r;go_enter Tryz.func74,Tryz.ntmps74;go_wp2_with fail
 refine (indexAny_any r w hr).mono ?_;rintro en w1 ⟨rfl,hb⟩;have c1:w1.cell? ⟨sc,0,none⟩=some (str r):=by rw [hb.cell BA];exact h1
 have c2:w1.frozen? ⟨sc,0,none⟩=false:=by rw [hb.frozen BA];exact h2
 have hS:qA sc c e r w1:=by unfold qA;rw [hb.block sc BA];exact h
 clear h1 h2;by_cases h0:zD r=[]
 ·have hi:gy r = -1:=by simp [gy,h0]
  rw [hi];have e1:zN r=r:=by have:=xQ r;rw [h0] at this;simpa using this
  have HE:=n7 e1;have H0:=n7 h0;clear e1 h0 hi;go_wp2_with fail
  go_ret;have e2:(⟨r.toArray⟩:ByteArray).extract 0 r.length=⟨(zN r).toArray⟩:=by rw [bx,HE.out];simp
  refine ⟨?_,(But.ofBelow hb).setS 0 _,?_⟩
  ·show Ending.returned (.string _)=_;rw [e2]
  ·have:=hS.put (r':=zD r);rw [H0.out] at this ⊢;exact this
 ·have hi:gy r=(zN r).length:=by simp [gy,h0]
  rw [hi];have rH:(zN r).length<=r.length:=by omega
  have H0:=n7 h0;clear h0 hi;go_wp2_with fail
  go_ret;have e2:(⟨r.toArray⟩:ByteArray).extract 0 (zN r).length=⟨(zN r).toArray⟩:=by rw [bx,S7,word_take]
  have e3:(⟨r.toArray⟩:ByteArray).extract (zN r).length r.length=⟨(zD r).toArray⟩:=by rw [bx,OT,word_drop]
  refine ⟨?_,(But.ofBelow hb).setS 0 _,?_⟩
  ·show Ending.returned (.string _)=_;rw [e2]
  ·rw [e3];exact hS.put
structure yF (w:World):Prop where
 e0:∃ te pe,w.var? No "strconv.ErrSyntax" = some #[.iface te pe]
 e1:∃ te pe,w.var? No "strconv.ErrRange" = some #[.iface te pe]
 tab:Lib.TabIs No w "internal/strconv.uint64pow10" .u64 Lib.pow10Tab
def NotG (b:Nat):Prop:=b≠3/\b≠4/\b≠1
theorem Tryz.gn0:No.globalNamed "strconv.ErrSyntax" = some 3:=by kernel_rfl
theorem Tryz.gn1:No.globalNamed "strconv.ErrRange" = some 4:=by kernel_rfl
theorem Tryz.gn2:No.globalNamed "internal/strconv.uint64pow10" = some 1:=by kernel_rfl
theorem eK {P:Program} {w:World} {nm:String} {g:Nat} {x:Array Value} (hg:P.globalNamed nm=some g) (h:w.var? P nm=some x):g<w.heap.size:=by
 unfold TX at h;rw [hg] at h;simp only [Lx] at h;rcases Nat.lt_or_ge g w.heap.size with h' | h'
 ·exact h'
 ·rw [Array.getElem?_eq_none h'] at h;simp at h
theorem mX {P:Program} {w w':World} {nm:String} {g:Nat} {x:Array Value} (hg:P.globalNamed nm=some g) (hk:w'.heap[g]? = w.heap[g]?) (h:w.var? P nm=some x):w'.var? P nm=some x:=by
 unfold TX at *;rw [hg] at *;simp only [Lx] at *;rw [hk];exact h
theorem yF.but {m:Nat->Prop} {w w':World} (h:yF w) (hb:But m w w') (hm:∀ i,m i->NotG i):yF w':=by
 obtain ⟨⟨t0,p0,h0⟩,⟨t1,p1,h1⟩,h2⟩:=h;have l0:=eK Tryz.gn0 h0;have l1:=eK Tryz.gn1 h1;have l2:=eK Tryz.gn2 h2;exact ⟨⟨t0,p0,mX Tryz.gn0 (hb.block _ l0 fun e=>(hm _ e).1 rfl) h0⟩,⟨t1,p1,mX Tryz.gn1 (hb.block _ l1 fun e=>(hm _ e).2.1 rfl) h1⟩,mX Tryz.gn2 (hb.block _ l2 fun e=>(hm _ e).2.2 rfl) h2⟩
theorem yF.below {w w':World} (h:yF w) (hb:Below w.heap.size w w'):yF w':=h.but (m:=fun _=>False) (But.ofBelow hb) (fun _ e=>e.elim)
theorem yF.new {w:World} (h:yF w) {b:Nat} (hb:w.heap.size<=b):NotG b:=by
 obtain ⟨⟨t0,p0,h0⟩,⟨t1,p1,h1⟩,h2⟩:=h;have l0:=eK Tryz.gn0 h0;have l1:=eK Tryz.gn1 h1;have l2:=eK Tryz.gn2 h2;exact ⟨by omega,by omega,by omega⟩
theorem below_drewN {B:Nat} {a w:World} (h:Below B a w) (n:Nat):Below B a (w.drewN n):=h.trans ⟨rfl,rfl,rfl,n9 _,fun _ _=>rfl⟩
theorem below_grow (w:World) (os:Array Obj):Below w.heap.size w (Go.Sort.grow w os) :=
 ⟨rfl,rfl,rfl,by simp [Go.Sort.grow],fun k hk=>by simp [Go.Sort.grow,Array.getElem?_append_left hk]⟩
theorem below_freeze {B:Nat} {a w:World} (h:Below B a w) {p:Addr} (hp:B<=p.block) (n:Nat):Below B a (w.freeze p n):=by
 refine h.trans ⟨?_,?_,?_,?_,?_⟩
 ·unfold QW;split <;> rfl
 ·unfold QW;split <;> rfl
 ·unfold QW;split <;> rfl
 ·unfold QW;split <;> simp
 ·intro k hk;unfold QW;split
  ·rfl
  ·simp only [Array.getElem?_modify];rw [if_neg (by omega)]
theorem fJ (w:World) (e:TypeId) (s:ByteArray):Below w.heap.size w (Lib.bytesWorld w e s) :=
 below_freeze (((rZ w.heap.size w).drew).alloc (n9 _) _) (n9 _) _
theorem atoi_ok (l:Bs) (w:World) (hl:Lim l.length) (v:Int) (h:P9 l=.ok v) :
 Calls No 97 #[str l] w fun en w'=>en=.returned (.tuple #[.int .i64 v,.nilIface])/\Below w.heap.size w w':=by
 have i5:=hl.le;refine (Tryz.strconv_Atoi_ok ⟨l.toArray⟩ (by show l.toArray.size<=_;simp;omega) v h w).mono ?_;rintro en w' ⟨rfl,rfl | ⟨t,rfl⟩⟩
 ·exact ⟨rfl,rZ _ _⟩
 ·exact ⟨rfl,fJ _ _ _⟩
theorem atoi_no (l:Bs) (w:World) (hl:Lim l.length) (hg:yF w) (h:∀ v,P9 l≠.ok v) :
 Calls No 97 #[str l] w fun en w'=>∃ v t p,en=.returned (.tuple #[.int .i64 v,.iface t p])/\Below w.heap.size w w':=by
 have i5:=hl.le;have hs:(⟨l.toArray⟩:ByteArray).size<=281474976710656:=by show l.toArray.size<=_;simp;omega
 cases ha:P9 l
 ·rename_i v;exact absurd ha (h v)
 ·obtain ⟨te,pe,h0⟩:=hg.e0;refine (Tryz.strconv_Atoi_syntax_var ⟨l.toArray⟩ hs ha te pe w h0).mono ?_;rintro en w' ⟨N,rfl,_,_,hb⟩;exact ⟨_,_,_,rfl,hb⟩
 ·obtain ⟨te,pe,h0⟩:=hg.e1;refine (Tryz.strconv_Atoi_range_var ⟨l.toArray⟩ hs ha te pe w h0).mono ?_;rintro en w' ⟨N,rfl,_,_,hb⟩;exact ⟨_,_,_,rfl,hb⟩
theorem nJ (n:Int) (w:World) (hg:yF w) (h0 : -9223372036854775808<=n) (h1:n<=9223372036854775807) :
 Calls No 28 #[.int .i64 n] w fun en w'=>en=.returned (str (PU n))/\Below w.heap.size w w':=by
 refine (Tryz.strconv_Itoa n h0 h1 w hg.tab).mono ?_;rintro en w' ⟨rfl,k,os,rfl⟩;exact ⟨rfl,(below_drewN (rZ _ _) k).trans (below_grow (w.drewN k) os)⟩
theorem nT {l:Bs} {v:Int} (h:P9 l=.ok v) : -9223372036854775808<=v/\v<=9223372036854775807:=by
 unfold P9 at h;split at h
 ·simp at h
 ·simp only at h;split at h
  ·simp at h
  ·simp at h
  ·split at h
   ·simp at h
   ·split at h
    ·simp at h
    ·rename_i h1 h2;simp only [Lib.NumEnd.ok.injEq] at h;split at h <;> omega
theorem itoa_of {l:Bs} {v:Int} (h:P9 l=.ok v) (w:World) (hg:yF w) :
 Calls No 28 #[.int .i64 v] w fun en w'=>en=.returned (str (PU v))/\Below w.heap.size w w' :=
 nJ v w hg (nT h).1 (nT h).2
def uT (sr:Nat) (w:World) (o:Option (Bd×Bs×Nat)) (en:Ending) (w':World):Prop :=
 ∃ (v:Value) (r':Bs) (left':Int),en=.returned v/\But (fun x=>x=sr) w w'/\qA sr [.int .i64 left'] 145 r' w'/\(o=none->v=.pointer none) /\
   (∀ b rest sQ,o=some (b,rest,sQ)->r'=rest/\left'=(sQ:Nat)/\Rep (w.heap.size<=·) w' (k_ b) v)
theorem zd {F:Nat->Prop} {w:World} {b:Bd} {v:Value} (h:Rep F w (k_ b) v):∃ a,v=.pointer (some ⟨a,0,none⟩):=by
 cases b with
 | leaf c=>rw [k_,jw] at h;obtain ⟨a,c,h,_⟩:=h;exact ⟨a,h⟩
 | ask v ss y n=>rw [k_,jw] at h;obtain ⟨a,c,h,_⟩:=h;exact ⟨a,h⟩
theorem uT.no {sr:Nat} {w:World} {o:Option (Bd×Bs×Nat)} {w':World} {r:Bs} {left:Int} (ho:o=none) (hb:But (fun x=>x=sr) w w') (hs:qA sr [.int .i64 left] 145 r w') :
 uT sr w o (.returned (.pointer none)) w' :=
 ⟨_,r,left,rfl,hb,hs,fun _=>rfl,fun _ _ _ h=>by rw [ho] at h;simp at h⟩
theorem uT.yes {sr:Nat} {w:World} {o:Option (Bd×Bs×Nat)} {w':World} {r:Bs} {left:Nat} {b:Bd} {v:Value} (ho:o=some (b,r,left)) (hb:But (fun x=>x=sr) w w') (hs:qA sr [.int .i64 left] 145 r w')
 (hv:Rep (w.heap.size<=·) w' (k_ b) v):uT sr w o (.returned v) w' :=
 ⟨_,r,left,rfl,hb,hs,fun h=>by rw [ho] at h;simp at h,fun _ _ _ h=>by rw [ho] at h;simp at h;obtain ⟨rfl,rfl,rfl⟩:=h;exact ⟨rfl,rfl,hv⟩⟩
def jC (d:Nat) (levels:List Ty):Prop:=(∀ t∈levels,zJ t<=15)/\levels.length+15*d<=10000
def g_ (d:Nat):Prop:=∀ (sr left:Nat) (levels:List Ty) (l:Bs) (lv:Value) (F:Nat->Prop) (w:World),yF w->NotG sr ->
 qA sr [.int .i64 left] 145 l w->left<=1000->Lim l.length->jC d levels ->
 Rep F w (.sl 32 1 levels.length (qH levels)) lv->(∀ b,F b->b≠sr) ->
 Calls No 78 #[.pointer (some ⟨sr,0,none⟩),lv,.int .i64 d] w (uT sr w (rdB d levels left l))
theorem pT (a b:List Ty):qH (a++b)=qH a++qH b:=by
 induction a with
 | nil=>rfl
 | cons t ts ih=>simp [qH,ih]
theorem bV {F:Nat->Prop} {m:Nat->Prop} {w w':World} {e:TypeId} {sz n:Nat} {cs:List DV} {v:Value} {news:List Value} (hb:But m w w') (hF:∀ b,F b->¬ m b) (h:Rep F w (.sl e sz n cs) v) (hs:zu sz v n news w):zu sz v n news w':=by
 rw [zh] at h;obtain ⟨hl,a,cap,rfl,hn,hz,h⟩:=h;obtain ⟨h1,h2,h3⟩:=hs;refine ⟨h1,h2,?_⟩;rcases h with rfl | ⟨b,o,c,fr,rfl,rS,hc,hr⟩
 ·have:news=[]:=List.eq_nil_of_length_eq_zero (by simpa using h1);subst this;rcases h3 with ⟨a',c',e',_⟩ | h3
  ·exact .inl ⟨a',c',e',by simp⟩
  ·exact .inr h3
 ·rcases h3 with ⟨a',c',e',h3⟩ | ⟨h3,_⟩
  ·simp at e';obtain ⟨e1,e2⟩:=e';subst e1;refine .inl ⟨_,cap,rfl,fun j u hj=>?_⟩;have:=h3 j u hj;rw [hb.cell (n_ w _ this) ?_]
   ·exact this
   ·unfold Addr.add;split <;> exact hF b rS
  ·simp at h3
theorem part_pre {F:Nat->Prop} {sr:Nat} {left:Int} {levels more:List Ty} {r1:Bs} {xs1 xs2:List Value} {ac:Option Addr} {kc:Nat} {w w1 wx wc:World} (hg:yF w) (hn:NotG sr) (Ci:sr<w.heap.size)
 (rW:But (fun x=>x=sr) w w1) (tJ:qA sr [.int .i64 left] 145 r1 w1)
 (hF:∀ b,F b->b≠sr) (G1:zW F w1 (qH levels) xs1) (G2:zW F w1 (qH more) xs2)
 (hx:Below w1.heap.size w1 wx) (Jj:Own wc 32 1 (.slice ac (levels.length+more.length) kc) (levels.length+more.length) (xs1++xs2))
 (Ic:Below wx.heap.size wx wc) (BI:∀ g,(Ox ac (levels.length+more.length) kc).ownBlock=some g->wx.heap.size<=g) :
 Below w1.heap.size w1 wc/\yF wc/\qA sr [.int .i64 left] 145 r1 wc /\
  Rep (fun b=>b≠sr) wc (.sl 32 1 (levels++more).length (qH (levels++more))) (.slice ac (levels.length+more.length) kc):=by
 have z1:=rW.size;have hb:Below w1.heap.size w1 wc:=zzT hx Ic;refine ⟨hb,(hg.but rW fun i e=>by subst e;exact hn).below hb,(hb.block sr (by omega)).trans tJ,?_⟩;rw [Ov,pT];refine Jj.rep (fun g h=>?_) (zW.append (G1.below hb hF) (G2.below hb hF));have:=BI g h;have:=hx.size;omega
theorem mg (d:Nat) (ih:g_ d) (sr left:Nat) (levels more:List Ty) (l:Bs) (lv mv:Value) (F:Nat->Prop) (w:World) (b1 b2 b3:Nat) (hg:yF w) (hn:NotG sr)
 (hs:qA sr [.int .i64 left] 145 l w) (hl:left<=1000) (hr:Lim l.length) (hh:jC d (levels++more)) (hd:d<=1000)
 (th:Rep F w (.sl 32 1 levels.length (qH levels)) lv) (hmv:Rep F w (.sl 32 1 more.length (qH more)) mv) (hF:∀ b,F b->b≠sr)
 (c1:w.cell? ⟨b1,0,none⟩=some (.pointer (some ⟨sr,0,none⟩))) (c2:w.cell? ⟨b2,0,none⟩=some lv) (c3:w.cell? ⟨b3,0,none⟩=some (.int .i64 ((d:Int)+1)))
 (n1:b1≠sr) (n2:b2≠sr) (n3:b3≠sr) :
 Calls No 98 #[mv,.pointer (some ⟨b1,0,none⟩),.pointer (some ⟨b2,0,none⟩),.pointer (some ⟨b3,0,none⟩)] w (uT sr w (jr (rdB d) (levels++more) left l)):=by
 have IH:=n7 ih;clear ih;have HF:=n7 hF;clear hF;have l1:=n_ w _ c1;have l2:=n_ w _ c2;have l3:=n_ w _ c3;go_enter Tryz.func98,Tryz.ntmps98;go_wp2_with fail
 rcases kM [32] l with h1 | ⟨r1,h1⟩
 ·refine (ve hs h1).mono ?_;rintro en w1 ⟨rfl,rW,tJ⟩;go_wp2_with fail
  go_ret;exact uT.no (by simp [jr,h1.out]) rW tJ
 ·refine (jm hs h1).mono ?_;rintro en w1 ⟨rfl,rW,tJ⟩;have d1:w1.cell? ⟨b1,0,none⟩=some (.pointer (some ⟨sr,0,none⟩)):=by rw [rW.cell l1 n1];exact c1
  have d2:w1.cell? ⟨b2,0,none⟩=some lv:=by rw [rW.cell l2 n2];exact c2
  have d3:w1.cell? ⟨b3,0,none⟩=some (.int .i64 ((d:Int)+1)):=by rw [rW.cell l3 n3];exact c3
  obtain ⟨xs1,Ap,g1⟩:=zu.ofRep th (wD _);obtain ⟨xs2,Aa,g2⟩:=zu.ofRep hmv (wD _);have lim:levels.length+more.length<=10000:=by have:=hh.2;simp at this;omega
  have Ci:=yX hs;have z1:=rW.size;have KV:=HF.out;have G1:=n7 (zW.but rW (fun b hb=>⟨HF.out b hb,hb⟩) Ap);have G2:=n7 (zW.but rW (fun b hb=>⟨HF.out b hb,hb⟩) Aa);have W1:zu 1 lv levels.length xs1 w1:=bV rW KV th g1;have W2:zu 1 mv more.length xs2 w1:=bV rW KV hmv g2;clear KV Ap Aa g1 g2 c1 c2 c3;obtain ⟨a1,k1,rfl⟩:=W1.slice;obtain ⟨a2,k2,rfl⟩:=W2.slice;have l1':b1<w1.heap.size:=by omega
  have l2':b2<w1.heap.size:=by omega
  have l3':b3<w1.heap.size:=by omega
  go_wp2_with fail
  have HW:=n7 (IntWalk.i64_in (d:Int) (by omega))
  go_region_held3 (fun w'=>w'.cell? ⟨b1,0,none⟩=some (.pointer (some ⟨sr,0,none⟩))/\w'.cell? ⟨b2,0,none⟩=some (.slice a1 levels.length k1)/\w'.cell? ⟨b3,0,none⟩=some (.int .i64 ((d:Int)+1)))
   (first
    | exact ⟨(Bo.cell l1' n1).trans d1,(Bo.cell l2' n2).trans d2,(Bo.cell l3' n3).trans d3⟩
    | exact ⟨(hbb.cell l1').trans d1,(hbb.cell l2').trans d2,(hbb.cell l3').trans d3⟩
    | go_keep)
   (first
    | (go_at_call 99;refine (concatK_any w1.heap.size levels.length more.length (.slice a1 levels.length k1) (.slice a2 more.length k2) xs1 xs2 _ (by simp) (by simp) (W1.keep fun _ _ h=>by simpa using zV h) (W2.keep fun _ _ h=>by simpa using zV h) (show _<=_ by omega) (show _<=_ by omega) (show _<=_ by omega)).mono ?_;rintro en wc ⟨ac,kc,rfl,Jj,Ic,BI⟩;obtain ⟨hbb,hgc,BA,Gt⟩:=part_pre hg hn Ci rW tJ HF.out G1.out G2.out (((rZ w1.heap.size w1).alloc (n9 _) _).drew) Jj Ic BI)
    | (go_at_call 78
       rw [HW.out];refine (IH.out sr left (levels++more) r1 _ (fun b=>b≠sr) wc hgc hn BA hl (hr.mono h1.le) hh Gt (fun b h=>h)).mono ?_;rintro en wf ⟨v,r',left',rfl,hbf,AF,Mh,hyf⟩;have Bo:=(But.ofBelow (m:=fun x=>x=sr) hbb).trans hbf))
  go_wp2_with fail
  go_ret;refine ⟨v,r',left',rfl,rW.trans Bo,AF,fun h=>Mh ?_,fun b rest sQ h=>?_⟩
  ·simpa [jr,h1.out] using h
  ·obtain ⟨e1,e2,e3⟩:=hyf b rest sQ (by simpa [jr,h1.out] using h);exact ⟨e1,e2,(Rep.keep fun b o h ho=>⟨by have:=h;have:=hbb.size;omega,ho⟩).1 _ _ e3⟩
theorem qA.cell1 {sc:Nat} {c:List Value} {e:TypeId} {r:Bs} {u:Value} {w:World} (h:qA sc (u::c) e r w):w.cell? ⟨sc,1,none⟩=some u:=by
 simp [Li,qA] at *;simp [h]
theorem qA.put1 {sc:Nat} {c:List Value} {e:TypeId} {r:Bs} {u u':Value} {w:World} (h:qA sc (u::c) e r w):qA sc (u'::c) e r (w.setCell ⟨sc,1,none⟩ u'):=by
 unfold qA at *;have rH:=zZ h;have h':w.heap[sc]=.cells (str r::u::c).toArray e (0,0):=by simpa [O0 rH] using h
 show (w.heap.modify sc _)[sc]? = _;rw [O0 (by simpa using rH),QL,h'];simp
def fh (B sr:Nat) (lv:Value) (d:Nat) (w:World):Prop :=
 w.cell? ⟨B,0,none⟩=some (.pointer (some ⟨sr,0,none⟩))/\w.cell? ⟨B+1,0,none⟩=some lv/\w.cell? ⟨B+1+1,0,none⟩=some (.int .i64 (d:Int))
theorem fh.but {B sr:Nat} {lv:Value} {d:Nat} {m:Nat->Prop} {w w':World} (h:fh B sr lv d w) (hb:But m w w') (hm:∀ i,m i->i≠B/\i≠B+1/\i≠B+1+1):fh B sr lv d w':=by
 obtain ⟨h1,h2,h3⟩:=h;refine ⟨?_,?_,?_⟩
 ·rw [hb.cell (n_ w _ h1) (fun e=>(hm _ e).1 rfl)];exact h1
 ·rw [hb.cell (n_ w _ h2) (fun e=>(hm _ e).2.1 rfl)];exact h2
 ·rw [hb.cell (n_ w _ h3) (fun e=>(hm _ e).2.2 rfl)];exact h3
def xN (ob v:Nat) (slv y n:Value) (w:World):Prop:=w.heap[ob]? = some (.cells #[str [],.int .i64 v,slv,y,n] 68 (0,0))
theorem xN.cells {ob v:Nat} {slv y n:Value} {w:World} (h:xN ob v slv y n w):w.cell? ⟨ob,2,none⟩=some slv/\w.cell? ⟨ob,3,none⟩=some y/\w.cell? ⟨ob,4,none⟩=some n/\ob<w.heap.size/\(∀ o,w.frozen? ⟨ob,o,none⟩=false):=by
 have hl:=zZ h;unfold xN at h;exact ⟨by simp [Li,h],by simp [Li,h],by simp [Li,h],hl,fun o=>by simp [World.frozen?,h]⟩
theorem zg {w:World} {b o:Nat} {c:Array Value} {e:TypeId} {u:Value} (h:w.heap[b]? = some (.cells c e (0,0))):(w.setCell ⟨b,o,none⟩ u).heap[b]? = some (.cells (c.setIfInBounds o u) e (0,0)):=by
 have rH:=zZ h;have h':w.heap[b]=.cells c e (0,0):=by simpa [O0 rH] using h
 show (w.heap.modify b _)[b]? = _;rw [O0 (by simpa using rH),QL,h'];simp
theorem xN.put2 {ob v:Nat} {slv y n u:Value} {w:World} (h:xN ob v slv y n w):xN ob v u y n (w.setCell ⟨ob,2,none⟩ u):=by
 unfold xN;rw [zg h];rfl
theorem xN.put3 {ob v:Nat} {slv y n u:Value} {w:World} (h:xN ob v slv y n w):xN ob v slv u n (w.setCell ⟨ob,3,none⟩ u):=by
 unfold xN;rw [zg h];rfl
theorem xN.put4 {ob v:Nat} {slv y n u:Value} {w:World} (h:xN ob v slv y n w):xN ob v slv y u (w.setCell ⟨ob,4,none⟩ u):=by
 unfold xN;rw [zg h];rfl
def d_ (sr B ob Z v d:Nat) (lv:Value) (levels ts:List Ty) (Ds:Nat) (r0:Bs) (w:World) (rd:Rd) (k:Nat) (wr:World):Prop :=
 ∃ bs lk leftk slv vs,qZ rd (kD levels (ts.take k)) Ds r0=some (bs,lk,leftk)/\But (fun x=>x=sr) w wr/\qA sr [.int .i64 (leftk:Nat)] 145 lk wr /\
   xN ob v slv (.pointer none) (.pointer none) wr/\Own wr 33 1 slv k vs/\(∀ g,slv.ownBlock=some g->Z<=g)/\zW (fun b=>Z<=b/\slv.ownBlock≠some b) wr (jU bs) vs/\fh B sr lv (d+1) wr/\Z<=wr.heap.size
theorem dc (a b:List Bd):jU (a++b)=jU a++jU b:=by
 induction a with
 | nil=>rfl
 | cons t ts ih=>simp [jU,ih]
theorem Tryz.infoB:(No.info? 33).map (fun i=>(i.zero,i.size,i.bytes))=some (some (.pointer none),1,8):=by kernel_rfl
theorem me {sr left:Nat} {x:UInt8} {r:Bs} {w w2:World} {o:Option (Bd×Bs×Nat)} {u:Value} (hw:u=str [x]) (hm:o=some (.leaf x,r,left)) (hb:But (fun x=>x=sr) w w2) (hs:qA sr [.int .i64 (left:Nat)] 145 r w2) :
 uT sr w o (.returned (.pointer (some ⟨w2.heap.size,0,none⟩))) (w2.alloc (.cells #[u,.int .i64 0,.slice none 0 0,.pointer none,.pointer none] 68)):=by
 refine uT.yes hm (hb.alloc _) (hs.alloc _) ?_;rw [k_,jw];refine ⟨_,_,rfl,hb.size,zG _ _,?_⟩;subst hw;refine zQ.2 ⟨_,_,rfl,zH.2 rfl,zQ.2 ⟨_,_,rfl,zH.2 rfl,zQ.2 ⟨_,_,rfl,?_,zQ.2 ⟨_,_,rfl,zH.2 rfl,zQ.2 ⟨_,_,rfl,zH.2 rfl,zC.2 rfl⟩⟩⟩⟩⟩;exact zh.2 ⟨rfl,none,0,rfl,n9 _,fun _=>rfl,.inl rfl⟩
theorem jC.next {d:Nat} {levels:List Ty} {v:Nat} {t a:Ty} (h:jC (d+1) levels) (hv:levels[v]? = some t) (ha:a∈t.args):jC d (levels++a.args):=by
 have ht:=h.1 t (OI hv);have sw:∀ ts:List Ty,∀ a∈ts,1+zJ a<=zt ts:=by
  intro ts
  induction ts with
  | nil=>simp
  | cons x xs ih =>
    intro a ha;rcases OX.1 ha with rfl | ha
    ·simp [zt]
    ·have:=ih a ha;simp [zt];omega
 have hlen:∀ ts:List Ty,ts.length<=zt ts:=by
  intro ts
  induction ts with
  | nil=>simp
  | cons x xs ih=>simp [zt];omega
 have h1:=sw _ a ha;have h2:=qx t;have h3:=qx a;refine ⟨fun x hx=>?_,?_⟩
 ·rcases List.mem_append.1 hx with hx | hx
  ·exact h.1 x hx
  ·have:=sw _ x hx;omega
 ·have:=hlen a.args;have:=h.2;simp;omega
theorem jC.same {d:Nat} {levels:List Ty} (h:jC (d+1) levels):jC d (levels++[]):=by
 refine ⟨fun x hx=>h.1 x (by simpa using hx),?_⟩;have:=h.2;simp;omega
theorem d_.next {sr B ob Z v d:Nat} {lv:Value} {levels ts:List Ty} {Ds:Nat} {r0:Bs} {w:World} {rd:Rd} {k:Nat} {wr w1 w2:World} {t:Ty} {bs:List Bd} {lk:Bs} {leftk:Nat} {slv:Value} {vs:List Value}
 {b:Bd} {rest:Bs} {sQ:Nat} {vb:Value} {o:Obj} {a':Option Addr} {c':Nat}
 (ht:ts[k]? = some t) (hp:qZ rd (kD levels (ts.take k)) Ds r0=some (bs,lk,leftk)) (hb:But (fun x=>x=sr) w wr)
 (iV:xN ob v slv (.pointer none) (.pointer none) wr) (hZ:∀ g,slv.ownBlock=some g->Z<=g) (r9:Own wr 33 1 slv k vs) (hr:zW (fun b=>Z<=b/\slv.ownBlock≠some b) wr (jU bs) vs) (hx:fh B sr lv (d+1) wr)
 (hz:Z<=wr.heap.size) (hq:jr rd (levels++t.args) leftk lk=some (b,rest,sQ))
 (rW:But (fun x=>x=sr) wr w1) (tJ:qA sr [.int .i64 (sQ:Nat)] 145 rest w1) (hv:Rep (wr.heap.size<=·) w1 (k_ b) vb)
 (aK:Own w2 33 1 (.slice a' (k+1) c') (k+1) (vs++[vb])) (rY:But (fun b=>slv.ownBlock=some b) (w1.alloc o) w2) (hg:∀ g,(Ox a' (k+1) c').ownBlock=some g->slv.ownBlock=some g\/g=(w1.alloc o).heap.size)
 (Ci:sr<w.heap.size) (hB:w.heap.size<=B) (E8:B+1+1<ob) (hobZ:ob<Z) :
 d_ sr B ob Z v d lv levels ts Ds r0 w rd (k+1) (w2.setCell ⟨ob,2,none⟩ (.slice a' (k+1) c')):=by
 have z1:=rW.size;have z2:=rY.size;have zw:=hb.size;rw [zK] at hg z2;have rH:∀ g,slv.ownBlock=some g->g<wr.heap.size:=fun g h=>r9.lt h;have hnsr:∀ g,slv.ownBlock=some g->Z<=g:=hZ;have keep:∀ i x,w1.heap[i]? = some x->slv.ownBlock≠some i->i≠ob->(w2.setCell ⟨ob,2,none⟩ (.slice a' (k+1) c')).heap[i]? = some x:=by
  intro i x hi hne ho;rw [rK _ _ _ _ (by simpa using ho),rY.block i (by rw [zK];have:=zZ hi;omega) hne];exact zY hi
 have Mj:xN ob v slv (.pointer none) (.pointer none) w1:=(rW.block ob (zZ iV) (by omega)).trans iV;have hnb2:xN ob v slv (.pointer none) (.pointer none) w2:=by
  unfold xN;rw [rY.block ob (by rw [zK];have:=zZ Mj;omega) (fun e=>by have:=hZ ob e;omega)];exact zY Mj
 have Ap:=hx.but rW (fun i e=>by subst e;omega);refine ⟨bs++[b],rest,sQ,_,vs++[vb],?_,?_,?_,hnb2.put2,?_,?_,?_,?_,?_⟩
 ·rw [nW ht hp,hq];rfl
 ·refine ((hb.trans rW).trans' ((But.refl (fun b=>slv.ownBlock=some b) w1).alloc o |>.trans rY) fun i hi e=>?_).setCell (p:=⟨ob,2,none⟩) (.inr (by simp;omega)) _;have:=hZ i e;omega
 ·exact keep sr _ tJ (fun e=>by have:=hZ sr e;omega) (by omega)
 ·refine aK.keep fun g x tV Ab=>?_
  rw [rK _ _ _ _ (by
   rcases hg g tV with h | h
   ·have:=hZ g h;simp;omega
   ·simp;omega)]
  exact Ab
 ·intro g h;rcases hg g h with h | h
  ·exact hZ g h
  ·omega
 ·rw [dc];refine zW.append ?_ (zW.one ?_)
  ·refine (Rep.keep fun i x hi Ab=>⟨⟨hi.1,fun e=>?_⟩,?_⟩).2 _ _ hr
   ·have hne:i≠sr:=by omega
    exact keep i x (by rw [rW.block i (zZ Ab) hne];exact Ab) hi.2 (by omega)
   ·rcases hg i e with h | h
    ·exact hi.2 h
    ·have:=zZ Ab;omega
  ·refine (Rep.keep fun i x hi Ab=>⟨⟨by have:=hi;omega,fun e=>?_⟩,?_⟩).1 _ _ hv
   ·exact keep i x Ab (fun e=>by have:=rH i e;have:=hi;omega) (by have:=hi;omega)
   ·rcases hg i e with h | h
    ·have:=rH i h;have:=hi;omega
    ·have:=zZ Ab;omega
 ·obtain ⟨y1,y2,y3⟩:=Ap;have ck:∀ i u,w1.cell? ⟨i,0,none⟩=some u->slv.ownBlock≠some i->i≠ob->(w2.setCell ⟨ob,2,none⟩ (.slice a' (k+1) c')).cell? ⟨i,0,none⟩=some u:=by
   intro i u hi hne ho;rw [QD (w:=w1) (a:=⟨i,0,none⟩) ?_];exact hi;have hl:=n_ w1 _ hi;obtain ⟨x,Ab⟩:∃ x,w1.heap[i]? = some x:=⟨w1.heap[i],by simp at hl;simp [hl]⟩;show (w2.setCell ⟨ob,2,none⟩ (.slice a' (k+1) c')).heap[i]? = w1.heap[i]?;rw [keep i x Ab hne ho,Ab]
  exact ⟨ck _ _ y1 (fun e=>by have:=hZ _ e;omega) (by omega),ck _ _ y2 (fun e=>by have:=hZ _ e;omega) (by omega),ck _ _ y3 (fun e=>by have:=hZ _ e;omega) (by omega)⟩
 ·simp only [Qi];simp;omega
theorem body_ask (d:Nat) (hd:d+1<=1000) (ih:g_ d) (sr left:Nat) (levels:List Ty) (l:Bs) (lv:Value) (F:Nat->Prop) (w:World) (hg:yF w) (hn:NotG sr)
 (hs:qA sr [.int .i64 ((left+1:Nat):Int)] 145 l w) (hl:left+1<=1000) (hr:Lim l.length) (hh:jC (d+1) levels)
 (th:Rep F w (.sl 32 1 levels.length (qH levels)) lv) (hF:∀ b,F b->b≠sr) (r1:Bs) (v:Nat) (t:Ty) (h1:Cut [40] l r1) (D7:lvl (zN r1) levels.length=some v) (ht:levels[v]? = some t) :
 Calls No 78 #[.pointer (some ⟨sr,0,none⟩),lv,.int .i64 ((d:Int)+1)] w (uT sr w (rdB (d+1) levels (left+1) l)):=by
 have HM:=n7 (dG (d+1) levels left h1.out);have hm:rdB (d+1) levels (left+1) l=mx (rdB d) levels v t left (zD r1):=by rw [HM.out,D7];simp only [ht]
 have HM:=n7 hm;clear hm;rw [rdAsk_eq] at HM;have IH:=n7 ih;clear ih;obtain ⟨B3,rj,Ea⟩:=lvl_lt D7;have D3:=n7 rj;have Jw:=n7 Ea;have hlvl':=n7 D7;have HT:=n7 ht;have c1:=hs.cell1;have f1:=hs.free 1;have lsr:=yX hs;have lsr1:sr<w.heap.size+1:=by omega
 have lsr2:sr<w.heap.size+1+1:=by omega
 obtain ⟨a0,k0,elv,_,_,rX⟩:=zP th;obtain ⟨bl,ol,u,dv,ea,KU,_,KD,B5,tq⟩:=rX v B3;rw [uv,ht] at KD;simp only [Option.map_some,Option.some.injEq] at KD;subst KD;subst ea;subst elv;obtain ⟨bt,st,eu,NG,M6,hst⟩:=zc tq;subst eu;obtain ⟨sa,ks,est,BG,_,Fv⟩:=zP hst;subst est;have M5:w.cell? ⟨bt,0,none⟩=some (.slice sa t.args.length ks):=by simp [Li,M6]
 have nl:=hF bl KU;have nt:=hF bt NG;have HF:=n7 hF;have Kd:=n7 Fv;have CL:=n7 B5;have CT:=n7 M5;clear rj Ea D7 ht rX tq M6 hst hF Fv B5 M5;have hlen:levels.length<=10000:=by have:=hh.2;omega
 have lK:t.args.length<=15:=by
  have h1:=hh.1 t (OI HT.out);have h2:=qx t;have hlen:∀ ts:List Ty,ts.length<=zt ts:=by
   intro ts
   induction ts with
   | nil=>simp
   | cons x xs ih=>simp [zt];omega
  have:=hlen t.args;omega
 go_enter Sv,Sl;go_wp2_with fail
 obtain ⟨W0,sV⟩:=zzM (((((w.setCell ⟨sr,1,none⟩ (.int .i64 left)).alloc (.cells #[.pointer (some ⟨sr,0,none⟩)] 143)).alloc (.cells #[.slice (some ⟨bl,ol,none⟩) levels.length k0] 100)).alloc (.cells #[.int .i64 ((d:Int)+1)] 3)));rw [<- sV];have ru:But (fun x=>x=sr) w W0:=by subst sV;exact ((((But.refl _ _).setS 1 _).alloc _).alloc _).alloc _
 have ik:qA sr [.int .i64 left] 145 l W0:=by subst sV;exact ((hs.put1).alloc _).alloc _ |>.alloc _
 have lu:fh w.heap.size sr (.slice (some ⟨bl,ol,none⟩) levels.length k0) (d+1) W0:=by subst sV;refine ⟨?_,?_,?_⟩ <;> go_simp
 have z0:W0.heap.size=w.heap.size+3:=by subst sV;simp
 clear sV c1 f1;refine (jm ik h1).mono ?_;rintro en w1 ⟨rfl,rW,tJ⟩;have Ap:=lu.but rW (fun i e=>by subst e;omega);have hb:=ru.trans rW;have z1:=rW.size;clear ru rW ik lu;obtain ⟨x1,x2,x3⟩:=id Ap;go_wp2_with fail
 refine (wN _ _ _ _ _ tJ (hr.mono h1.le)).mono ?_;rintro en w2 ⟨rfl,rY,iQ⟩;have tX:=hr.mono h1.le;have oH:=tX.mono (show (zN r1).length<=r1.length by have:=y7 r1;omega);have Aa:=Ap.but rY (fun i e=>by subst e;omega);have rS:=hb.trans rY;have z2:=rY.size;have DD:=hg.but rS (fun i e=>by subst e;exact hn);clear x1 x2 x3 hb rY tJ Ap;go_wp2_with fail
 refine (atoi_ok _ _ oH (v:Int) D3.out).mono ?_;rintro en w3 ⟨rfl,rE⟩;have z3:=rE.size;have B4:=DD.below rE;have oC:=(rE.block sr (by omega)).trans iQ;have IZ:=Aa.but (But.ofBelow (m:=fun _=>False) rE) (fun i e=>e.elim);have hb:=rS.trans (But.ofBelow rE);clear rS rE iQ Aa DD;go_wp2_with fail
 refine (itoa_of D3.out w3 B4).mono ?_;rintro en w4 ⟨rfl,rq⟩;have z4:=rq.size;have aW:=(rq.block sr (by omega)).trans oC;have hg4:=B4.below rq;have Ls:=IZ.but (But.ofBelow (m:=fun _=>False) rq) (fun i e=>e.elim);obtain ⟨x1,x2,x3⟩:=id Ls;have rS:=hb.trans (But.ofBelow rq);have hq:(PU (v:Int) == zN r1)=true:=by rw [beq_iff_eq];exact Jw.out
 have Dv:decide ((v:Int)<0)=false:=by rw [decide_eq_false_iff_not];omega
 have lE:decide (levels.length<=v)=false:=by rw [decide_eq_false_iff_not];omega
 have A7:(((d:Int)+1) == 0)=false:=by rw [beq_eq_false_iff_ne];omega
 have s1:w.heap.size+1<w4.heap.size:=by omega
 have s2:w.heap.size<w4.heap.size:=by omega
 have s3:w.heap.size+1+1<w4.heap.size:=by omega
 have d1:w4.cell? ⟨bl,ol+v,none⟩=some (.pointer (some ⟨bt,0,none⟩)):=by rw [rS.cell (n_ w _ CL.out) nl];exact CL.out
 have d2:w4.cell? ⟨bt,0,none⟩=some (.slice sa t.args.length ks):=by rw [rS.cell (n_ w _ CT.out) nt];exact CT.out
 have d3:=n_ w4 _ d1;have d4:=n_ w4 _ d2;clear hb rq oC IZ B4;go_wp2_with fail
 have aT:d_ sr w.heap.size w4.heap.size (w4.heap.size+1) v d (.slice (some ⟨bl,ol,none⟩) levels.length k0) levels t.args left (zD r1) w (rdB d) 0
  (w4.alloc (.cells #[.string ⟨#[]⟩,.int .i64 v,.slice none 0 0,.pointer none,.pointer none] 68)):=by
  refine ⟨[],zD r1,left,.slice none 0 0,[],by simp [kD,qZ],rS.alloc _,qA.alloc aW _,zG _ _,World.ownsRow_nil _ _ _ _,fun g h=>by simp [OG] at h,zC.2 rfl,Ls.but ((But.refl (fun _=>False) _).alloc _) (fun i e=>e.elim),by simp⟩
 have hz4:w.heap.size+1+1<w4.heap.size:=s3;clear x1 x2 x3 d1 d2 d3 d4 Ls aW rS hg4;generalize hZ:w4.heap.size+1=Z at aT;generalize hO:w4.heap.size=ob at *;have HZ:=n7 hZ;clear hZ;have HO:=n7 hO;clear hO
 go_loopw [93] (fun i wr=>∃ k:Nat,k<=t.args.length/\i=.int .i64 k/\d_ sr w.heap.size ob Z v d (.slice (some ⟨bl,ol,none⟩) levels.length k0) levels t.args left (zD r1) w (rdB d) k wr)
  (fun i _=>t.args.length-(intOf i).toNat)
 case atStart=>exact ⟨0,OS _,rfl,aT⟩
 case round =>
  clear aT;rename_i wr;obtain ⟨k,hk,rfl,hrel⟩:=hrel;obtain ⟨bs,lk,leftk,slv,vs,hp,hb,Ck,iV,r9,hZb,aS,iT,Lo⟩:=hrel;have hple:=pB (my d) _ hp;have Mu:leftk<=1000:=by omega
  have aA:=x_ r1;have Fd:Lim lk.length:=hr.mono (by have:=h1.le;omega);have hgk:yF wr:=hg.but hb (fun i e=>by subst e;exact hn);have Jq:Rep F wr (.sl 32 1 levels.length (qH levels)) (.slice (some ⟨bl,ol,none⟩) levels.length k0):=Rep.but hb (fun b hb=>⟨HF.out b hb,hb⟩) th;have Ep:=n7 hp;have Ij:=n7 hZb;clear hp hZb hple;by_cases rH:k<t.args.length
  ·obtain ⟨ba,oa,uk,dk,esa,hFa,_,M2,DG,sT⟩:=Kd.out k rH;subst esa;rw [uv,OA] at M2;obtain ⟨tk,Aq,rfl⟩:=M2;obtain ⟨bk,sk,euk,hFk,M9,I_⟩:=zc sT;subst euk;obtain ⟨ask,ksk,esk⟩:∃ a c,sk=.slice a tk.args.length c:=by obtain ⟨a,c,e,_⟩:=zP I_;exact ⟨a,c,e⟩
   subst esk;have e1:wr.cell? ⟨ba,oa+k,none⟩=some (.pointer (some ⟨bk,0,none⟩)):=by rw [hb.cell (n_ w _ DG) (HF.out ba hFa)];exact DG
   have e2:wr.cell? ⟨bk,0,none⟩=some (.slice ask tk.args.length ksk):=by
    have:w.cell? ⟨bk,0,none⟩=some (.slice ask tk.args.length ksk):=by simp [Li,M9]
    rw [hb.cell (n_ w _ this) (HF.out bk hFk)];exact this
   have LI:Rep F wr (.sl 32 1 tk.args.length (qH tk.args)) (.slice ask tk.args.length ksk):=Rep.but hb (fun b hb=>⟨HF.out b hb,hb⟩) I_;have hhk:jC d (levels++tk.args):=hh.next HT.out (OI Aq);have HTK:=n7 Aq;clear Aq DG M9 sT I_;obtain ⟨y1,y2,y3⟩:=id iT;go_wp2_with fail
   refine (mg d IH.out sr leftk levels tk.args lk _ _ F wr w.heap.size (w.heap.size+1) (w.heap.size+1+1) hgk hn Ck Mu Fd hhk (by omega) Jq LI HF.out y1 y2 y3 (by omega) (by omega) (by omega)).mono ?_;rintro en w5 ⟨vb,r',left',rfl,rx,As,A3,AV⟩;clear y1 y2 y3 e1 e2;cases hq:jr (rdB d) (levels++tk.args) leftk lk with
   | none =>
     obtain rfl:=A3 hq;have HQ:=n7 hq;clear hq A3 AV;go_wp2_with fail
     go_ret;refine uT.no ?_ (hb.trans rx) As;rw [HM.out,hands_none (k+1) (by rw [nW HTK.out Ep.out,HQ.out];rfl)];rfl
   | some x =>
     obtain ⟨b,rest,sQ⟩:=x;obtain ⟨rfl,rfl,Du⟩:=AV b rest sQ hq;have HQ:=n7 hq;clear hq A3 AV;obtain ⟨ab,evb⟩:=zd Du;subst evb;have D5:xN ob v slv (.pointer none) (.pointer none) w5:=(rx.block ob (zZ iV) (by have:=HO.out;omega)).trans iV;obtain ⟨q1,_,_,q4,q5⟩:=D5.cells;have q6:=q5 2;have oR:Own w5 33 1 slv k vs:=r9.keep fun g o tV ho=>by rw [rx.block g (zZ ho) (by have:=Ij.out g tV;have:=HZ.out;omega)];exact ho
     clear q5;go_wp2_with (at_builtin;refine zM rfl _ _ 66 rfl 33 (.pointer none) 1 8 Tryz.underlying66 Tryz.infoB rfl (by decide) slv k vs rfl ?c1 _ 1 [.pointer (some ⟨ab,0,none⟩)] rfl ?c2 ?c3 ?c4 ?_)
     case c1=>exact oR.keep fun g o tV ho=>zY ho
     case c2=>exact zu.lit rfl
     case c3=>unfold maxLen;omega
     case c4=>omega
     intro a' c' w6 aK rC tV;have Gz:xN ob v slv (.pointer none) (.pointer none) w6:=by
      unfold xN;rw [rC.block ob (by simp;omega) (fun e=>by have:=Ij.out ob e;have:=HZ.out;omega)];exact zY D5
     have sG:=d_.next HTK.out Ep.out hb iV Ij.out r9 aS iT Lo HQ.out rx As Du aK rC (fun g h=>(tV g h).imp_right fun e=>e.trans (by simp)) lsr (n9 _) hz4 (by have:=HZ.out;omega);obtain ⟨p1,_,_,p4,p5⟩:=Gz.cells;have p6:=p5 2;have HG:=n7 tV;clear tV p5;go_wp2_with fail
     go_roundw
     case rel=>exact ⟨k+1,by omega,by go_num,sG⟩
     case measure=>simp [intOf];omega
  ·obtain rfl:k=t.args.length:=by omega
   have hp:qZ (rdB d) (kD levels t.args) left (zD r1)=some (bs,lk,leftk):=by have:=Ep.out;rwa [OT] at this
   have HP:=n7 hp;clear hp Ep rH hk;have aj:∀ W:World,Rep F W (.sl 32 1 ([]:List Ty).length (qH [])) (.slice none 0 0):=fun W=>zh.2 ⟨rfl,none,0,rfl,n9 _,fun _=>rfl,.inl rfl⟩;have hh0:=hh.same;have Oh:=n7 aj;clear aj;obtain ⟨y1,y2,y3⟩:=id iT;go_wp2_with fail
   refine (mg d IH.out sr leftk levels [] lk _ _ F wr w.heap.size (w.heap.size+1) (w.heap.size+1+1) hgk hn Ck Mu Fd hh0 (by omega) Jq (Oh.out wr) HF.out y1 y2 y3 (by omega) (by omega) (by omega)).mono ?_;rw [OY] at *;rintro en w5 ⟨vb,r',left',rfl,rx,As,A3,AV⟩;clear y1 y2 y3;have D5:xN ob v slv (.pointer none) (.pointer none) w5:=(rx.block ob (zZ iV) (by have:=HO.out;omega)).trans iV;have Na:=iT.but rx (fun i e=>by subst e;omega);have aB:=hb.trans rx;have z5:=rx.size;have zr:=hb.size;obtain ⟨_,q2,_,q4,q5⟩:=D5.cells;have q6:=q5 3;clear q5;cases hq:jr (rdB d) levels leftk lk with
   | none =>
     obtain rfl:=A3 hq;have HQ:=n7 hq;clear hq A3 AV;go_wp2_with fail
     go_ret;refine uT.no ?_ (aB.setCell (p:=⟨ob,3,none⟩) (.inr (by simp;omega)) _) (r:=r') (left:=left') ?_
     ·rw [HM.out];simp only [HP.out,Ow,Lx,HQ.out,PK]
     ·unfold qA;rw [rK _ _ _ _ (by simp;omega)];exact As
   | some x =>
     obtain ⟨by1,rest1,ip⟩:=x;obtain ⟨rfl,rfl,Du⟩:=AV _ _ _ hq;have hle5:=wj (my d) hq;have HQ:=n7 hq;clear hq A3 AV;obtain ⟨ab,evb⟩:=zd Du;subst evb;have Jo:=D5.put3 (u:=.pointer (some ⟨ab,0,none⟩));obtain ⟨WA,KK⟩:=zzM (w5.setCell ⟨ob,3,none⟩ (.pointer (some ⟨ab,0,none⟩)));go_wp2_with fail
     rw [<- KK] at Jo ⊢;have DL:But (fun x=>x=sr) w WA:=by subst KK;exact aB.setCell (p:=⟨ob,3,none⟩) (.inr (by simp;omega)) _
     have kA:∀ i x,w5.heap[i]? = some x->i≠ob->WA.heap[i]? = some x:=by
      intro i x hx hne;subst KK;rw [rK _ _ _ _ (by simpa using hne)];exact hx
     have zA:WA.heap.size=w5.heap.size:=by subst KK;simp [Qi]
     have hsA:qA sr [.int .i64 (ip:Nat)] 145 r' WA:=kA _ _ As (by omega);have M_:fh w.heap.size sr (.slice (some ⟨bl,ol,none⟩) levels.length k0) (d+1) WA:=by
      subst KK;exact Na.but (m:=fun i=>i=ob) ((But.refl (fun i=>i=ob) w5).setCell (p:=⟨ob,3,none⟩) (.inl rfl) _) (fun i e=>by subst e;omega)
     have hrsA:zW (fun b=>Z<=b/\slv.ownBlock≠some b) WA (jU bs) vs :=
      (Rep.keep fun i x hi hx=>⟨hi,kA i x (by rw [rx.block i (zZ hx) (by have:=HZ.out;omega)];exact hx) (by have:=HZ.out;omega)⟩).2 _ _ aS
     have L5:Own WA 33 1 slv t.args.length vs:=r9.keep fun g o tV ho=>kA g o (by rw [rx.block g (zZ ho) (by have:=Ij.out g tV;have:=HZ.out;omega)];exact ho) (by have:=Ij.out g tV;have:=HZ.out;omega);have hv5A:Rep (wr.heap.size<=·) WA (k_ by1) (.pointer (some ⟨ab,0,none⟩)):=(Rep.keep fun i x hi hx=>⟨hi,kA i x hx (by have:=zZ iV;have:=hi;omega)⟩).1 _ _ Du;have hgA:yF WA:=hg.but DL (fun i e=>by subst e;exact hn);have hlvA:Rep F WA (.sl 32 1 levels.length (qH levels)) (.slice (some ⟨bl,ol,none⟩) levels.length k0):=Rep.but DL (fun b hb=>⟨HF.out b hb,hb⟩) th;have KA:=n7 kA;clear KK kA q2 q4 q6 D5 rx Na As aS Du Ck iT Jq hgk;obtain ⟨y1,y2,y3⟩:=id M_;refine (mg d IH.out sr ip levels [] r' _ _ F WA w.heap.size (w.heap.size+1) (w.heap.size+1+1) hgA hn hsA (by omega) (Fd.mono (by omega)) (by rw [OY];exact hh0) (by omega) hlvA (Oh.out WA) HF.out y1 y2 y3 (by omega) (by omega) (by omega)).mono ?_;rw [OY] at *;rintro en w6 ⟨vn,r6,Lj,rfl,rC,Gr,lN,lC⟩;clear y1 y2 y3;have Gz:xN ob v slv (.pointer (some ⟨ab,0,none⟩)) (.pointer none) w6:=(rC.block ob (zZ Jo) (by have:=HO.out;omega)).trans Jo;have hbx6:=M_.but rC (fun i e=>by subst e;omega);obtain ⟨x1,_,_⟩:=id hbx6;have KG:=DL.trans rC;have z6:=rC.size;obtain ⟨_,_,q3,q4,q5⟩:=Gz.cells;have q6:=q5 4;clear q5;cases AZ:jr (rdB d) levels ip r' with
     | none =>
       obtain rfl:=lN AZ;have Gd:=n7 AZ;clear AZ lN lC;go_wp2_with fail
       go_ret;refine uT.no ?_ (KG.setCell (p:=⟨ob,4,none⟩) (.inr (by simp;omega)) _) (r:=r6) (left:=Lj) ?_
       ·rw [HM.out];simp only [HP.out,Ow,Lx,HQ.out,Gd.out,PK]
       ·unfold qA;rw [rK _ _ _ _ (by simp;omega)];exact Gr
     | some x =>
       obtain ⟨bn,rest2,sQ⟩:=x;obtain ⟨rfl,rfl,Kq⟩:=lC _ _ _ AZ;have hle6:=wj (my d) AZ;have Gd:=n7 AZ;clear AZ lN lC;obtain ⟨an,evn⟩:=zd Kq;subst evn;have Mi:=Gz.put4 (u:=.pointer (some ⟨an,0,none⟩));have hbD:But (fun x=>x=sr) w (w6.setCell ⟨ob,4,none⟩ (.pointer (some ⟨an,0,none⟩))):=KG.setCell (p:=⟨ob,4,none⟩) (.inr (by simp;omega)) _;have hsD:qA sr [.int .i64 (sQ:Nat)] 145 r6 (w6.setCell ⟨ob,4,none⟩ (.pointer (some ⟨an,0,none⟩))):=by
        unfold qA;rw [rK _ _ _ _ (by simp;omega)];exact Gr
       go_wp2_with fail
       rcases kM [41] r6 with h7 | ⟨r7,h7⟩
       ·refine (ve hsD h7).mono ?_;rintro en w7 ⟨rfl,rP,Eo⟩;go_wp2_with fail
        go_ret;refine uT.no ?_ (hbD.trans rP) Eo;rw [HM.out];simp only [HP.out,Ow,Lx,HQ.out,Gd.out,h7.out,PK]
       refine (jm hsD h7).mono ?_;rintro en w7 ⟨rfl,rP,Eo⟩;go_wp2_with fail
       go_ret;refine uT.yes (b:=.ask v bs by1 bn) (r:=r7) (left:=sQ) ?_ (hbD.trans rP) Eo ?_
       ·rw [HM.out];simp only [HP.out,Ow,Lx,HQ.out,Gd.out,h7.out]
       ·have Bx:∀ i x,w6.heap[i]? = some x->i≠ob->i≠sr->w7.heap[i]? = some x:=by
         intro i x hx hne Kv;rw [rP.block i (by have:=zZ hx;simpa [Qi] using this) Kv,rK _ _ _ _ (by simpa using hne)];exact hx
        have keepA:∀ i x,WA.heap[i]? = some x->i≠ob->i≠sr->w7.heap[i]? = some x:=fun i x hx hne Kv=>Bx i x (by rw [rC.block i (zZ hx) Kv];exact hx) hne Kv;have hnb7:xN ob v slv (.pointer (some ⟨ab,0,none⟩)) (.pointer (some ⟨an,0,none⟩)) w7:=(rP.block ob (zZ Mi) (by omega)).trans Mi;have hZo:=HZ.out;have JI:bs.length=t.args.length:=by
         have:=(pB (my d) _ HP.out).2.2;simpa [kD] using this
        rw [k_,jw];refine ⟨ob,_,rfl,by omega,hnb7,?_⟩;refine zQ.2 ⟨_,_,rfl,zH.2 rfl,zQ.2 ⟨_,_,rfl,zH.2 rfl,zQ.2 ⟨_,_,rfl,?_,zQ.2 ⟨_,_,rfl,?_,zQ.2 ⟨_,_,rfl,?_,zC.2 rfl⟩⟩⟩⟩⟩
        ·rw [JI];refine (L5.keep fun g o tV ho=>keepA g o ho (by have:=Ij.out g tV;omega) (by have:=Ij.out g tV;omega)).rep (fun g tV=>by have:=Ij.out g tV;omega) ?_;exact (Rep.keep fun i x hi hx=>⟨by omega,keepA i x hx (by omega) (by omega)⟩).2 _ _ hrsA
        ·exact (Rep.keep fun i x hi hx=>⟨by have:=hi;omega,keepA i x hx (by have:=hi;omega) (by have:=hi;omega)⟩).1 _ _ hv5A
        ·exact (Rep.keep fun i x hi hx=>⟨by have:=hi;omega,Bx i x hx (by have:=hi;omega) (by have:=hi;omega)⟩).1 _ _ Kq
theorem body_step (d:Nat) (hd:d<=1000) (ih:∀ d',d=d'+1->g_ d'):g_ d:=by
 intro sr left levels l lv F w hg hn hs hl hr hh th hF;have IH:=n7 ih;clear ih;have HF:=n7 hF;clear hF;have c1:=hs.cell1;have f1:=hs.free 1;have lsr:=yX hs;have lsr1:sr<w.heap.size+1:=by omega
 have lsr2:sr<w.heap.size+1+1:=by omega
 obtain ⟨a0,k0,elv⟩:∃ a k,lv=.slice a levels.length k:=by obtain ⟨a,k,e,_⟩:=zP th;exact ⟨a,k,e⟩
 subst elv;rcases left with _ | left
 ·clear IH;go_enter Sv,Sl;go_wp2_with fail
  go_ret;refine uT.no (by unfold rdB;rfl) (((((But.refl _ _).setS 1 _).alloc _).alloc _).alloc _) (((hs.put1).alloc _).alloc _ |>.alloc _)
 by_cases JN:∃ d' r1 v t,d=d'+1/\Cut [40] l r1/\lvl (zN r1) levels.length=some v/\levels[v]? = some t
 ·obtain ⟨d',r1,v,t,rfl,h1,h2,h3⟩:=JN;exact body_ask d' hd (IH.out d' rfl) sr left levels l _ F w hg hn hs hl hr hh th HF.out r1 v t h1 h2 h3
 have Oo:=n7 JN;clear JN IH;go_enter Sv,Sl;go_wp2_with fail
 obtain ⟨W0,sV⟩:=zzM (((((w.setCell ⟨sr,1,none⟩ (.int .i64 left)).alloc (.cells #[.pointer (some ⟨sr,0,none⟩)] 143)).alloc (.cells #[.slice a0 levels.length k0] 100)).alloc (.cells #[.int .i64 d] 3)));rw [<- sV];have ru:But (fun x=>x=sr) w W0:=by subst sV;exact ((((But.refl _ _).setS 1 _).alloc _).alloc _).alloc _
 have ik:qA sr [.int .i64 left] 145 l W0:=by subst sV;exact ((hs.put1).alloc _).alloc _ |>.alloc _
 have lu:fh w.heap.size sr (.slice a0 levels.length k0) d W0:=by subst sV;refine ⟨?_,?_,?_⟩ <;> go_simp
 have z0:W0.heap.size=w.heap.size+3:=by subst sV;simp
 have sW:=ru;clear sV c1 f1;have n1:w.heap.size≠sr:=by omega
 have n2:w.heap.size+1≠sr:=by omega
 have n3:w.heap.size+1+1≠sr:=by omega
 rcases kM [40] l with h1 | ⟨r1,h1⟩
 ·refine (ve ik h1).mono ?_;rintro en w1 ⟨rfl,rW,tJ⟩;obtain ⟨x1,x2,x3⟩:=lu.but rW (fun i e=>by subst e;omega);go_wp2_with fail
  refine (wN _ _ _ _ _ tJ hr).mono ?_;rintro en w2 ⟨rfl,rY,iQ⟩;have hb:=(ru.trans rW).trans rY;have hm:rdB d levels (left+1) l=(if zN l=[116] then some (Bd.leaf 116,zD l,left) else if zN l=[102] then some (.leaf 102,zD l,left) else if zN l=[117] then some (.leaf 117,zD l,left) else none):=by
   unfold rdB;simp only [h1.out]
  have HM:=n7 hm;clear hm;go_wp2_with fail
  ·have hw:zN l=[116]:=by assumption
   go_ret;exact me (o:=rdB d levels (left+1) l) (x:=116) rfl (by rw [HM.out,if_pos hw]) hb iQ
  ·have hw:zN l=[102]:=by assumption
   go_ret;exact me (o:=rdB d levels (left+1) l) (x:=102) rfl (by rw [HM.out,if_neg (by rw [hw];decide),if_pos hw]) hb iQ
  ·have hw:((!zN l == [116])=true/\(!zN l == [102])=true)/\(!zN l == [117])=true:=by assumption
   go_ret;simp only [Bool.not_eq_true',beq_eq_false_iff_ne] at hw;exact uT.no (by rw [HM.out,if_neg hw.1.1,if_neg hw.1.2,if_neg hw.2]) hb iQ
  ·have hw:((!zN l == [116])=false\/(!zN l == [102])=false)\/(!zN l == [117])=false:=by assumption
   have FW:¬ zN l=[116]:=by assumption
   have Hf:¬ zN l=[102]:=by assumption
   have hw3:zN l=[117]:=by simpa [FW,Hf] using hw
   go_ret;exact me (o:=rdB d levels (left+1) l) (x:=117) (by rw [hw3]) (by rw [HM.out,if_neg FW,if_neg Hf,if_pos hw3]) hb iQ
 refine (jm ik h1).mono ?_;rintro en w1 ⟨rfl,rW,tJ⟩;have Ap:=lu.but rW (fun i e=>by subst e;omega);obtain ⟨x1,x2,x3⟩:=Ap;go_wp2_with fail
 refine (wN _ _ _ _ _ tJ (hr.mono h1.le)).mono ?_;rintro en w2 ⟨rfl,rY,iQ⟩;have tX:=hr.mono h1.le;have hb:=(ru.trans rW).trans rY;have Aa:=(lu.but rW (fun i e=>by subst e;omega)).but rY (fun i e=>by subst e;omega);clear x1 x2 x3;have DD:=hg.but hb (fun i e=>by subst e;exact hn);have oH:=tX.mono (show (zN r1).length<=r1.length by have:=y7 r1;omega);have z2:=hb.size;have z2':w.heap.size+3<=w2.heap.size:=by have:=rW.size;have:=rY.size;omega
 clear rW rY ik ru sW lu tJ;have HM:=n7 (dG d levels left h1.out);go_wp2_with fail
 cases lg:lvl (zN r1) levels.length with
 | none =>
   have HN:rdB d levels (left+1) l=none:=by rw [HM.out,lg]
   rcases lvl_no lg with a_ | ⟨v,rj,hv⟩
   ·refine (atoi_no _ _ oH DD a_).mono ?_;rintro en w3 ⟨v,t,p,rfl,rE⟩;have Iq:=n7 HN;clear HN lg a_;go_wp2_with fail
    go_ret;exact uT.no Iq.out (hb.trans (But.ofBelow rE)) ((rE.block sr (by omega)).trans iQ)
   ·refine (atoi_ok _ _ oH v rj).mono ?_;rintro en w3 ⟨rfl,rE⟩;have Iq:=n7 HN;clear HN lg;have B4:=DD.below rE;have oC:=(rE.block sr (by omega)).trans iQ;have IZ:=Aa.but (But.ofBelow (m:=fun _=>False) rE) (fun i e=>e.elim);have D3:=n7 rj;clear rj;go_wp2_with fail
    refine (itoa_of D3.out w3 B4).mono ?_;rintro en w4 ⟨rfl,rq⟩;have z3:=rE.size;have aW:=(rq.block sr (by omega)).trans oC;obtain ⟨x1,x2,x3⟩:=IZ.but (But.ofBelow (m:=fun _=>False) rq) (fun i e=>e.elim);have rS:=(hb.trans (But.ofBelow rE)).trans (But.ofBelow rq);rcases hv with hv | ⟨hv,Hg⟩ | ⟨hv,Hg,hv3⟩
    ·have hq:(PU v == zN r1)=false:=by rw [beq_eq_false_iff_ne];exact hv
     clear hv;go_wp2_with fail
     go_ret;exact uT.no Iq.out rS aW
    all_goals
     have hq:(PU v == zN r1)=true:=by rw [beq_iff_eq];exact hv
     clear hv;go_wp2_with fail
     go_ret;exact uT.no Iq.out rS aW
 | some v =>
   obtain ⟨B3,rj,Ea⟩:=lvl_lt lg;have M4:d=0:=by
    rcases Nat.eq_zero_or_pos d with h | h
    ·exact h
    ·exact absurd ⟨d-1,r1,v,levels[v],by omega,h1,lg,by simp [B3]⟩ Oo.out
   have HD:=n7 M4;clear M4 Oo;refine (atoi_ok _ _ oH (v:Int) rj).mono ?_;rintro en w3 ⟨rfl,rE⟩;have B4:=DD.below rE;have oC:=(rE.block sr (by omega)).trans iQ;have IZ:=Aa.but (But.ofBelow (m:=fun _=>False) rE) (fun i e=>e.elim);have D3:=n7 rj;clear rj;have D7:=n7 lg;clear lg;have Jw:=n7 Ea;clear Ea;go_wp2_with fail
   refine (itoa_of D3.out w3 B4).mono ?_;rintro en w4 ⟨rfl,rq⟩;have z3:=rE.size;have z4:=rq.size;have aW:=(rq.block sr (by omega)).trans oC;have hg4:=B4.below rq;have Ls:=IZ.but (But.ofBelow (m:=fun _=>False) rq) (fun i e=>e.elim);obtain ⟨x1,x2,x3⟩:=Ls;have rS:=(hb.trans (But.ofBelow rE)).trans (But.ofBelow rq);have hq:(PU (v:Int) == zN r1)=true:=by rw [beq_iff_eq];exact Jw.out
   have hlen:levels.length<=10000:=by have:=hh.2;omega
   clear hb rE rq iQ Aa IZ oC DD B4;have A7:((d:Int) == 0)=true:=by rw [beq_iff_eq];have:=HD.out;omega
   go_wp2_with fail
   go_ret;exact uT.no (by rw [HM.out,D7.out];have:=HD.out;subst this;rfl) rS aW
theorem body_any (d:Nat) (hd:d<=1000):g_ d:=by
 induction d with
 | zero=>exact body_step 0 hd (fun d' h=>by omega)
 | succ d ih=>exact body_step (d+1) hd (fun d' h=>by obtain rfl:d=d':=by omega
                                                     exact ih (by omega))
def uw (t:Ty) (l:Bs):Option Bd:=match rdB 100 t.args 200 l with
 | some (b,[],_)=>some b
 | _=>none
def RPost {α:Type} (enc:α->DV) (w:World) (o:Option α) (en:Ending) (w':World):Prop :=
 ∃ v,en=.returned v/\Below w.heap.size w w'/\(o=none->v=.pointer none)/\(∀ b,o=some b->Rep (w.heap.size<=·) w' (enc b) v)
theorem eh {t:Ty} (h:zJ t<=15):jC 100 t.args:=by
 have h1:=qx t;have hlen:∀ ts:List Ty,ts.length<=zt ts:=by
  intro ts;induction ts with
  | nil=>simp
  | cons x xs ih=>simp [zt];omega
 have sw:∀ ts:List Ty,∀ a∈ts,1+zJ a<=zt ts:=by
  intro ts
  induction ts with
  | nil=>simp
  | cons x xs ih =>
    intro a ha;rcases OX.1 ha with rfl | ha
    ·simp [zt]
    ·have:=ih a ha;simp [zt];omega
 refine ⟨fun a ha=>?_,?_⟩
 ·have:=sw _ a ha;omega
 ·have:=hlen t.args;omega
theorem eD (F:Nat->Prop) (t:Ty) (l:Bs) (kv:Value) (w:World) (hg:yF w) (hk:Rep F w (jA t) kv) (ht:zJ t<=15) (hl:Lim l.length) :
 Calls No 53 #[kv,str l] w (RPost k_ w (uw t l)):=by
 obtain ⟨bk,sk,rfl,hFk,hc,hs⟩:=zc hk;obtain ⟨a,c,e,_⟩:=zP hs;subst e;have c1:w.cell? ⟨bk,0,none⟩=some (.slice a t.args.length c):=by simp [Li,hc]
 have lk:=zZ hc;have HC:=n7 hc;clear hc;go_enter Tryz.func53,Tryz.ntmps53;go_wp2_with fail
 have ik:qA w.heap.size [.int .i64 (200:Nat)] 145 l (w.alloc (.cells #[str l,.int .i64 200] 145)):=zG _ _
 have D_:Rep (fun b=>b<w.heap.size) (w.alloc (.cells #[str l,.int .i64 200] 145)) (.sl 32 1 t.args.length (qH t.args)) (.slice a t.args.length c) :=
  (Rep.keep fun b o _ ho=>⟨zZ ho,zY ho⟩).1 _ _ hs
 refine (body_any 100 (by omega) w.heap.size 200 t.args l _ _ _ (hg.below ((rZ _ _).alloc (n9 _) _)) (hg.new (n9 _)) ik (by omega) hl (eh ht) D_ (fun b hb=>by have:=hb;omega)).mono ?_;rintro en w1 ⟨v,r',left',rfl,rW,tJ,sU,sY⟩;have hb:Below w.heap.size w w1:=((rZ w.heap.size w).alloc (n9 _) _).trans (rW.toBelow (by simp) (fun i hi e=>by omega));have aH:=tJ.cell;have hz:w.heap.size<w1.heap.size:=yX tJ;cases hq:rdB 100 t.args 200 l with
 | none =>
   obtain rfl:=sU hq;have HQ:=n7 hq;clear hq sU sY;go_wp2_with fail
   go_ret;exact ⟨_,rfl,hb,fun _=>rfl,fun b h=>by simp [uw,HQ.out] at h⟩
 | some x =>
   obtain ⟨b,rest,left⟩:=x;obtain ⟨rfl,_,hv⟩:=sY _ _ _ hq;have HQ:=n7 hq;clear hq sU sY;obtain ⟨av,ev⟩:=zd hv;subst ev;cases r' with
   | cons x xs =>
     have hne:(!(x::xs).isEmpty)=true:=rfl;go_wp2_with fail
     go_ret;exact ⟨_,rfl,hb,fun _=>rfl,fun b h=>by simp [uw,HQ.out] at h⟩
   | nil =>
     go_wp2_with fail
     go_ret;have HM:uw t l=some b:=by simp [uw,HQ.out]
     refine ⟨_,rfl,hb,fun h=>by simp [HM] at h,fun b' h=>?_⟩;rw [HM] at h;simp at h;subst h;exact (Rep.keep fun b o h ho=>⟨by have:=h;simp at this;omega,ho⟩).1 _ _ hv
def fa (s l:Bs):Option (Ty×Bd):=do
 let t<-yx s
 let b<-uw t l
 some (t,b)
def TSPost (w:World) (s l:Bs) (en:Ending) (w':World):Prop :=
 ∃ kv bv,en=.returned (.tuple #[kv,bv])/\Below w.heap.size w w'/\(fa s l=none->bv=.pointer none) /\
   (∀ t b,fa s l=some (t,b)->Rep (w.heap.size<=·) w' (jA t) kv/\Rep (w.heap.size<=·) w' (k_ b) bv)
theorem rdKind_le {s:Bs} {t:Ty} (h:yx s=some t):zJ t<=15:=by
 unfold yx at h;split at h
 ·split at h
  ·rename_i rR;simp at h;subst h;exact rR
  ·simp at h
 ·simp at h
theorem dJ (s l:Bs) (w:World) (hg:yF w) (hs:Lim s.length) (hl:Lim l.length) :
 Calls No 20 #[str s,str l] w (TSPost w s l):=by
 go_enter Tryz.func20,Tryz.ntmps20;go_wp2_with fail
 refine (readKind_any s w hs).mono ?_;rintro en w1 ⟨kv,rfl,rW,sU,sY⟩;cases hq:yx s with
 | none =>
   obtain rfl:=sU hq;have HQ:=n7 hq;clear hq sU sY;go_wp2_with fail
   go_ret2
   exact ⟨_,_,rfl,rW,fun _=>rfl,fun t b h=>by simp [fa,HQ.out] at h⟩
 | some t =>
   have hv:=sY _ hq;have ht:=rdKind_le hq;have HQ:=n7 hq;clear hq sU sY;obtain ⟨ak,_,ek,_⟩:=zc hv;subst ek;go_wp2_with fail
   refine (eD _ t l _ w1 (hg.below rW) hv ht hl).mono ?_;rintro en w2 ⟨bv,rfl,rY,iU,lD⟩;go_wp2_with fail
   go_ret2
   refine ⟨_,_,rfl,zzT rW rY,fun h=>iU ?_,fun t' b h=>?_⟩
   ·cases hr:uw t l with
    | none=>rfl
    | some b=>simp [fa,HQ.out,hr] at h
   ·cases hr:uw t l with
    | none=>simp [fa,HQ.out,hr] at h
    | some b' =>
      simp [fa,HQ.out,hr] at h;obtain ⟨rfl,rfl⟩:=h;exact ⟨Rep.below rY (fun _ h=>h) hv,(Rep.keep fun i o hi ho=>⟨by have:=rW.size;have:=hi;omega,ho⟩).1 _ _ (lD _ hr)⟩
theorem xE (ts:List Bd):∀ k:Nat,(jU ts)[k]? = ts[k]?.map k_:=by
 induction ts with
 | nil=>intro k;simp [jU]
 | cons t ts ih=>intro k;cases k <;> simp [jU,ih]
theorem oneCell_encBs {F:Nat->Prop} {w:World} (ts:List Bd):∀ us,zW F w (jU ts) us->∀ u∈us,u.oneCell'=true:=by
 induction ts with
 | nil=>intro us h;rw [jU,zC] at h;subst h;simp
 | cons t ts ih =>
   intro us h u hu;rw [jU,zQ] at h;obtain ⟨v,vs',rfl,h1,h2⟩:=h;rcases OX.1 hu with rfl | hu
   ·obtain ⟨a,rfl⟩:=zd h1;rfl
   ·exact ih _ h2 u hu
theorem xp {F:Nat->Prop} {w:World} {c:UInt8} {v:Value} (h:Rep F w (k_ (.leaf c)) v) :
 ∃ b sl,v=.pointer (some ⟨b,0,none⟩)/\F b/\w.heap[b]? = some (.cells #[str [c],.int .i64 (0:Nat),sl,.pointer none,.pointer none] 68 (0,0))/\Rep F w (.sl 33 1 0 []) sl:=by
 rw [k_,jw] at h;obtain ⟨b,cs,hv,hb,hc,hr⟩:=h;simp only [zQ,zC,zH] at hr;obtain ⟨_,_,e1,rfl,_,_,rfl,rfl,sl,_,rfl,h3,_,_,rfl,rfl,_,_,rfl,rfl,rfl⟩:=hr;have:cs=#[str [c],.int .i64 (0:Nat),sl,.pointer none,.pointer none]:=by apply SD;simpa using e1
 subst this;exact ⟨b,sl,hv,hb,hc,h3⟩
theorem uu {F:Nat->Prop} {w:World} {v:Nat} {ss:List Bd} {y n:Bd} {p:Value} (h:Rep F w (k_ (.ask v ss y n)) p) :
 ∃ b sl yv nv,p=.pointer (some ⟨b,0,none⟩)/\F b/\w.heap[b]? = some (.cells #[str [],.int .i64 v,sl,yv,nv] 68 (0,0)) /\
   Rep F w (.sl 33 1 ss.length (jU ss)) sl/\Rep F w (k_ y) yv/\Rep F w (k_ n) nv:=by
 rw [k_,jw] at h;obtain ⟨b,cs,hv,hb,hc,hr⟩:=h;simp only [zQ,zC,zH] at hr;obtain ⟨_,_,e1,rfl,_,_,rfl,rfl,sl,_,rfl,h3,yv,_,rfl,h4,nv,_,rfl,h5,rfl⟩:=hr;have:cs=#[str [],.int .i64 v,sl,yv,nv]:=by apply SD;simpa using e1
 subst this;exact ⟨b,sl,yv,nv,hv,hb,hc,h3,h4,h5⟩
theorem yK (F:Nat->Prop) (w:World) (c:UInt8) (v:Value) (h:Rep F w (k_ (.leaf c)) v) :
 Calls No 27 #[v] w fun en w'=>en=.returned (.bool false)/\w'=w:=by
 obtain ⟨b,sl,rfl,_,hc,_⟩:=xp h;have c1:w.cell? ⟨b,0,none⟩=some (.string ⟨#[c]⟩):=by simp [Li,hc]
 clear hc h;go_enter TZ,Tt;go_wp2_with fail
 go_ret;exact ⟨rfl,rfl⟩
theorem yh (F:Nat->Prop) (w:World) (v:Nat) (ss:List Bd) (y n:Bd) (p:Value) (h:Rep F w (k_ (.ask v ss y n)) p) :
 Calls No 27 #[p] w fun en w'=>en=.returned (.bool true)/\w'=w:=by
 obtain ⟨b,sl,yv,nv,rfl,_,hc,_⟩:=uu h;have c1:w.cell? ⟨b,0,none⟩=some (.string ⟨#[]⟩):=by simp [Li,hc]
 clear hc h;go_enter TZ,Tt;go_wp2_with fail
 go_ret;exact ⟨rfl,rfl⟩
mutual
def k9:Ty->DV
 | .mk ts=>.sl 42 1 ts.length (qI ts)
def qI:List Ty->List DV
 | []=>[]
 | t::ts=>k9 t::qI ts
end
def uH (L:Nat) (w:World) (o:Option (Ty×Bs)) (en:Ending) (w':World):Prop :=
 ∃ (v:Value) (k:Int) (t:Ty),en=.returned (.tuple #[.agg #[v],.int .i64 k])/\Below w.heap.size w w'/\Rep (w.heap.size<=·) w' (k9 t) v/\(o=none->k = -1/\t=.mk [])/\(∀ t' rest,o=some (t',rest)->k=(L:Int)-rest.length/\t=t')
theorem Tryz.infoS:(No.info? 42).map (fun i=>(i.zero,i.size,i.bytes))=some (some (.agg #[.slice none 0 0]),1,24):=by kernel_rfl
theorem uJ (ts:List Ty):∀ k:Nat,(qI ts)[k]? = ts[k]?.map k9:=by
 induction ts with
 | nil=>intro k;simp [qI]
 | cons t ts ih=>intro k;cases k <;> simp [qI,ih]
theorem dp (a b:List Ty):qI (a++b)=qI a++qI b:=by
 induction a with
 | nil=>rfl
 | cons t ts ih=>simp [qI,ih]
theorem jQ (t:Ty):k9 t=.sl 42 1 t.args.length (qI t.args):=by cases t;rw [k9];rfl
theorem kP {F:Nat->Prop} {w:World} {t:Ty} {v:Value} (h:Rep F w (k9 t) v):∃ a c,v=.slice a t.args.length c:=by
 rw [jQ] at h;obtain ⟨a,c,e,_⟩:=zP h;exact ⟨a,c,e⟩
theorem uq {F:Nat->Prop} {w:World} (ts:List Ty):∀ us,zW F w (qI ts) us->∀ u∈us,u.oneCell'=true:=by
 induction ts with
 | nil=>intro us h;rw [qI,zC] at h;subst h;simp
 | cons t ts ih =>
   intro us h u hu;rw [qI,zQ] at h;obtain ⟨v,vs',rfl,h1,h2⟩:=h;rcases OX.1 hu with rfl | hu
   ·obtain ⟨a,c,rfl⟩:=kP h1;rfl
   ·exact ih _ h2 u hu
theorem e9 (F:Nat->Prop) (w:World):Rep F w (k9 (.mk [])) (.slice none 0 0):=by
 rw [jQ];exact zh.2 ⟨rfl,none,0,rfl,n9 _,fun _=>rfl,.inl rfl⟩
theorem uH.no {L:Nat} {w w':World} {o:Option (Ty×Bs)} (ho:o=none) (hb:Below w.heap.size w w') :
 uH L w o (.returned (.tuple #[.agg #[.slice none 0 0],.int .i64 (-1)])) w' :=
 ⟨_,_,.mk [],rfl,hb,e9 _ _,fun _=>⟨rfl,rfl⟩,fun _ _ h=>by rw [ho] at h;simp at h⟩
theorem uH.yes {L:Nat} {w w':World} {o:Option (Ty×Bs)} {t:Ty} {rest:Bs} {v:Value} {k:Int} (ho:o=some (t,rest)) (hk:k=(L:Int)-rest.length) (hb:Below w.heap.size w w') (hv:Rep (w.heap.size<=·) w' (k9 t) v) :
 uH L w o (.returned (.tuple #[.agg #[v],.int .i64 k])) w' :=
 ⟨_,_,t,rfl,hb,hv,fun h=>by rw [ho] at h;simp at h,fun _ _ h=>by rw [ho] at h;simp at h;obtain ⟨rfl,rfl⟩:=h;exact ⟨hk,rfl⟩⟩
def nh (l:Bs) (d:Nat):Prop:=∀ (i:Nat) (w:World),i<=l.length->d<=21 ->
    Calls No 68 #[str l,.int .i64 i,.int .i64 d] w (uH l.length w (rdS (21-d) (l.drop i)))
theorem fq (l:Bs) (hl:Lim l.length) (d:Nat) (ih:d<=20->nh l (d+1)):nh l d:=by
 intro i w hi hd;have i5:=hl.le;have IH:=n7 ih;clear ih;by_cases GH:d<=20;rotate_left
 ·have h0:Hid (21-d=0):=by show 21-d=0;omega
  go_enter QN,QE;go_wp2_with fail
  refine bodyPost_ret (v:=.tuple #[.agg #[.slice none 0 0],.int .i64 (-1)]) (by simp [results,Px,go_sem]) rfl ?_;exact uH.no (by rw [h0.out];rfl) ((rZ _ _).alloc (n9 _) _)
 obtain ⟨n,hn⟩:∃ n,21-d=n+1:=⟨20-d,by omega⟩;have IH':=n7 (IH.out GH);clear IH;have HN:=n7 hn;have Iq:Hid (21-(d+1)=n):=by show 21-(d+1)=n;omega
 clear hn;by_cases rH:i<l.length;rotate_left
 ·go_enter QN,QE;go_wp2_with fail
  refine bodyPost_ret (v:=.tuple #[.agg #[.slice none 0 0],.int .i64 (-1)]) (by simp [results,Px,go_sem]) rfl ?_;exact uH.no (by rw [HN.out,rdS_no (b6 (by omega)),b6 (by omega)];rfl) ((rZ _ _).alloc (n9 _) _)
 by_cases hb:l[i]=98
 ·have f1:=x7 rH (n:=98) (by decide) hb;have hc:Cut [98] (l.drop i) (l.drop (i+1)):=by unfold Cut;rw [xZ rH,if_pos hb]
  clear hb;go_enter QN,QE;go_wp2_with fail
  refine bodyPost_ret (v:=.tuple #[.agg #[.slice none 0 0],.int .i64 ((i:Int)+1)]) (by simp [results,Px,go_sem]) rfl ?_;exact uH.yes (t:=.mk []) (by rw [HN.out,rdS_b hc]) (by simp;omega) ((rZ _ _).alloc (n9 _) _) (e9 _ _)
 have f1:=uF rH (n:=98) (by decide) hb;have hc:g9 [98] (l.drop i):=by unfold g9;rw [xZ rH,if_neg hb]
 have HM:=n7 (rdS_no (n:=n) hc);clear hb hc;by_cases h3:i+3<=l.length;rotate_left
 ·have h3':(l.length:Int)<(i:Int)+3:=by omega
  have iZ:Hid (cut [40,62,32] (l.drop i)=none):=by
   show cut [40,62,32] (l.drop i)=none;cases hq:cut [40,62,32] (l.drop i) with
   | none=>rfl
   | some r=>have:=(cut_drop hq).2;simp at this;omega
  go_enter QN,QE;go_wp2_with fail
  refine bodyPost_ret (v:=.tuple #[.agg #[.slice none 0 0],.int .i64 (-1)]) (by simp [results,Px,go_sem]) rfl ?_;exact uH.no (by rw [HN.out,HM.out,iZ.out];rfl) ((rZ _ _).alloc (n9 _) _)
 have h3':(i:Int)+3<=(l.length:Int):=by omega
 have hx:(l.take (i+3)).drop i=(l.drop i).take 3:=by rw [List.drop_take];congr 1;omega
 rcases kM [40,62,32] (l.drop i) with h4 | ⟨r1,h4⟩
 ·have f2:(((⟨l.toArray⟩:ByteArray).extract i (i+3)).toList == [40,62,32])=false:=by
   rw [ext_list,hx,beq_eq_false_iff_ne];intro e;have h5:=h4.out;have hp:[40,62,32].isPrefixOf (l.drop i)=true:=by rw [PC,<- e];exact List.take_prefix _ _
   unfold cut at h5;rw [if_pos hp] at h5;simp at h5
  clear hx;go_enter QN,QE;go_wp2_with fail
  refine bodyPost_ret (v:=.tuple #[.agg #[.slice none 0 0],.int .i64 (-1)]) (by simp [results,Px,go_sem]) rfl ?_;exact uH.no (by rw [HN.out,HM.out,h4.out];rfl) ((rZ _ _).alloc (n9 _) _)
 have f2:(((⟨l.toArray⟩:ByteArray).extract i (i+3)).toList == [40,62,32])=true:=by
  rw [ext_list,hx,beq_iff_eq];have h5:=h4.out;unfold cut at h5;split at h5
  ·rename_i hp;exact (List.prefix_iff_eq_take.1 (PC.1 hp)).symm
  ·simp at h5
 have tX:=(cut_drop h4.out).1;have Gu:r1=l.drop (i+3):=tX;subst Gu;clear hx tX;go_enter QN,QE;go_wp2_with fail
 rw [show (i:Int)+3=((i+3:Nat):Int) from by omega,show (d:Int)+1=((d+1:Nat):Int) from by omega];refine (IH'.out (i+3) _ h3 (by omega)).mono ?_;rintro en w1 ⟨v1,k1,t1,rfl,rW,lE,sU,sY⟩;rw [Iq.out] at sU sY;have aB:Below w.heap.size w w1:=((rZ w.heap.size w).alloc (n9 _) _).trans (rW.mono (by simp));have z1:=rW.size;have Am:w.heap.size<w1.heap.size:=by simp at z1;omega
 have aJ:w1.cell? ⟨w.heap.size,0,none⟩=some (.slice none 0 0):=by rw [rW.cell (by simp)];simp
 have oO:w1.frozen? ⟨w.heap.size,0,none⟩=false:=by rw [rW.frozen (by simp)];simp
 obtain ⟨a1,c1,e1⟩:=kP lE;subst e1;cases hq:rdS n (l.drop (i+3)) with
 | none =>
   obtain ⟨rfl,rfl⟩:=sU hq;have HQ:=n7 hq;clear hq sU sY;go_wp2_with fail
   refine bodyPost_ret (v:=.tuple #[.agg #[.slice none 0 0],.int .i64 (-1)]) (by simp [results,Px,go_sem,Am,vD aJ]) rfl ?_;exact uH.no (by rw [HN.out,HM.out,h4.out];simp [HQ.out]) (by repeat (first | exact aB | refine Below.alloc ?_ (by simp;omega) _ | refine Below.setCell ?_ (by simp) _ | refine Below.drew ?_))
 | some x =>
   obtain ⟨ta,r2⟩:=x;obtain ⟨rfl,rfl⟩:=sY _ _ hq;have AF:=xV (mj hq);have tx:=(rdS_le hq).1;have HQ:=n7 hq;clear hq sU sY;obtain ⟨e,he⟩:=zzM (l.length-r2.length);have Av:e<=l.length:=by omega
   have hr2l:r2.length<=l.length:=by simp at tx;omega
   have hk:(l.length:Int)-(r2.length:Int)=(e:Int):=by omega
   rw [<- he] at AF;rw [hk];have HSF:=n7 AF;clear hk AF tx;by_cases M0:e<l.length;rotate_left
   ·have DI:Hid (cut [32] r2=none):=by show cut [32] r2=none;rw [HSF.out];exact b6 (by omega)
    have HE:=n7 he;clear he;go_wp2_with fail
    refine bodyPost_ret (v:=.tuple #[.agg #[.slice none 0 0],.int .i64 (-1)]) (by simp [results,Px,go_sem,Am,vD aJ]) rfl ?_;exact uH.no (by rw [HN.out,HM.out,h4.out];simp [HQ.out,DI.out]) (by repeat (first | exact aB | refine Below.alloc ?_ (by simp;omega) _ | refine Below.setCell ?_ (by simp) _ | refine Below.drew ?_))
   have HE:=n7 he;clear he;by_cases rx:l[e]=32;rotate_left
   ·have f5:=vE M0 (n:=32) (by decide) rx;have DI:Hid (cut [32] r2=none):=by show cut [32] r2=none;rw [HSF.out,xZ M0,if_neg rx]
    clear rx;go_wp2_with fail
    refine bodyPost_ret (v:=.tuple #[.agg #[.slice none 0 0],.int .i64 (-1)]) (by simp [results,Px,go_sem,Am,vD aJ]) rfl ?_;exact uH.no (by rw [HN.out,HM.out,h4.out];simp [HQ.out,DI.out]) (by repeat (first | exact aB | refine Below.alloc ?_ (by simp;omega) _ | refine Below.setCell ?_ (by simp) _ | refine Below.drew ?_))
   have f5:=vd M0 (n:=32) (by decide) rx;have g1:decide ((e:Int)<0)=false:=by rw [decide_eq_false_iff_not];omega
   have g2:decide (l.length<=e)=false:=by rw [decide_eq_false_iff_not];omega
   have DI:Hid (cut [32] r2=some (l.drop (e+1))):=by show cut [32] r2=_;rw [HSF.out,xZ M0,if_pos rx]
   clear rx;go_wp2_with fail
   rw [show (e:Int)+1=((e+1:Nat):Int) from by omega,show (d:Int)+1=((d+1:Nat):Int) from by omega];refine (IH'.out (e+1) _ M0 (by omega)).mono ?_;rintro en w2 ⟨v2,k2,t2,rfl,rY,Hg,iU,lD⟩;rw [Iq.out] at iU lD;obtain ⟨a2,c2,e2⟩:=kP Hg;subst e2;have z2:=rY.size;rw [zK] at z2;have DL:Below w.heap.size w w2:=(aB.alloc aB.size _).trans (rY.mono (by rw [zK];omega));have tg:w.heap.size<w2.heap.size:=by omega
   have lq:w1.heap.size<w2.heap.size:=by omega
   have lJ:w2.cell? ⟨w.heap.size,0,none⟩=some (.slice none 0 0):=by rw [rY.cell (by simp;omega)];exact zV aJ
   have Fg:w2.frozen? ⟨w.heap.size,0,none⟩=false:=by rw [rY.frozen (by simp;omega)];rw [PB (w:=w1) (Below.heap_alloc _ _ _ Am)];exact oO
   have hcellA:w2.cell? ⟨w1.heap.size,0,none⟩=some (.slice a1 t1.args.length c1):=by rw [rY.cell (by simp)];simp
   have DW:Rep (w1.heap.size<=·) w2 (k9 t1) (.slice a1 t1.args.length c1)\/True:=.inr trivial;clear DW aJ oO;cases hq:rdS n (l.drop (e+1)) with
   | none =>
     obtain ⟨rfl,rfl⟩:=iU hq;have Gd:=n7 hq;clear hq iU lD;go_wp2_with fail
     refine bodyPost_ret (v:=.tuple #[.agg #[.slice none 0 0],.int .i64 (-1)]) (by simp [results,Px,go_sem,tg,vD lJ]) rfl ?_;exact uH.no (by rw [HN.out,HM.out,h4.out];simp [HQ.out,DI.out,Gd.out]) (by repeat (first | exact DL | refine Below.alloc ?_ (by simp;omega) _ | refine Below.setCell ?_ (by simp) _ | refine Below.drew ?_))
   | some x =>
     obtain ⟨tb,r4⟩:=x;obtain ⟨rfl,rfl⟩:=lD _ _ hq;have AF:=xV (mj hq);have D0:=rdS_le hq;have Gd:=n7 hq;clear hq iU lD;obtain ⟨e2,he⟩:=zzM (l.length-r4.length);have Av:e2<=l.length:=by omega
     have hr2l:r4.length<=l.length:=by simp at D0;omega
     have hk:(l.length:Int)-(r4.length:Int)=(e2:Int):=by omega
     have Hh:t2.args.length<=16777216:=by simp at D0;omega
     rw [<- he] at AF;rw [hk];have J7:=n7 AF;clear hk AF D0;have Em:=n7 he;clear he;by_cases GG:e2<l.length;rotate_left
     ·have DH:Hid (cut [41] r4=none):=by show cut [41] r4=none;rw [J7.out];exact b6 (by omega)
      go_wp2_with fail
      refine bodyPost_ret (v:=.tuple #[.agg #[.slice none 0 0],.int .i64 (-1)]) (by simp [results,Px,go_sem,tg,vD lJ]) rfl ?_;exact uH.no (by rw [HN.out,HM.out,h4.out];simp [HQ.out,DI.out,Gd.out,DH.out]) (by repeat (first | exact DL | refine Below.alloc ?_ (by simp;omega) _ | refine Below.setCell ?_ (by simp) _ | refine Below.drew ?_))
     by_cases rC:l[e2]=41;rotate_left
     ·have f6:=vE GG (n:=41) (by decide) rC;have DH:Hid (cut [41] r4=none):=by show cut [41] r4=none;rw [J7.out,xZ GG,if_neg rC]
      clear rC;go_wp2_with fail
      refine bodyPost_ret (v:=.tuple #[.agg #[.slice none 0 0],.int .i64 (-1)]) (by simp [results,Px,go_sem,tg,vD lJ]) rfl ?_;exact uH.no (by rw [HN.out,HM.out,h4.out];simp [HQ.out,DI.out,Gd.out,DH.out]) (by repeat (first | exact DL | refine Below.alloc ?_ (by simp;omega) _ | refine Below.setCell ?_ (by simp) _ | refine Below.drew ?_))
     have f6:=vd GG (n:=41) (by decide) rC;have g3:decide ((e2:Int)<0)=false:=by rw [decide_eq_false_iff_not];omega
     have g4:decide (l.length<=e2)=false:=by rw [decide_eq_false_iff_not];omega
     have DH:Hid (cut [41] r4=some (l.drop (e2+1))):=by show cut [41] r4=_;rw [J7.out,xZ GG,if_pos rC]
     clear rC;rw [jQ] at Hg;obtain ⟨xs,Ao,sE⟩:=zu.ofRep Hg (uq _);go_wp2_with (at_builtin;refine zM rfl _ _ 40 rfl 42 (.agg #[.slice none 0 0]) 1 24 QU Tryz.infoS rfl (by decide) _ 1 [.slice a1 t1.args.length c1] rfl ?c1 _ t2.args.length xs rfl ?c2 ?c3 ?c4 ?_)
     case c1=>exact Own.litAt #[.slice a1 t1.args.length c1] 1 _ (by simp) (by decide) rfl
     case c2=>exact sE.keep fun _ _ h=>zV (zV h)
     case c3=>unfold maxLen;omega
     case c4=>omega
     intro a' c' w3 ho rE B4;have rF:Below w2.heap.size w2 ((w2.alloc (.cells #[.slice a2 t2.args.length c2] 42)).alloc (.cells #[.slice a1 t1.args.length c1] 42)):=((rZ _ _).alloc (n9 _) _).alloc (by simp) _;have lm:Below w2.heap.size w2 w3:=rF.trans (rE.toBelow (by simp;omega) (fun i hi e=>by simp [OG] at e;omega));have KG:Below w.heap.size w w3:=DL.trans (lm.mono (by omega));have JD:w3.cell? ⟨w.heap.size,0,none⟩=some (.slice none 0 0):=by rw [lm.cell tg];exact lJ
     have hfree3:w3.frozen? ⟨w.heap.size,0,none⟩=false:=by rw [lm.frozen tg];exact Fg
     have hv1W:Rep (w.heap.size<=·) w3 (k9 t1) (.slice a1 t1.args.length c1):=by
      refine (Rep.keep fun b o h ho=>⟨by have:=xt h;omega,?_⟩).1 _ _ lE;rw [lm.block b (by have:=zZ ho;omega),rY.block b (by have:=zZ ho;simp;omega)];exact zY ho
     have hxsW:zW (w.heap.size<=·) w3 (qI t2.args) xs :=
      (Rep.keep fun b o h ho=>⟨by have:=xt h;omega,by rw [lm.block b (zZ ho)];exact ho⟩).2 _ _ Ao
     have r9:∀ g,(Ox a' (1+t2.args.length) c').ownBlock=some g->w.heap.size<=g:=by
      intro g h;rcases B4 g h with h | h
      ·simp [OG] at h;omega
      ·have:=lm.size;omega
     have HG:=n7 r9;have HG3:=n7 B4;clear B4 r9;go_wp2_with fail
     refine bodyPost_ret (v:=.tuple #[.agg #[.slice a' (1+t2.args.length) c'],.int .i64 ((e2:Int)+1)]) (by simp [results,Px,go_sem,vD JD]) rfl ?_;refine uH.yes (t:=z9 t1 t2) (rest:=l.drop (e2+1)) (by rw [HN.out,HM.out,h4.out];simp [HQ.out,DI.out,Gd.out,DH.out]) (by simp;omega) (KG.setCell (n9 _) _) ?_;refine (Rep.keep (w:=w3) (F:=fun b=>w.heap.size<=b/\b≠w.heap.size) fun b o h ho=>⟨h.1,?_⟩).1 _ _ ?_
     ·rw [rK _ _ _ _ (by simpa using h.2)];exact ho
     rw [jQ,show (z9 t1 t2).args.length=1+t2.args.length from by simp [z9,Ty.args,Nat.add_comm]];refine ho.rep (fun g h=>⟨HG.out g h,?_⟩) ?_
     ·rcases HG3.out g h with h | h
      ·simp [OG] at h;omega
      ·have:=lm.size;omega
     ·show zW _ _ (k9 t1::qI t2.args) _;refine zQ.2 ⟨_,_,rfl,?_,?_⟩
      ·refine (Rep.keep fun b o h ho=>⟨⟨by have:=xt h;omega,by have:=xt h;omega⟩,?_⟩).1 _ _ lE;rw [lm.block b (by have:=zZ ho;omega),rY.block b (by have:=zZ ho;simp;omega)];exact zY ho
      ·exact (Rep.keep fun b o h ho=>⟨⟨by have:=xt h;omega,by have:=xt h;omega⟩,by rw [lm.block b (zZ ho)];exact ho⟩).2 _ _ Ao
theorem l1Read_any (l:Bs) (hl:Lim l.length) (n:Nat):∀ d,21-d=n->nh l d:=by
 induction n with
 | zero=>exact fun d h=>fq l hl d (fun h'=>by omega)
 | succ n ih=>exact fun d h=>fq l hl d (fun h'=>ih (d+1) (by omega))
def fP (t:Ty):Prop:=∀ (F:Nat->Prop) (w:World) (v:Value),Rep F w (k9 t) v ->
 Calls No 67 #[.agg #[v]] w fun en w'=>en=.returned (.int .i64 (zJ t))/\Below w.heap.size w w'
theorem qN (ts:List Ty):ts.length<=zt ts:=by
 induction ts with
 | nil=>simp
 | cons t ts ih=>simp [zt];omega
theorem l1Size_step (t:Ty) (hl:Lim (zJ t)) (ih:∀ t',zJ t'<zJ t->fP t'):fP t:=by
 intro F w v hv;obtain ⟨a,cap,e⟩:=kP hv;subst e;have hv':=hv;rw [jQ] at hv';obtain ⟨_,_,e,_,hlen,rX⟩:=zP hv';simp only [Value.slice.injEq] at e;obtain ⟨rfl,_,rfl⟩:=e;have IH:=n7 ih;clear ih;have i5:=hl.le;have E1:=n7 (qx t);have hlb:t.args.length<=16777216:=by have:=qN t.args;have:=E1.out;omega
 have AT:=n7 rX;clear rX hlen hv';go_enter Tryz.func67,Tryz.ntmps67;go_wp2_with fail
 go_loopw [3,4] (fun n i wr=>∃ k:Nat,k<=t.args.length/\i=.int .i64 k/\n=.int .i64 ((1+zt (t.args.take k):Nat):Int)/\Below w.heap.size w wr/\wr.cell? ⟨w.heap.size,0,none⟩=some (.slice a t.args.length cap)) (fun _ i _=>t.args.length-(intOf i).toNat)
 case atStart=>exact ⟨0,OS _,rfl,by simp [zt],(rZ _ _).alloc (n9 _) _,by simp⟩
 case round =>
  rename_i wr;obtain ⟨k,hk,rfl,rfl,hb,hc⟩:=hrel;by_cases rH:k<t.args.length
  ·obtain ⟨b',o,u,d,rfl,_,rS,hd,hu,hr⟩:=AT.out k rH;rw [uJ,OA] at hd;obtain ⟨t',aN,rfl⟩:=hd;obtain ⟨ua,uc,rfl⟩:=kP hr;have hu':wr.cell? ⟨b',o+k,none⟩=some (.slice ua t'.args.length uc):=by rw [hb.cell rS];exact hu
   have iF:=Rep.below (F':=F) hb (fun _ h=>h) hr;have hs:=xy aN;have sw:=ud t.args (k+1);have iO:=E1.out;have IH':=n7 (IH.out t' (by omega));have HS:=n7 hs;have b1:1+zt (t.args.take k)+(1+zJ t')<=16777216:=by omega
   have hz:=n_ wr _ hc;clear hs aN iO hu hr;go_wp2_with fail
   refine (IH'.out _ _ _ iF).mono ?_;rintro en w2 ⟨rfl,rY⟩;have rE:=zzT hb rY;have iZ:w2.cell? ⟨w.heap.size,0,none⟩=some (.slice (some ⟨b',o,none⟩) t.args.length cap):=by rw [rY.cell hz];exact hc
   go_wp2_with fail
   go_roundw
   case rel=>exact ⟨k+1,by omega,by go_num,by rw [HS.out] <;> go_num,rE,iZ⟩
   case measure=>simp [intOf];omega
  ·obtain rfl:k=t.args.length:=by omega
   go_wp2_with fail
   go_ret;exact ⟨xj (by rw [E1.out,OT]),hb⟩
theorem nZ (n:Nat):∀ t,zJ t<=n->Lim n->fP t:=by
 induction n with
 | zero=>intro t h _;have:=ke t;omega
 | succ n ih=>exact fun t h hn=>l1Size_step t (hn.mono h) (fun t' h'=>ih t' (by omega) (hn.mono (by omega)))
def zR (l:Bs):Ty×Bool :=
 if 100<l.length then (.mk [],false) else
 match rdS 21 l with
 | none=>(.mk [],false)
 | some (t,rest)=>(t,rest.isEmpty && decide (zJ t<=15))
def TypePost (l:Bs) (w:World) (en:Ending) (w':World):Prop :=
 ∃ v,en=.returned (.tuple #[.agg #[v],.bool (zR l).2])/\Below w.heap.size w w'/\Rep (w.heap.size<=·) w' (k9 (zR l).1) v
theorem x5 (l:Bs) (hl:Lim l.length) (w:World):Calls No 36 #[str l] w (TypePost l w):=by
 have i5:=hl.le;by_cases li:100<l.length
 ·have NT:(100:Int)<(l.length:Int):=by omega
  have HM:zR l=(.mk [],false):=by unfold zR;rw [if_pos li]
  have HM:=n7 HM;go_enter T0,Tu;go_wp2_with fail
  refine bodyPost_ret (v:=.tuple #[.agg #[.slice none 0 0],.bool false]) (by simp [results,Rf,go_sem]) rfl ?_;refine ⟨_,by rw [HM.out],(rZ _ _).alloc (n9 _) _,?_⟩;rw [HM.out];exact e9 _ _
 have NT:¬ (100:Int)<(l.length:Int):=by omega
 have HM:zR l=(match rdS 21 l with
  | none=>(.mk [],false)
  | some (t,rest)=>(t,rest.isEmpty && decide (zJ t<=15))):=by unfold zR;rw [if_neg li]
 have HM:=n7 HM;go_enter T0,Tu;go_wp2_with fail
 refine (l1Read_any l hl 21 0 rfl 0 _ (OS _) (by omega)).mono ?_;rintro en w1 ⟨v1,k1,t1,rfl,rW,lE,sU,sY⟩;rw [show (21-0:Nat)=21 from rfl,S7] at sU sY;obtain ⟨a1,c1,e1⟩:=kP lE;subst e1;have z1:=rW.size;rw [zK] at z1;have Am:w.heap.size<w1.heap.size:=by omega
 have aB:Below w.heap.size w w1:=((rZ w.heap.size w).alloc (n9 _) _).trans (rW.mono (by simp));have aJ:w1.cell? ⟨w.heap.size,0,none⟩=some (.slice none 0 0):=by rw [rW.cell (by simp)];simp
 have oO:w1.frozen? ⟨w.heap.size,0,none⟩=false:=by rw [rW.frozen (by simp)];simp
 cases hq:rdS 21 l with
 | none =>
   obtain ⟨rfl,rfl⟩:=sU hq;have HQ:=n7 hq;clear hq sU sY;have g1:((-1:Int) == (l.length:Int))=false:=by rw [beq_eq_false_iff_ne];omega
   go_wp2_with fail
   go_region
   go_wp2_with fail
   refine bodyPost_ret (v:=.tuple #[.agg #[.slice a1 0 c1],.bool false]) (by simp [results,Rf,go_sem,Am,vD aJ,Ty.args]) rfl ?_;refine ⟨_,by rw [HM.out,HQ.out],(by repeat (first | exact aB | refine Below.alloc ?_ (by simp;omega) _ | refine Below.setCell ?_ (by simp) _ | refine Below.drew ?_)),?_⟩;rw [HM.out,HQ.out];rw [jQ];refine zh.2 ⟨rfl,a1,c1,rfl,OS _,?_,.inl rfl⟩;obtain ⟨_,_,_,e,_,h0,_⟩:=zh.1 (by rw [jQ] at lE;exact lE);simp only [Value.slice.injEq] at e;obtain ⟨rfl,_,rfl⟩:=e;exact h0
 | some x =>
   obtain ⟨t,rest⟩:=x;obtain ⟨rfl,rfl⟩:=sY _ _ hq;have rX:=rdS_atoms hq;have HQ:=n7 hq;clear hq sU sY;obtain ⟨e,he⟩:=zzM (l.length-rest.length);rw [show (l.length:Int)-(rest.length:Int)=(e:Int) from by omega];have HE:=n7 he;clear he;cases rest with
   | cons x xs =>
     have g1:((e:Int) == (l.length:Int))=false:=by rw [beq_eq_false_iff_ne];have:=HE.out;simp at this rX;omega
     go_wp2_with fail
     go_region
     go_wp2_with fail
     refine bodyPost_ret (v:=.tuple #[.agg #[.slice a1 t1.args.length c1],.bool false]) (by simp [results,Rf,go_sem,Am,vD aJ]) rfl ?_;refine ⟨_,by rw [HM.out,HQ.out];rfl,(by repeat (first | exact aB | refine Below.alloc ?_ (by simp;omega) _ | refine Below.setCell ?_ (by simp) _ | refine Below.drew ?_)),?_⟩;rw [HM.out,HQ.out];refine (Rep.keep fun b o h ho=>⟨by have:=xt h;omega,?_⟩).1 _ _ lE;have hb:b≠w.heap.size:=by have:=xt h;omega
     exact zY (by rw [rK _ _ _ _ (by simpa using hb)];exact ho)
   | nil =>
     obtain rfl:e=l.length:=by have:=HE.out;simpa using this
     have g1:((l.length:Int) == (l.length:Int))=true:=by simp
     have hlA:Lim (zJ t1):=hl.mono (by simp at rX;omega);have hrA:Rep (w.heap.size < ·) (w1.alloc (.cells #[.slice a1 t1.args.length c1] 42)) (k9 t1) (.slice a1 t1.args.length c1):=(Rep.keep fun b o h ho=>⟨by have:=xt h;omega,zY ho⟩).1 _ _ lE;have GI:(w1.alloc (.cells #[.slice a1 t1.args.length c1] 42)).cell? ⟨w1.heap.size,0,none⟩=some (.slice a1 t1.args.length c1):=by simp
     go_wp2_with fail
     go_region_held3 (fun w'=>w'.cell? ⟨w1.heap.size,0,none⟩=some (.slice a1 t1.args.length c1))
      (first
       | exact (rY.cell (by simp)).trans GI
       | (rw [QD (w:=w2) (rK _ _ _ _ (by simp;omega))];exact (rY.cell (by simp)).trans GI)
       | go_keep)
      (first
       | (go_at_call 67;refine (nZ (zJ t1) t1 (n9 _) hlA (w.heap.size < ·) _ _ (by exact hrA.drew)).mono ?_;rintro en w2 ⟨rfl,rY⟩;have z2:=rY.size;have tg:w.heap.size<w2.heap.size:=(by simp at z2;omega);have lJ:w2.cell? ⟨w.heap.size,0,none⟩=some (.slice none 0 0):=(rY.cell (by simp;omega)).trans (zV aJ);have Fg:w2.frozen? ⟨w.heap.size,0,none⟩=false:=(rY.frozen (by simp;omega)).trans ((PB (w:=w1) (Below.heap_alloc _ _ _ Am)).trans oO)))
     go_wp2_with fail
     refine bodyPost_ret (v:=.tuple #[.agg #[.slice a1 t1.args.length c1],.bool (decide ((zJ t1:Int)<=15))]) (by simp [results,Rf,go_sem,vD lJ]) rfl ?_;have DL:Below w.heap.size w w2:=((aB.alloc aB.size _).drew).trans (rY.mono (by simp;omega));refine ⟨.slice a1 t1.args.length c1,?_,DL.setCell (n9 _) _,?_⟩
     ·have e15:decide ((zJ t1:Int)<=15)=decide (zJ t1<=15):=by rw [decide_eq_decide];omega
      rw [HM.out,HQ.out,e15];rfl
     ·rw [HM.out,HQ.out];refine (Rep.keep fun b o h ho=>⟨by have:=xt h;omega,?_⟩).1 _ _ lE;have hb:b≠w.heap.size:=by have:=xt h;omega
      rw [rK _ _ _ _ (by simpa using hb),rY.block b (by have:=zZ ho;simp;omega)];exact zY ho
theorem mu (d:Nat):∀ {l:Bs} {t:Ty} {r:Bs} (e:Nat),d<=e->rdK d l=some (t,r)->rdK e l=some (t,r):=by
 induction d with
 | zero =>
   intro l t r e he h;rcases kM [98] l with hc | ⟨r',hc⟩
   ·rw [xW hc] at h;simp at h
   ·rw [xO hc] at h ⊢;exact h
 | succ d ih =>
   intro l t r e he h;obtain ⟨e,rfl⟩:∃ e',e=e'+1:=⟨e-1,by omega⟩;rcases kM [98] l with hc | ⟨r',hc⟩
   ·rw [ju hc] at h ⊢;simp only [Ow,N0,Prod.exists] at h ⊢;obtain ⟨r1,h1,a,r2,h2,r3,h3,b,r4,h4,r5,h5,h6⟩:=h;exact ⟨r1,h1,a,r2,ih e (by omega) h2,r3,h3,b,r4,ih e (by omega) h4,r5,h5,h6⟩
   ·rw [xO hc] at h ⊢;exact h
theorem da {p l r:Bs} (h:cut p l=some r):l.length=p.length+r.length:=by
 unfold cut at h;split at h
 ·rename_i hp;have:=List.IsPrefix.length_le (PC.1 hp);simp at h;subst h;simp;omega
 ·simp at h
theorem xw (a b:Ty):zJ (z9 a b)=1+zJ a+zJ b:=by cases b;simp [z9,zJ,zt,Ty.args];omega
theorem rdK_shallow (e:Nat):∀ {l:Bs} {t:Ty} {r:Bs} (d:Nat),zJ t<=2*d+1->rdK e l=some (t,r)->rdK d l=some (t,r):=by
 induction e with
 | zero =>
   intro l t r d hd h;exact mu 0 d (OS _) h
 | succ e ih =>
   intro l t r d hd h;rcases kM [98] l with hc | ⟨r',hc⟩
   ·rw [ju hc] at h;simp only [Ow,N0,Prod.exists] at h;obtain ⟨r1,h1,a,r2,h2,r3,h3,b,r4,h4,r5,h5,h6⟩:=h;simp at h6;obtain ⟨rfl,rfl⟩:=h6;have rX:=xw a b;have pa:=ke a;have pb:=ke b;obtain ⟨d,rfl⟩:∃ d',d=d'+1:=⟨d-1,by omega⟩;rw [ju hc];simp only [Ow,N0,Prod.exists];exact ⟨r1,h1,a,r2,ih d (by omega) h2,r3,h3,b,r4,ih d (by omega) h4,r5,h5,rfl⟩
   ·rw [xO hc] at h ⊢;exact h
theorem rdK_len (e:Nat):∀ {l:Bs} {t:Ty} {r:Bs},rdK e l=some (t,r)->l.length+5<=r.length+6*zJ t:=by
 induction e with
 | zero =>
   intro l t r h;rcases kM [98] l with hc | ⟨r',hc⟩
   ·rw [xW hc] at h;simp at h
   ·rw [xO hc] at h;simp at h;obtain ⟨rfl,rfl⟩:=h;have:=da hc;simp [zJ,zt] at *;omega
 | succ e ih =>
   intro l t r h;rcases kM [98] l with hc | ⟨r',hc⟩
   ·rw [ju hc] at h;simp only [Ow,N0,Prod.exists] at h;obtain ⟨r1,h1,a,r2,h2,r3,h3,b,r4,h4,r5,h5,h6⟩:=h;simp at h6;obtain ⟨rfl,rfl⟩:=h6;have rX:=xw a b;have k1:=da h1;have k2:=ih h2;have k3:=da h3;have k4:=ih h4;have k5:=da h5;simp at k1 k3 k5;omega
   ·rw [xO hc] at h;simp at h;obtain ⟨rfl,rfl⟩:=h;have:=da hc;simp [zJ,zt] at *;omega
theorem specType_eq (l:Bs):yx l=if (zR l).2 then some (zR l).1 else none:=by
 unfold yx zR;by_cases li:100<l.length
 ·rw [if_pos li];simp only [Rz,if_false];split
  ·rename_i t hq;have:=rdK_len 15 hq;rw [if_neg (by simp at this;omega)]
  ·rfl
 ·rw [if_neg li];have e21:rdS 21 l=rdK 20 l:=rfl;rw [e21];cases hq:rdK 20 l with
  | none =>
    simp only [Rz,if_false];split
    ·rename_i t AZ;have:=mu 15 20 (by omega) AZ;rw [hq] at this;simp at this
    ·rfl
  | some x =>
    obtain ⟨t,rest⟩:=x;simp only;by_cases ht:zJ t<=15
    ·have AZ:=rdK_shallow 20 15 (by omega) hq;rw [AZ];cases rest with
     | nil=>simp [ht]
     | cons x xs=>simp
    ·cases AZ:rdK 15 l with
     | none=>simp [ht]
     | some y =>
       obtain ⟨t2,r2⟩:=y;have:=mu 15 20 (by omega) AZ;rw [hq] at this;simp at this;obtain ⟨rfl,rfl⟩:=this;cases rest <;> simp [ht]
theorem l3Hand_any (F:Nat->Prop) (hand:List Ty) (t:Ty) (hv tv:Value) (w:World) (hh:Rep F w (.sl 42 1 hand.length (qI hand)) hv) (ht:Rep F w (k9 t) tv) (hl:Lim (hand.length+t.args.length)) :
 Calls No 94 #[hv,.agg #[tv]] w fun en w' =>
  ∃ a c,en=.returned (.slice a (hand++t.args).length c)/\Below w.heap.size w w'/\Rep (fun k=>F k\/w.heap.size<=k) w' (.sl 42 1 (hand++t.args).length (qI (hand++t.args))) (.slice a (hand++t.args).length c):=by
 have i5:=hl.le;obtain ⟨xs1,Ap,g1⟩:=zu.ofRep hh (uq _);have aN:=ht;rw [jQ] at aN;obtain ⟨xs2,Aa,g2⟩:=zu.ofRep aN (uq _);obtain ⟨a1,c1,e1⟩:=g1.slice;obtain ⟨a2,c2,e2⟩:=g2.slice;subst e1;subst e2;have GI:(w.alloc (.cells #[.slice a2 t.args.length c2] 42)).cell? ⟨w.heap.size,0,none⟩=some (.slice a2 t.args.length c2):=by simp
 go_enter Tryz.func94,Tryz.ntmps94;go_wp2_with fail
 go_region_held3 (fun w'=>w'.cell? ⟨w.heap.size,0,none⟩=some (.slice a2 t.args.length c2))
  (first
   | exact (Eg.cell (by simp)).trans GI
   | exact (oV.cell (by simp)).trans GI
   | go_keep)
  (first
   | (refine zI (by rfl) (.tmp 7) (.tmp 9) _ (by rfl) 42 (.agg #[.slice none 0 0]) 1 24 QU Tryz.infoS rfl (by omega) (.slice ax hand.length cx) hand.length xs1 (by rfl) (by exact hox) (.slice a2 t.args.length c2) t.args.length xs2 (by rfl) (by exact (g2.alloc _).below oV) (by unfold maxLen;omega) (by omega) ?_;intro ay cy wy hoy tC hgy;obtain ⟨Eg,hfy⟩:=vj oV hfx tC hgy)
   | (refine zI (by rfl) (.tmp 5) (.tmp 6) _ (by rfl) 42 (.agg #[.slice none 0 0]) 1 24 QU Tryz.infoS rfl (by omega) (.slice (some ⟨w.heap.size+1,0,none⟩) 0 0) 0 [] (by rfl) (by exact (Own.litAt #[] 0 _ (by simp) (by decide) rfl).drew) (.slice a1 hand.length c1) hand.length xs1 (by rfl) (by exact ((g1.alloc _).alloc _).drew) (by unfold maxLen;omega) (by omega) ?_;rw [Nat.zero_add,List.nil_append];intro ax cx wx hox iT hgx;obtain ⟨oV,hfx⟩:=vj (((rZ _ _).alloc (n9 _) _).drew) (gF (by simp)) iT hgx))
 go_wp2_with fail
 go_ret;have rW:Below w.heap.size w (w.alloc (.cells #[.slice a2 t.args.length c2] 42)):=(rZ _ _).alloc (n9 _) _;have Ef:Below w.heap.size w wy:=rW.trans (Eg.mono (by simp));rw [Ov];refine ⟨ay,cy,rfl,Ef,?_⟩;rw [dp];exact hoy.rep (fun g h=>.inr (by have:=hfy g h;simp at this;omega)) (zW.append (Ap.below Ef (fun _ h=>.inl h)) (Aa.below Ef (fun _ h=>.inl h)))
end Go.Proofs.YtdhaafoiokkbnabGreatDoor

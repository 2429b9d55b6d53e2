/- Walks. -/
import Derived.Test.YtpgiohmcggllgaaGreatDoorQ1
set_option linter.unusedVariables false
set_option linter.unusedSimpArgs false
set_option maxHeartbeats 4000000
set_option maxRecDepth 100000
open Array renaming ext'->Sb,getElem?_eq_getElem->Oo,getElem_modify_self->Qc
open Bool renaming false_eq_true->QW
open Go.Lib renaming atoiAll->Pz,indexAny->Tp,itoa->Pp
open Go.Proofs.Tryz renaming func136->RS,func32->Tt,func40->Tu,func72->Qe,ntmps136->RH,ntmps32->SL,ntmps40->SM,ntmps72->P8,prog->KD,results40->QE,results72->OR,underlying40->Ql
open Go.Value renaming ownBlock->N7,slice->Nq
open Go.World renaming cell?->GD,cell?_of_block->P7,freeze->Qo,frozen?_of_block->OS,setCell->PL,var?->Tq
open List renaming append_nil->Ov,drop_zero->Sr,isPrefixOf_iff_prefix->OT,length_append->NZ,mem_cons->Om,mem_of_getElem?->Oc,take_length->Oh
open Nat renaming zero_le->Og
open Option renaming bind_eq_bind->NX,bind_eq_some_iff->No,bind_none->Pf,bind_some->Mm,map_eq_some_iff->N3
namespace Go.Proofs.YtpgiohmcggllgaaGreatDoor
open Go.RowKit
def gW (l:Bs):Int:=if (zD l)=[] then -1 else (zF l).length
theorem yh (l:Bs):zF l++zD l=l:=List.takeWhile_append_dropWhile
theorem word_take (l:Bs):l.take (zF l).length=zF l:=by
 have h:=yh l;have:=List.take_left (l₁:=zF l) (l₂:=zD l);rw [h] at this;exact this
theorem word_drop (l:Bs):l.drop (zF l).length=zD l:=by
 have h:=yh l;have:=List.drop_left (l₁:=zF l) (l₂:=zD l);rw [h] at this;exact this
theorem yj (l:Bs):(zF l).length+(zD l).length=l.length:=by
 have:=congrArg List.length (yh l);simpa using this
theorem indexAny_sep (l:Bs):Tp l [32,40,41]=gW l:=by
 induction l with
 | nil=>rfl
 | cons b l ih =>
   rw [Tp];have hs:([32,40,41]:Bs).contains b=sep b:=by
    rw [Bool.eq_iff_iff];simp [sep,or_assoc]
   rw [hs];cases hb:sep b
   ·have e1:zF (b::l)=b::zF l:=by simp [zF,hb]
    have e2:zD (b::l)=zD l:=by simp [zD,hb]
    rw [ih];unfold gW;rw [e1,e2];by_cases h:zD l=[]
    ·simp [h]
    ·simp only [h,if_false,QW];rw [if_neg (by rw [beq_iff_eq];omega)];simp
   ·have e1:zF (b::l)=[]:=by simp [zF,hb]
    have e2:zD (b::l)=b::l:=by simp [zD,hb]
    unfold gW;rw [e1,e2];simp
theorem indexAny_any (l:Bs) (w:World) (hl:Lim l.length) :
 Calls KD 116 #[str l,.string ⟨#[32,40,41]⟩] w fun en w'=>en=.returned (.int .i64 (gW l))/\Below w.heap.size w w':=by
 have iU:=hl.le;have hsz:(⟨l.toArray⟩:ByteArray).size=l.length:=ui l;rw [<- indexAny_sep];by_cases h8:l.length<=8
 ·have:=mZ ⟨l.toArray⟩ (by omega) w;simpa [str] using this
 ·refine (Tryz.strings_IndexAny_long (zero_of_info (n:=256) (by kernel_rfl)).1 ⟨l.toArray⟩ ⟨#[32,40,41]⟩ w (by show 2<=3;omega) (by omega) (by omega) (by show 3<4294967281;omega) (by
   intro j b hj;have:b∈([32,40,41]:Bs):=Oc hj;simp at this
   rcases this with rfl | rfl | rfl <;> decide)).mono ?_
  rintro e w' ⟨rfl,rfl⟩;refine ⟨by simp,((mw _ _).alloc (my _) _).alloc (by simp) _⟩
theorem wW (sc:Nat) (c:List Value) (e:TypeId) (r:Bs) (w:World) (h:qT sc c e r w) (hr:Lim r.length) :
 Calls KD 78 #[.pointer (some ⟨sc,0,none⟩)] w fun en w' =>
  en=.returned (str (zF r))/\But (· = sc) w w'/\qT sc c e (zD r) w':=by
 have h1:=h.cell;have h2:=h.free 0;have AF:=ul h;have hl:=hr.le;have hw:=yj r;go_enter Tryz.func78,Tryz.ntmps78;go_wp2_with fail
 refine (indexAny_any r w hr).mono ?_;rintro en w1 ⟨rfl,hb⟩;have c1:w1.cell? ⟨sc,0,none⟩=some (str r):=by rw [hb.cell AF];exact h1
 have c2:w1.frozen? ⟨sc,0,none⟩=false:=by rw [hb.frozen AF];exact h2
 have hS:qT sc c e r w1:=by unfold qT;rw [hb.block sc AF];exact h
 clear h1 h2;by_cases h0:zD r=[]
 ·have hi:gW r = -1:=by simp [gW,h0]
  rw [hi];have e1:zF r=r:=by have:=yh r;rw [h0] at this;simpa using this
  have HE:=mj e1;have H0:=mj h0;clear e1 h0 hi;go_wp2_with fail
  go_ret;have e2:(⟨r.toArray⟩:ByteArray).extract 0 r.length=⟨(zF r).toArray⟩:=by rw [g_,HE.out];simp
  refine ⟨?_,(But.ofBelow hb).setS 0 _,?_⟩
  ·show Ending.returned (.string _)=_;rw [e2]
  ·have:=hS.put (r':=zD r);rw [H0.out] at this ⊢;exact this
 ·have hi:gW r=(zF r).length:=by simp [gW,h0]
  rw [hi];have m_:(zF r).length<=r.length:=by omega
  have H0:=mj h0;clear h0 hi;go_wp2_with fail
  go_ret;have e2:(⟨r.toArray⟩:ByteArray).extract 0 (zF r).length=⟨(zF r).toArray⟩:=by rw [g_,Sr,word_take]
  have e3:(⟨r.toArray⟩:ByteArray).extract (zF r).length r.length=⟨(zD r).toArray⟩:=by rw [g_,Oh,word_drop]
  refine ⟨?_,(But.ofBelow hb).setS 0 _,?_⟩
  ·show Ending.returned (.string _)=_;rw [e2]
  ·rw [e3];exact hS.put
structure yP (w:World):Prop where
 e0:∃ te pe,w.var? KD "strconv.ErrSyntax" = some #[.iface te pe]
 e1:∃ te pe,w.var? KD "strconv.ErrRange" = some #[.iface te pe]
 tab:Lib.TabIs KD w "internal/strconv.uint64pow10" .u64 Lib.pow10Tab
def NotG (b:Nat):Prop:=b≠7/\b≠8/\b≠1
theorem Tryz.gn0:KD.globalNamed "strconv.ErrSyntax" = some 7:=by kernel_rfl
theorem Tryz.gn1:KD.globalNamed "strconv.ErrRange" = some 8:=by kernel_rfl
theorem Tryz.gn2:KD.globalNamed "internal/strconv.uint64pow10" = some 1:=by kernel_rfl
theorem dS {P:Program} {w:World} {nm:String} {g:Nat} {x:Array Value} (hg:P.globalNamed nm=some g) (h:w.var? P nm=some x):g<w.heap.size:=by
 unfold Tq at h;rw [hg] at h;simp only [Mm] at h;rcases Nat.lt_or_ge g w.heap.size with h' | h'
 ·exact h'
 ·rw [Array.getElem?_eq_none h'] at h;simp at h
theorem fX {P:Program} {w w':World} {nm:String} {g:Nat} {x:Array Value} (hg:P.globalNamed nm=some g) (hk:w'.heap[g]? = w.heap[g]?) (h:w.var? P nm=some x):w'.var? P nm=some x:=by
 unfold Tq at *;rw [hg] at *;simp only [Mm] at *;rw [hk];exact h
theorem yP.but {m:Nat->Prop} {w w':World} (h:yP w) (hb:But m w w') (hm:∀ i,m i->NotG i):yP w':=by
 obtain ⟨⟨t0,p0,h0⟩,⟨t1,p1,h1⟩,h2⟩:=h;have l0:=dS Tryz.gn0 h0;have l1:=dS Tryz.gn1 h1;have l2:=dS Tryz.gn2 h2;exact ⟨⟨t0,p0,fX Tryz.gn0 (hb.block _ l0 fun e=>(hm _ e).1 rfl) h0⟩,⟨t1,p1,fX Tryz.gn1 (hb.block _ l1 fun e=>(hm _ e).2.1 rfl) h1⟩,fX Tryz.gn2 (hb.block _ l2 fun e=>(hm _ e).2.2 rfl) h2⟩
theorem yP.below {w w':World} (h:yP w) (hb:Below w.heap.size w w'):yP w':=h.but (m:=fun _=>False) (But.ofBelow hb) (fun _ e=>e.elim)
theorem yP.new {w:World} (h:yP w) {b:Nat} (hb:w.heap.size<=b):NotG b:=by
 obtain ⟨⟨t0,p0,h0⟩,⟨t1,p1,h1⟩,h2⟩:=h;have l0:=dS Tryz.gn0 h0;have l1:=dS Tryz.gn1 h1;have l2:=dS Tryz.gn2 h2;exact ⟨by omega,by omega,by omega⟩
theorem eg {B:Nat} {a w:World} (h:Below B a w) (n:Nat):Below B a (w.drewN n):=h.trans ⟨rfl,rfl,rfl,my _,fun _ _=>rfl⟩
theorem below_grow (w:World) (os:Array Obj):Below w.heap.size w (Go.Sort.grow w os) :=
 ⟨rfl,rfl,rfl,by simp [Go.Sort.grow],fun k hk=>by simp [Go.Sort.grow,Array.getElem?_append_left hk]⟩
theorem below_freeze {B:Nat} {a w:World} (h:Below B a w) {p:Addr} (hp:B<=p.block) (n:Nat):Below B a (w.freeze p n):=by
 refine h.trans ⟨?_,?_,?_,?_,?_⟩
 ·unfold Qo;split <;> rfl
 ·unfold Qo;split <;> rfl
 ·unfold Qo;split <;> rfl
 ·unfold Qo;split <;> simp
 ·intro k hk;unfold Qo;split
  ·rfl
  ·simp only [Array.getElem?_modify];rw [if_neg (by omega)]
theorem eZ (w:World) (e:TypeId) (s:ByteArray):Below w.heap.size w (Lib.bytesWorld w e s) :=
 below_freeze (((mw w.heap.size w).drew).alloc (my _) _) (my _) _
theorem atoi_ok (l:Bs) (w:World) (hl:Lim l.length) (v:Int) (h:Pz l=.ok v) :
 Calls KD 168 #[str l] w fun en w'=>en=.returned (.tuple #[.int .i64 v,.nilIface])/\Below w.heap.size w w':=by
 have iU:=hl.le;refine (Tryz.strconv_Atoi_ok ⟨l.toArray⟩ (by show l.toArray.size<=_;simp;omega) v h w).mono ?_;rintro en w' ⟨rfl,rfl | ⟨t,rfl⟩⟩
 ·exact ⟨rfl,mw _ _⟩
 ·exact ⟨rfl,eZ _ _ _⟩
theorem atoi_no (l:Bs) (w:World) (hl:Lim l.length) (hg:yP w) (h:∀ v,Pz l≠.ok v) :
 Calls KD 168 #[str l] w fun en w'=>∃ v t p,en=.returned (.tuple #[.int .i64 v,.iface t p])/\Below w.heap.size w w':=by
 have iU:=hl.le;have hs:(⟨l.toArray⟩:ByteArray).size<=281474976710656:=by show l.toArray.size<=_;simp;omega
 cases ha:Pz l
 ·rename_i v;exact absurd ha (h v)
 ·obtain ⟨te,pe,h0⟩:=hg.e0;refine (Tryz.strconv_Atoi_syntax_var ⟨l.toArray⟩ hs ha te pe w h0).mono ?_;rintro en w' ⟨N,rfl,_,_,hb⟩;exact ⟨_,_,_,rfl,hb⟩
 ·obtain ⟨te,pe,h0⟩:=hg.e1;refine (Tryz.strconv_Atoi_range_var ⟨l.toArray⟩ hs ha te pe w h0).mono ?_;rintro en w' ⟨N,rfl,_,_,hb⟩;exact ⟨_,_,_,rfl,hb⟩
theorem fo (n:Int) (w:World) (hg:yP w) (h0 : -9223372036854775808<=n) (h1:n<=9223372036854775807) :
 Calls KD 23 #[.int .i64 n] w fun en w'=>en=.returned (str (Pp n))/\Below w.heap.size w w':=by
 refine (Tryz.strconv_Itoa n h0 h1 w hg.tab).mono ?_;rintro en w' ⟨rfl,k,os,rfl⟩;exact ⟨rfl,(eg (mw _ _) k).trans (below_grow (w.drewN k) os)⟩
theorem mF {l:Bs} {v:Int} (h:Pz l=.ok v) : -9223372036854775808<=v/\v<=9223372036854775807:=by
 unfold Pz at h;split at h
 ·simp at h
 ·simp only at h;split at h
  ·simp at h
  ·simp at h
  ·split at h
   ·simp at h
   ·split at h
    ·simp at h
    ·rename_i h1 h2;simp only [Lib.NumEnd.ok.injEq] at h;split at h <;> omega
theorem itoa_of {l:Bs} {v:Int} (h:Pz l=.ok v) (w:World) (hg:yP w) :
 Calls KD 23 #[.int .i64 v] w fun en w'=>en=.returned (str (Pp v))/\Below w.heap.size w w' :=
 fo v w hg (mF h).1 (mF h).2
def uC (sr:Nat) (w:World) (o:Option (Bd×Bs×Nat)) (en:Ending) (w':World):Prop :=
 ∃ (v:Value) (r':Bs) (left':Int),en=.returned v/\But (fun x=>x=sr) w w'/\qT sr [.int .i64 left'] 194 r' w'/\(o=none->v=.pointer none) /\
   (∀ b rest nI,o=some (b,rest,nI)->r'=rest/\left'=(nI:Nat)/\Rep (w.heap.size<=·) w' (k_ b) v)
theorem za {F:Nat->Prop} {w:World} {b:Bd} {v:Value} (h:Rep F w (k_ b) v):∃ a,v=.pointer (some ⟨a,0,none⟩):=by
 cases b with
 | leaf c=>rw [k_,jv] at h;obtain ⟨a,c,h,_⟩:=h;exact ⟨a,h⟩
 | ask v ss y n=>rw [k_,jv] at h;obtain ⟨a,c,h,_⟩:=h;exact ⟨a,h⟩
theorem uC.no {sr:Nat} {w:World} {o:Option (Bd×Bs×Nat)} {w':World} {r:Bs} {left:Int} (ho:o=none) (hb:But (fun x=>x=sr) w w') (hs:qT sr [.int .i64 left] 194 r w') :
 uC sr w o (.returned (.pointer none)) w' :=
 ⟨_,r,left,rfl,hb,hs,fun _=>rfl,fun _ _ _ h=>by rw [ho] at h;simp at h⟩
theorem uC.yes {sr:Nat} {w:World} {o:Option (Bd×Bs×Nat)} {w':World} {r:Bs} {left:Nat} {b:Bd} {v:Value} (ho:o=some (b,r,left)) (hb:But (fun x=>x=sr) w w') (hs:qT sr [.int .i64 left] 194 r w')
 (hv:Rep (w.heap.size<=·) w' (k_ b) v):uC sr w o (.returned v) w' :=
 ⟨_,r,left,rfl,hb,hs,fun h=>by rw [ho] at h;simp at h,fun _ _ _ h=>by rw [ho] at h;simp at h;obtain ⟨rfl,rfl,rfl⟩:=h;exact ⟨rfl,rfl,hv⟩⟩
def jP (d:Nat) (levels:List Ty):Prop:=(∀ t∈levels,zJ t<=15)/\levels.length+15*d<=10000
def gT (d:Nat):Prop:=∀ (sr left:Nat) (levels:List Ty) (l:Bs) (lv:Value) (F:Nat->Prop) (w:World),yP w->NotG sr ->
 qT sr [.int .i64 left] 194 l w->left<=1000->Lim l.length->jP d levels ->
 Rep F w (.sl 32 1 levels.length (qg levels)) lv->(∀ b,F b->b≠sr) ->
 Calls KD 136 #[.pointer (some ⟨sr,0,none⟩),lv,.int .i64 d] w (uC sr w (rdB d levels left l))
theorem dW (a b:List Ty):qg (a++b)=qg a++qg b:=by
 induction a with
 | nil=>rfl
 | cons t ts ih=>simp [qg,ih]
theorem gu {F:Nat->Prop} {m:Nat->Prop} {w w':World} {e:TypeId} {sz n:Nat} {cs:List DV} {v:Value} {news:List Value} (hb:But m w w') (hF:∀ b,F b->¬ m b) (h:Rep F w (.sl e sz n cs) v) (hs:zq sz v n news w):zq sz v n news w':=by
 rw [zg] at h;obtain ⟨hl,a,cap,rfl,hn,hz,h⟩:=h;obtain ⟨h1,h2,h3⟩:=hs;refine ⟨h1,h2,?_⟩;rcases h with rfl | ⟨b,o,c,fr,rfl,nW,hc,hr⟩
 ·have:news=[]:=List.eq_nil_of_length_eq_zero (by simpa using h1);subst this;rcases h3 with ⟨a',c',e',_⟩ | h3
  ·exact .inl ⟨a',c',e',by simp⟩
  ·exact .inr h3
 ·rcases h3 with ⟨a',c',e',h3⟩ | ⟨h3,_⟩
  ·simp at e';obtain ⟨e1,e2⟩:=e';subst e1;refine .inl ⟨_,cap,rfl,fun j u hj=>?_⟩;have:=h3 j u hj;rw [hb.cell (mx w _ this) ?_]
   ·exact this
   ·unfold Addr.add;split <;> exact hF b nW
  ·simp at h3
theorem part_pre {F:Nat->Prop} {sr:Nat} {left:Int} {levels more:List Ty} {r1:Bs} {xs1 xs2:List Value} {ac:Option Addr} {kc:Nat} {w w1 wx wc:World} (hg:yP w) (hn:NotG sr) (Ea:sr<w.heap.size)
 (mi:But (fun x=>x=sr) w w1) (rz:qT sr [.int .i64 left] 194 r1 w1)
 (hF:∀ b,F b->b≠sr) (G1:zW F w1 (qg levels) xs1) (G2:zW F w1 (qg more) xs2)
 (hx:Below w1.heap.size w1 wx) (IL:Own wc 32 1 (.slice ac (levels.length+more.length) kc) (levels.length+more.length) (xs1++xs2))
 (G7:Below wx.heap.size wx wc) (AO:∀ g,(Nq ac (levels.length+more.length) kc).ownBlock=some g->wx.heap.size<=g) :
 Below w1.heap.size w1 wc/\yP wc/\qT sr [.int .i64 left] 194 r1 wc /\
  Rep (fun b=>b≠sr) wc (.sl 32 1 (levels++more).length (qg (levels++more))) (.slice ac (levels.length+more.length) kc):=by
 have z1:=mi.size;have hb:Below w1.heap.size w1 wc:=zzT hx G7;refine ⟨hb,(hg.but mi fun i e=>by subst e;exact hn).below hb,(hb.block sr (by omega)).trans rz,?_⟩;rw [NZ,dW];refine IL.rep (fun g h=>?_) (zW.append (G1.below hb hF) (G2.below hb hF));have:=AO g h;have:=hx.size;omega
theorem fp (d:Nat) (ih:gT d) (sr left:Nat) (levels more:List Ty) (l:Bs) (lv mv:Value) (F:Nat->Prop) (w:World) (b1 b2 b3:Nat) (hg:yP w) (hn:NotG sr)
 (hs:qT sr [.int .i64 left] 194 l w) (hl:left<=1000) (hr:Lim l.length) (hh:jP d (levels++more)) (hd:d<=1000)
 (sO:Rep F w (.sl 32 1 levels.length (qg levels)) lv) (hmv:Rep F w (.sl 32 1 more.length (qg more)) mv) (hF:∀ b,F b->b≠sr)
 (c1:w.cell? ⟨b1,0,none⟩=some (.pointer (some ⟨sr,0,none⟩))) (c2:w.cell? ⟨b2,0,none⟩=some lv) (c3:w.cell? ⟨b3,0,none⟩=some (.int .i64 ((d:Int)+1)))
 (n1:b1≠sr) (n2:b2≠sr) (n3:b3≠sr) :
 Calls KD 169 #[mv,.pointer (some ⟨b1,0,none⟩),.pointer (some ⟨b2,0,none⟩),.pointer (some ⟨b3,0,none⟩)] w (uC sr w (jd (rdB d) (levels++more) left l)):=by
 have IH:=mj ih;clear ih;have HF:=mj hF;clear hF;have l1:=mx w _ c1;have l2:=mx w _ c2;have l3:=mx w _ c3;go_enter Tryz.func169,Tryz.ntmps169;go_wp2_with fail
 rcases kD [32] l with h1 | ⟨r1,h1⟩
 ·refine (ve hs h1).mono ?_;rintro en w1 ⟨rfl,mi,rz⟩;go_wp2_with fail
  go_ret;exact uC.no (by simp [jd,h1.out]) mi rz
 ·refine (jh hs h1).mono ?_;rintro en w1 ⟨rfl,mi,rz⟩;have d1:w1.cell? ⟨b1,0,none⟩=some (.pointer (some ⟨sr,0,none⟩)):=by rw [mi.cell l1 n1];exact c1
  have d2:w1.cell? ⟨b2,0,none⟩=some lv:=by rw [mi.cell l2 n2];exact c2
  have d3:w1.cell? ⟨b3,0,none⟩=some (.int .i64 ((d:Int)+1)):=by rw [mi.cell l3 n3];exact c3
  obtain ⟨xs1,l_,g1⟩:=zq.ofRep sO (wQ _);obtain ⟨xs2,lw,g2⟩:=zq.ofRep hmv (wQ _);have lim:levels.length+more.length<=10000:=by have:=hh.2;simp at this;omega
  have Ea:=ul hs;have z1:=mi.size;have Kh:=HF.out;have G1:=mj (zW.but mi (fun b hb=>⟨HF.out b hb,hb⟩) l_);have G2:=mj (zW.but mi (fun b hb=>⟨HF.out b hb,hb⟩) lw);have W1:zq 1 lv levels.length xs1 w1:=gu mi Kh sO g1;have W2:zq 1 mv more.length xs2 w1:=gu mi Kh hmv g2;clear Kh l_ lw g1 g2 c1 c2 c3;obtain ⟨a1,k1,rfl⟩:=W1.slice;obtain ⟨a2,k2,rfl⟩:=W2.slice;have l1':b1<w1.heap.size:=by omega
  have l2':b2<w1.heap.size:=by omega
  have l3':b3<w1.heap.size:=by omega
  go_wp2_with fail
  have HW:=mj (IntWalk.i64_in (d:Int) (by omega))
  go_region_held3 (fun w'=>w'.cell? ⟨b1,0,none⟩=some (.pointer (some ⟨sr,0,none⟩))/\w'.cell? ⟨b2,0,none⟩=some (.slice a1 levels.length k1)/\w'.cell? ⟨b3,0,none⟩=some (.int .i64 ((d:Int)+1)))
   (first
    | exact ⟨(At.cell l1' n1).trans d1,(At.cell l2' n2).trans d2,(At.cell l3' n3).trans d3⟩
    | exact ⟨(hbb.cell l1').trans d1,(hbb.cell l2').trans d2,(hbb.cell l3').trans d3⟩
    | go_keep)
   (first
    | (go_at_call 170;refine (concatK_any w1.heap.size levels.length more.length (.slice a1 levels.length k1) (.slice a2 more.length k2) xs1 xs2 _ (by simp) (by simp) (W1.keep fun _ _ h=>by simpa using zV h) (W2.keep fun _ _ h=>by simpa using zV h) (show _<=_ by omega) (show _<=_ by omega) (show _<=_ by omega)).mono ?_;rintro en wc ⟨ac,kc,rfl,IL,G7,AO⟩;obtain ⟨hbb,hgc,AF,FT⟩:=part_pre hg hn Ea mi rz HF.out G1.out G2.out (((mw w1.heap.size w1).alloc (my _) _).drew) IL G7 AO)
    | (go_at_call 136
       rw [HW.out];refine (IH.out sr left (levels++more) r1 _ (fun b=>b≠sr) wc hgc hn AF hl (hr.mono h1.le) hh FT (fun b h=>h)).mono ?_
       rintro en wf ⟨v,r',left',rfl,hbf,oS,LO,hyf⟩;have At:=(But.ofBelow (m:=fun x=>x=sr) hbb).trans hbf))
  go_wp2_with fail
  go_ret;refine ⟨v,r',left',rfl,mi.trans At,oS,fun h=>LO ?_,fun b rest nI h=>?_⟩
  ·simpa [jd,h1.out] using h
  ·obtain ⟨e1,e2,e3⟩:=hyf b rest nI (by simpa [jd,h1.out] using h);exact ⟨e1,e2,(Rep.keep fun b o h ho=>⟨by have:=h;have:=hbb.size;omega,ho⟩).1 _ _ e3⟩
theorem qT.cell1 {sc:Nat} {c:List Value} {e:TypeId} {r:Bs} {u:Value} {w:World} (h:qT sc (u::c) e r w):w.cell? ⟨sc,1,none⟩=some u:=by
 simp [GD,qT] at *;simp [h]
theorem qT.put1 {sc:Nat} {c:List Value} {e:TypeId} {r:Bs} {u u':Value} {w:World} (h:qT sc (u::c) e r w):qT sc (u'::c) e r (w.setCell ⟨sc,1,none⟩ u'):=by
 unfold qT at *;have m_:=zZ h;have h':w.heap[sc]=.cells (str r::u::c).toArray e (0,0):=by simpa [Oo m_] using h
 show (w.heap.modify sc _)[sc]? = _;rw [Oo (by simpa using m_),Qc,h'];simp
def eh (B sr:Nat) (lv:Value) (d:Nat) (w:World):Prop :=
 w.cell? ⟨B,0,none⟩=some (.pointer (some ⟨sr,0,none⟩))/\w.cell? ⟨B+1,0,none⟩=some lv/\w.cell? ⟨B+1+1,0,none⟩=some (.int .i64 (d:Int))
theorem eh.but {B sr:Nat} {lv:Value} {d:Nat} {m:Nat->Prop} {w w':World} (h:eh B sr lv d w) (hb:But m w w') (hm:∀ i,m i->i≠B/\i≠B+1/\i≠B+1+1):eh B sr lv d w':=by
 obtain ⟨h1,h2,h3⟩:=h;refine ⟨?_,?_,?_⟩
 ·rw [hb.cell (mx w _ h1) (fun e=>(hm _ e).1 rfl)];exact h1
 ·rw [hb.cell (mx w _ h2) (fun e=>(hm _ e).2.1 rfl)];exact h2
 ·rw [hb.cell (mx w _ h3) (fun e=>(hm _ e).2.2 rfl)];exact h3
def xJ (ob v:Nat) (slv y n:Value) (w:World):Prop:=w.heap[ob]? = some (.cells #[str [],.int .i64 v,slv,y,n] 79 (0,0))
theorem xJ.cells {ob v:Nat} {slv y n:Value} {w:World} (h:xJ ob v slv y n w):w.cell? ⟨ob,2,none⟩=some slv/\w.cell? ⟨ob,3,none⟩=some y/\w.cell? ⟨ob,4,none⟩=some n/\ob<w.heap.size/\(∀ o,w.frozen? ⟨ob,o,none⟩=false):=by
 have hl:=zZ h;unfold xJ at h;exact ⟨by simp [GD,h],by simp [GD,h],by simp [GD,h],hl,fun o=>by simp [World.frozen?,h]⟩
theorem zy {w:World} {b o:Nat} {c:Array Value} {e:TypeId} {u:Value} (h:w.heap[b]? = some (.cells c e (0,0))):(w.setCell ⟨b,o,none⟩ u).heap[b]? = some (.cells (c.setIfInBounds o u) e (0,0)):=by
 have m_:=zZ h;have h':w.heap[b]=.cells c e (0,0):=by simpa [Oo m_] using h
 show (w.heap.modify b _)[b]? = _;rw [Oo (by simpa using m_),Qc,h'];simp
theorem xJ.put2 {ob v:Nat} {slv y n u:Value} {w:World} (h:xJ ob v slv y n w):xJ ob v u y n (w.setCell ⟨ob,2,none⟩ u):=by
 unfold xJ;rw [zy h];rfl
theorem xJ.put3 {ob v:Nat} {slv y n u:Value} {w:World} (h:xJ ob v slv y n w):xJ ob v slv u n (w.setCell ⟨ob,3,none⟩ u):=by
 unfold xJ;rw [zy h];rfl
theorem xJ.put4 {ob v:Nat} {slv y n u:Value} {w:World} (h:xJ ob v slv y n w):xJ ob v slv y u (w.setCell ⟨ob,4,none⟩ u):=by
 unfold xJ;rw [zy h];rfl
def dR (sr B ob Z v d:Nat) (lv:Value) (levels ts:List Ty) (Cb:Nat) (r0:Bs) (w:World) (rd:Rd) (k:Nat) (wr:World):Prop :=
 ∃ bs lk leftk slv vs,ki rd (qC levels (ts.take k)) Cb r0=some (bs,lk,leftk)/\But (fun x=>x=sr) w wr/\qT sr [.int .i64 (leftk:Nat)] 194 lk wr /\
   xJ ob v slv (.pointer none) (.pointer none) wr/\Own wr 33 1 slv k vs/\(∀ g,slv.ownBlock=some g->Z<=g)/\zW (fun b=>Z<=b/\slv.ownBlock≠some b) wr (jV bs) vs/\eh B sr lv (d+1) wr/\Z<=wr.heap.size
theorem dP (a b:List Bd):jV (a++b)=jV a++jV b:=by
 induction a with
 | nil=>rfl
 | cons t ts ih=>simp [jV,ih]
theorem Tryz.infoB:(KD.info? 33).map (fun i=>(i.zero,i.size,i.bytes))=some (some (.pointer none),1,8):=by kernel_rfl
theorem ff {sr left:Nat} {x:UInt8} {r:Bs} {w w2:World} {o:Option (Bd×Bs×Nat)} {u:Value} (hw:u=str [x]) (hm:o=some (.leaf x,r,left)) (hb:But (fun x=>x=sr) w w2) (hs:qT sr [.int .i64 (left:Nat)] 194 r w2) :
 uC sr w o (.returned (.pointer (some ⟨w2.heap.size,0,none⟩))) (w2.alloc (.cells #[u,.int .i64 0,.slice none 0 0,.pointer none,.pointer none] 79)):=by
 refine uC.yes hm (hb.alloc _) (hs.alloc _) ?_;rw [k_,jv];refine ⟨_,_,rfl,hb.size,zG _ _,?_⟩;subst hw;refine zQ.2 ⟨_,_,rfl,zH.2 rfl,zQ.2 ⟨_,_,rfl,zH.2 rfl,zQ.2 ⟨_,_,rfl,?_,zQ.2 ⟨_,_,rfl,zH.2 rfl,zQ.2 ⟨_,_,rfl,zH.2 rfl,zC.2 rfl⟩⟩⟩⟩⟩;exact zg.2 ⟨rfl,none,0,rfl,my _,fun _=>rfl,.inl rfl⟩
theorem jP.next {d:Nat} {levels:List Ty} {v:Nat} {t a:Ty} (h:jP (d+1) levels) (hv:levels[v]? = some t) (ha:a∈t.args):jP d (levels++a.args):=by
 have ht:=h.1 t (Oc hv);have rL:∀ ts:List Ty,∀ a∈ts,1+zJ a<=zc ts:=by
  intro ts
  induction ts with
  | nil=>simp
  | cons x xs ih =>
    intro a ha;rcases Om.1 ha with rfl | ha
    ·simp [zc]
    ·have:=ih a ha;simp [zc];omega
 have hlen:∀ ts:List Ty,ts.length<=zc ts:=by
  intro ts
  induction ts with
  | nil=>simp
  | cons x xs ih=>simp [zc];omega
 have h1:=rL _ a ha;have h2:=qi t;have h3:=qi a;refine ⟨fun x hx=>?_,?_⟩
 ·rcases List.mem_append.1 hx with hx | hx
  ·exact h.1 x hx
  ·have:=rL _ x hx;omega
 ·have:=hlen a.args;have:=h.2;simp;omega
theorem jP.same {d:Nat} {levels:List Ty} (h:jP (d+1) levels):jP d (levels++[]):=by
 refine ⟨fun x hx=>h.1 x (by simpa using hx),?_⟩;have:=h.2;simp;omega
theorem dR.next {sr B ob Z v d:Nat} {lv:Value} {levels ts:List Ty} {Cb:Nat} {r0:Bs} {w:World} {rd:Rd} {k:Nat} {wr w1 w2:World} {t:Ty} {bs:List Bd} {lk:Bs} {leftk:Nat} {slv:Value} {vs:List Value}
 {b:Bd} {rest:Bs} {nI:Nat} {vb:Value} {o:Obj} {a':Option Addr} {c':Nat}
 (ht:ts[k]? = some t) (hp:ki rd (qC levels (ts.take k)) Cb r0=some (bs,lk,leftk)) (hb:But (fun x=>x=sr) w wr)
 (aZ:xJ ob v slv (.pointer none) (.pointer none) wr) (hZ:∀ g,slv.ownBlock=some g->Z<=g) (nM:Own wr 33 1 slv k vs) (hr:zW (fun b=>Z<=b/\slv.ownBlock≠some b) wr (jV bs) vs) (hx:eh B sr lv (d+1) wr)
 (hz:Z<=wr.heap.size) (hq:jd rd (levels++t.args) leftk lk=some (b,rest,nI))
 (mi:But (fun x=>x=sr) wr w1) (rz:qT sr [.int .i64 (nI:Nat)] 194 rest w1) (hv:Rep (wr.heap.size<=·) w1 (k_ b) vb)
 (sh:Own w2 33 1 (.slice a' (k+1) c') (k+1) (vs++[vb])) (me:But (fun b=>slv.ownBlock=some b) (w1.alloc o) w2) (hg:∀ g,(Nq a' (k+1) c').ownBlock=some g->slv.ownBlock=some g\/g=(w1.alloc o).heap.size)
 (Ea:sr<w.heap.size) (hB:w.heap.size<=B) (Es:B+1+1<ob) (hobZ:ob<Z) :
 dR sr B ob Z v d lv levels ts Cb r0 w rd (k+1) (w2.setCell ⟨ob,2,none⟩ (.slice a' (k+1) c')):=by
 have z1:=mi.size;have z2:=me.size;have zw:=hb.size;rw [zK] at hg z2;have m_:∀ g,slv.ownBlock=some g->g<wr.heap.size:=fun g h=>nM.lt h;have hnsr:∀ g,slv.ownBlock=some g->Z<=g:=hZ;have keep:∀ i x,w1.heap[i]? = some x->slv.ownBlock≠some i->i≠ob->(w2.setCell ⟨ob,2,none⟩ (.slice a' (k+1) c')).heap[i]? = some x:=by
  intro i x hi hne ho;rw [mp _ _ _ _ (by simpa using ho),me.block i (by rw [zK];have:=zZ hi;omega) hne];exact zU hi
 have LQ:xJ ob v slv (.pointer none) (.pointer none) w1:=(mi.block ob (zZ aZ) (by omega)).trans aZ;have hnb2:xJ ob v slv (.pointer none) (.pointer none) w2:=by
  unfold xJ;rw [me.block ob (by rw [zK];have:=zZ LQ;omega) (fun e=>by have:=hZ ob e;omega)];exact zU LQ
 have l_:=hx.but mi (fun i e=>by subst e;omega);refine ⟨bs++[b],rest,nI,_,vs++[vb],?_,?_,?_,hnb2.put2,?_,?_,?_,?_,?_⟩
 ·rw [mK ht hp,hq];rfl
 ·refine ((hb.trans mi).trans' ((But.refl (fun b=>slv.ownBlock=some b) w1).alloc o |>.trans me) fun i hi e=>?_).setCell (p:=⟨ob,2,none⟩) (.inr (by simp;omega)) _;have:=hZ i e;omega
 ·exact keep sr _ rz (fun e=>by have:=hZ sr e;omega) (by omega)
 ·refine sh.keep fun g x sZ lp=>?_
  rw [mp _ _ _ _ (by
   rcases hg g sZ with h | h
   ·have:=hZ g h;simp;omega
   ·simp;omega)]
  exact lp
 ·intro g h;rcases hg g h with h | h
  ·exact hZ g h
  ·omega
 ·rw [dP];refine zW.append ?_ (zW.one ?_)
  ·refine (Rep.keep fun i x hi lp=>⟨⟨hi.1,fun e=>?_⟩,?_⟩).2 _ _ hr
   ·have hne:i≠sr:=by omega
    exact keep i x (by rw [mi.block i (zZ lp) hne];exact lp) hi.2 (by omega)
   ·rcases hg i e with h | h
    ·exact hi.2 h
    ·have:=zZ lp;omega
  ·refine (Rep.keep fun i x hi lp=>⟨⟨by have:=hi;omega,fun e=>?_⟩,?_⟩).1 _ _ hv
   ·exact keep i x lp (fun e=>by have:=m_ i e;have:=hi;omega) (by have:=hi;omega)
   ·rcases hg i e with h | h
    ·have:=m_ i h;have:=hi;omega
    ·have:=zZ lp;omega
 ·obtain ⟨y1,y2,y3⟩:=l_;have ck:∀ i u,w1.cell? ⟨i,0,none⟩=some u->slv.ownBlock≠some i->i≠ob->(w2.setCell ⟨ob,2,none⟩ (.slice a' (k+1) c')).cell? ⟨i,0,none⟩=some u:=by
   intro i u hi hne ho;rw [P7 (w:=w1) (a:=⟨i,0,none⟩) ?_];exact hi;have hl:=mx w1 _ hi;obtain ⟨x,lp⟩:∃ x,w1.heap[i]? = some x:=⟨w1.heap[i],by simp at hl;simp [hl]⟩;show (w2.setCell ⟨ob,2,none⟩ (.slice a' (k+1) c')).heap[i]? = w1.heap[i]?;rw [keep i x lp hne ho,lp]
  exact ⟨ck _ _ y1 (fun e=>by have:=hZ _ e;omega) (by omega),ck _ _ y2 (fun e=>by have:=hZ _ e;omega) (by omega),ck _ _ y3 (fun e=>by have:=hZ _ e;omega) (by omega)⟩
 ·simp only [PL];simp;omega
theorem body_ask (d:Nat) (hd:d+1<=1000) (ih:gT d) (sr left:Nat) (levels:List Ty) (l:Bs) (lv:Value) (F:Nat->Prop) (w:World) (hg:yP w) (hn:NotG sr)
 (hs:qT sr [.int .i64 ((left+1:Nat):Int)] 194 l w) (hl:left+1<=1000) (hr:Lim l.length) (hh:jP (d+1) levels)
 (sO:Rep F w (.sl 32 1 levels.length (qg levels)) lv) (hF:∀ b,F b->b≠sr) (r1:Bs) (v:Nat) (t:Ty) (h1:Cut [40] l r1) (Dq:lvl (zF r1) levels.length=some v) (ht:levels[v]? = some t) :
 Calls KD 136 #[.pointer (some ⟨sr,0,none⟩),lv,.int .i64 ((d:Int)+1)] w (uC sr w (rdB (d+1) levels (left+1) l)):=by
 have HM:=mj (cI (d+1) levels left h1.out);have hm:rdB (d+1) levels (left+1) l=fu (rdB d) levels v t left (zD r1):=by rw [HM.out,Dq];simp only [ht]
 have HM:=mj hm;clear hm;rw [rdAsk_eq] at HM;have IH:=mj ih;clear ih;obtain ⟨Cd,nC,Du⟩:=lvl_lt Dq;have Dm:=mj nC;have IZ:=mj Du;have hlvl':=mj Dq;have HT:=mj ht;have c1:=hs.cell1;have f1:=hs.free 1;have lsr:=ul hs;have lsr1:sr<w.heap.size+1:=by omega
 have lsr2:sr<w.heap.size+1+1:=by omega
 obtain ⟨a0,k0,elv,_,_,ml⟩:=zP sO;obtain ⟨bl,ol,u,dv,ea,Kg,_,J2,Bi,tQ⟩:=ml v Cd;rw [xj,ht] at J2;simp only [Option.map_some,Option.some.injEq] at J2;subst J2;subst ea;subst elv;obtain ⟨bt,st,eu,M8,MB,aG⟩:=zi tQ;subst eu;obtain ⟨sa,ks,est,Fq,_,ES⟩:=zP aG;subst est;have MA:w.cell? ⟨bt,0,none⟩=some (.slice sa t.args.length ks):=by simp [GD,MB]
 have nl:=hF bl Kg;have nt:=hF bt M8;have HF:=mj hF;have JE:=mj ES;have CL:=mj Bi;have CT:=mj MA;clear nC Du Dq ht ml tQ MB aG hF ES Bi MA;have hlen:levels.length<=10000:=by have:=hh.2;omega
 have iG:t.args.length<=15:=by
  have h1:=hh.1 t (Oc HT.out);have h2:=qi t;have hlen:∀ ts:List Ty,ts.length<=zc ts:=by
   intro ts
   induction ts with
   | nil=>simp
   | cons x xs ih=>simp [zc];omega
  have:=hlen t.args;omega
 go_enter RS,RH;go_wp2_with fail
 obtain ⟨W0,nO⟩:=zzM (((((w.setCell ⟨sr,1,none⟩ (.int .i64 left)).alloc (.cells #[.pointer (some ⟨sr,0,none⟩)] 192)).alloc (.cells #[.slice (some ⟨bl,ol,none⟩) levels.length k0] 110)).alloc (.cells #[.int .i64 ((d:Int)+1)] 3)));rw [<- nO];have nN:But (fun x=>x=sr) w W0:=by subst nO;exact ((((But.refl _ _).setS 1 _).alloc _).alloc _).alloc _
 have aT:qT sr [.int .i64 left] 194 l W0:=by subst nO;exact ((hs.put1).alloc _).alloc _ |>.alloc _
 have ir:eh w.heap.size sr (.slice (some ⟨bl,ol,none⟩) levels.length k0) (d+1) W0:=by subst nO;refine ⟨?_,?_,?_⟩ <;> go_simp
 have z0:W0.heap.size=w.heap.size+3:=by subst nO;simp
 clear nO c1 f1;refine (jh aT h1).mono ?_;rintro en w1 ⟨rfl,mi,rz⟩;have l_:=ir.but mi (fun i e=>by subst e;omega);have hb:=nN.trans mi;have z1:=mi.size;clear nN mi aT ir;obtain ⟨x1,x2,x3⟩:=id l_;go_wp2_with fail
 refine (wW _ _ _ _ _ rz (hr.mono h1.le)).mono ?_;rintro en w2 ⟨rfl,me,t6⟩;have sJ:=hr.mono h1.le;have lU:=sJ.mono (show (zF r1).length<=r1.length by have:=yj r1;omega);have lw:=l_.but me (fun i e=>by subst e;omega);have nW:=hb.trans me;have z2:=me.size;have Cr:=hg.but nW (fun i e=>by subst e;exact hn);clear x1 x2 x3 hb me rz l_;go_wp2_with fail
 refine (atoi_ok _ _ lU (v:Int) Dm.out).mono ?_;rintro en w3 ⟨rfl,nZ⟩;have z3:=nZ.size;have Bh:=Cr.below nZ;have lY:=(nZ.block sr (by omega)).trans t6;have Ir:=lw.but (But.ofBelow (m:=fun _=>False) nZ) (fun i e=>e.elim);have hb:=nW.trans (But.ofBelow nZ);clear nW nZ t6 lw Cr;go_wp2_with fail
 refine (itoa_of Dm.out w3 Bh).mono ?_;rintro en w4 ⟨rfl,nS⟩;have z4:=nS.size;have tK:=(nS.block sr (by omega)).trans lY;have hg4:=Bh.below nS;have KN:=Ir.but (But.ofBelow (m:=fun _=>False) nS) (fun i e=>e.elim);obtain ⟨x1,x2,x3⟩:=id KN;have nW:=hb.trans (But.ofBelow nS);have hq:(Pp (v:Int) == zF r1)=true:=by rw [beq_iff_eq];exact IZ.out
 have Cf:decide ((v:Int)<0)=false:=by rw [decide_eq_false_iff_not];omega
 have iz:decide (levels.length<=v)=false:=by rw [decide_eq_false_iff_not];omega
 have Ac:(((d:Int)+1) == 0)=false:=by rw [beq_eq_false_iff_ne];omega
 have s1:w.heap.size+1<w4.heap.size:=by omega
 have s2:w.heap.size<w4.heap.size:=by omega
 have s3:w.heap.size+1+1<w4.heap.size:=by omega
 have d1:w4.cell? ⟨bl,ol+v,none⟩=some (.pointer (some ⟨bt,0,none⟩)):=by rw [nW.cell (mx w _ CL.out) nl];exact CL.out
 have d2:w4.cell? ⟨bt,0,none⟩=some (.slice sa t.args.length ks):=by rw [nW.cell (mx w _ CT.out) nt];exact CT.out
 have d3:=mx w4 _ d1;have d4:=mx w4 _ d2;clear hb nS lY Ir Bh;go_wp2_with fail
 have sC:dR sr w.heap.size w4.heap.size (w4.heap.size+1) v d (.slice (some ⟨bl,ol,none⟩) levels.length k0) levels t.args left (zD r1) w (rdB d) 0
  (w4.alloc (.cells #[.string ⟨#[]⟩,.int .i64 v,.slice none 0 0,.pointer none,.pointer none] 79)):=by
  refine ⟨[],zD r1,left,.slice none 0 0,[],by simp [qC,ki],nW.alloc _,qT.alloc tK _,zG _ _,World.ownsRow_nil _ _ _ _,fun g h=>by simp [N7] at h,zC.2 rfl,KN.but ((But.refl (fun _=>False) _).alloc _) (fun i e=>e.elim),by simp⟩
 have hz4:w.heap.size+1+1<w4.heap.size:=s3;clear x1 x2 x3 d1 d2 d3 d4 KN tK nW hg4;generalize hZ:w4.heap.size+1=Z at sC;generalize hO:w4.heap.size=ob at *;have HZ:=mj hZ;clear hZ;have HO:=mj hO;clear hO
 go_loopw [93] (fun i wr=>∃ k:Nat,k<=t.args.length/\i=.int .i64 k/\dR sr w.heap.size ob Z v d (.slice (some ⟨bl,ol,none⟩) levels.length k0) levels t.args left (zD r1) w (rdB d) k wr)
  (fun i _=>t.args.length-(intOf i).toNat)
 case atStart=>exact ⟨0,Og _,rfl,sC⟩
 case round =>
  clear sC;rename_i wr;obtain ⟨k,hk,rfl,hrel⟩:=hrel;obtain ⟨bs,lk,leftk,slv,vs,hp,hb,BC,aZ,nM,hZb,tF,aF,KJ⟩:=hrel;have hple:=wi (fv d) _ hp;have L1:leftk<=1000:=by omega
  have tL:=xg r1;have Ey:Lim lk.length:=hr.mono (by have:=h1.le;omega);have hgk:yP wr:=hg.but hb (fun i e=>by subst e;exact hn);have IS:Rep F wr (.sl 32 1 levels.length (qg levels)) (.slice (some ⟨bl,ol,none⟩) levels.length k0):=Rep.but hb (fun b hb=>⟨HF.out b hb,hb⟩) sO;have hp':=mj hp;have Hf:=mj hZb;clear hp hZb hple;by_cases m_:k<t.args.length
  ·obtain ⟨ba,oa,uk,dk,esa,hFa,_,Mx,J4,rD⟩:=JE.out k m_;subst esa;rw [xj,N3] at Mx;obtain ⟨tk,An,rfl⟩:=Mx;obtain ⟨bk,sk,euk,hFk,ME,Iz⟩:=zi rD;subst euk;obtain ⟨ask,ksk,esk⟩:∃ a c,sk=.slice a tk.args.length c:=by obtain ⟨a,c,e,_⟩:=zP Iz;exact ⟨a,c,e⟩
   subst esk;have e1:wr.cell? ⟨ba,oa+k,none⟩=some (.pointer (some ⟨bk,0,none⟩)):=by rw [hb.cell (mx w _ J4) (HF.out ba hFa)];exact J4
   have e2:wr.cell? ⟨bk,0,none⟩=some (.slice ask tk.args.length ksk):=by
    have:w.cell? ⟨bk,0,none⟩=some (.slice ask tk.args.length ksk):=by simp [GD,ME]
    rw [hb.cell (mx w _ this) (HF.out bk hFk)];exact this
   have Lf:Rep F wr (.sl 32 1 tk.args.length (qg tk.args)) (.slice ask tk.args.length ksk):=Rep.but hb (fun b hb=>⟨HF.out b hb,hb⟩) Iz;have hhk:jP d (levels++tk.args):=hh.next HT.out (Oc An);have HTK:=mj An;clear An J4 ME rD Iz;obtain ⟨y1,y2,y3⟩:=id aF;go_wp2_with fail
   refine (fp d IH.out sr leftk levels tk.args lk _ _ F wr w.heap.size (w.heap.size+1) (w.heap.size+1+1) hgk hn BC L1 Ey hhk (by omega) IS Lf HF.out y1 y2 y3 (by omega) (by omega) (by omega)).mono ?_;rintro en w5 ⟨vb,r',left',rfl,nR,oQ,Aa,og⟩;clear y1 y2 y3 e1 e2;cases hq:jd (rdB d) (levels++tk.args) leftk lk with
   | none =>
     obtain rfl:=Aa hq;have HQ:=mj hq;clear hq Aa og;go_wp2_with fail
     go_ret;refine uC.no ?_ (hb.trans nR) oQ;rw [HM.out,hands_none (k+1) (by rw [mK HTK.out hp'.out,HQ.out];rfl)];rfl
   | some x =>
     obtain ⟨b,rest,nI⟩:=x;obtain ⟨rfl,rfl,Ce⟩:=og b rest nI hq;have HQ:=mj hq;clear hq Aa og;obtain ⟨ab,evb⟩:=za Ce;subst evb;have Do:xJ ob v slv (.pointer none) (.pointer none) w5:=(nR.block ob (zZ aZ) (by have:=HO.out;omega)).trans aZ;obtain ⟨q1,_,_,q4,q5⟩:=Do.cells;have q6:=q5 2;have lB:Own w5 33 1 slv k vs:=nM.keep fun g o sZ ho=>by rw [nR.block g (zZ ho) (by have:=Hf.out g sZ;have:=HZ.out;omega)];exact ho
     clear q5;go_wp2_with (at_builtin;refine zE rfl _ _ 77 rfl 33 (.pointer none) 1 8 Tryz.underlying77 Tryz.infoB rfl (by decide) slv k vs rfl ?c1 _ 1 [.pointer (some ⟨ab,0,none⟩)] rfl ?c2 ?c3 ?c4 ?_)
     case c1=>exact lB.keep fun g o sZ ho=>zU ho
     case c2=>exact zq.lit rfl
     case c3=>unfold maxLen;omega
     case c4=>omega
     intro a' c' w6 sh nJ sZ;have FZ:xJ ob v slv (.pointer none) (.pointer none) w6:=by
      unfold xJ;rw [nJ.block ob (by simp;omega) (fun e=>by have:=Hf.out ob e;have:=HZ.out;omega)];exact zU Do
     have n_:=dR.next HTK.out hp'.out hb aZ Hf.out nM tF aF KJ HQ.out nR oQ Ce sh nJ (fun g h=>(sZ g h).imp_right fun e=>e.trans (by simp)) lsr (my _) hz4 (by have:=HZ.out;omega);obtain ⟨p1,_,_,p4,p5⟩:=FZ.cells;have p6:=p5 2;have HG:=mj sZ;clear sZ p5;go_wp2_with fail
     go_roundw
     case rel=>exact ⟨k+1,by omega,by go_num,n_⟩
     case measure=>simp [intOf];omega
  ·obtain rfl:k=t.args.length:=by omega
   have hp:ki (rdB d) (qC levels t.args) left (zD r1)=some (bs,lk,leftk):=by have:=hp'.out;rwa [Oh] at this
   have HP:=mj hp;clear hp hp' m_ hk;have af:∀ W:World,Rep F W (.sl 32 1 ([]:List Ty).length (qg [])) (.slice none 0 0):=fun W=>zg.2 ⟨rfl,none,0,rfl,my _,fun _=>rfl,.inl rfl⟩;have hh0:=hh.same;have NI:=mj af;clear af;obtain ⟨y1,y2,y3⟩:=id aF;go_wp2_with fail
   refine (fp d IH.out sr leftk levels [] lk _ _ F wr w.heap.size (w.heap.size+1) (w.heap.size+1+1) hgk hn BC L1 Ey hh0 (by omega) IS (NI.out wr) HF.out y1 y2 y3 (by omega) (by omega) (by omega)).mono ?_;rw [Ov] at *;rintro en w5 ⟨vb,r',left',rfl,nR,oQ,Aa,og⟩;clear y1 y2 y3;have Do:xJ ob v slv (.pointer none) (.pointer none) w5:=(nR.block ob (zZ aZ) (by have:=HO.out;omega)).trans aZ;have MG:=aF.but nR (fun i e=>by subst e;omega);have tY:=hb.trans nR;have z5:=nR.size;have zr:=hb.size;obtain ⟨_,q2,_,q4,q5⟩:=Do.cells;have q6:=q5 3;clear q5;cases hq:jd (rdB d) levels leftk lk with
   | none =>
     obtain rfl:=Aa hq;have HQ:=mj hq;clear hq Aa og;go_wp2_with fail
     go_ret;refine uC.no ?_ (tY.setCell (p:=⟨ob,3,none⟩) (.inr (by simp;omega)) _) (r:=r') (left:=left') ?_
     ·rw [HM.out];simp only [HP.out,NX,Mm,HQ.out,Pf]
     ·unfold qT;rw [mp _ _ _ _ (by simp;omega)];exact oQ
   | some x =>
     obtain ⟨by1,rest1,aw⟩:=x;obtain ⟨rfl,rfl,Ce⟩:=og _ _ _ hq;have hle5:=wM (fv d) hq;have HQ:=mj hq;clear hq Aa og;obtain ⟨ab,evb⟩:=za Ce;subst evb;have IQ:=Do.put3 (u:=.pointer (some ⟨ab,0,none⟩));obtain ⟨WA,Ka⟩:=zzM (w5.setCell ⟨ob,3,none⟩ (.pointer (some ⟨ab,0,none⟩)));go_wp2_with fail
     rw [<- Ka] at IQ ⊢;have Cy:But (fun x=>x=sr) w WA:=by subst Ka;exact tY.setCell (p:=⟨ob,3,none⟩) (.inr (by simp;omega)) _
     have kA:∀ i x,w5.heap[i]? = some x->i≠ob->WA.heap[i]? = some x:=by
      intro i x hx hne;subst Ka;rw [mp _ _ _ _ (by simpa using hne)];exact hx
     have zA:WA.heap.size=w5.heap.size:=by subst Ka;simp [PL]
     have hsA:qT sr [.int .i64 (aw:Nat)] 194 r' WA:=kA _ _ oQ (by omega);have MF:eh w.heap.size sr (.slice (some ⟨bl,ol,none⟩) levels.length k0) (d+1) WA:=by
      subst Ka;exact MG.but (m:=fun i=>i=ob) ((But.refl (fun i=>i=ob) w5).setCell (p:=⟨ob,3,none⟩) (.inl rfl) _) (fun i e=>by subst e;omega)
     have hrsA:zW (fun b=>Z<=b/\slv.ownBlock≠some b) WA (jV bs) vs :=
      (Rep.keep fun i x hi hx=>⟨hi,kA i x (by rw [nR.block i (zZ hx) (by have:=HZ.out;omega)];exact hx) (by have:=HZ.out;omega)⟩).2 _ _ tF
     have LB:Own WA 33 1 slv t.args.length vs:=nM.keep fun g o sZ ho=>kA g o (by rw [nR.block g (zZ ho) (by have:=Hf.out g sZ;have:=HZ.out;omega)];exact ho) (by have:=Hf.out g sZ;have:=HZ.out;omega);have hv5A:Rep (wr.heap.size<=·) WA (k_ by1) (.pointer (some ⟨ab,0,none⟩)):=(Rep.keep fun i x hi hx=>⟨hi,kA i x hx (by have:=zZ aZ;have:=hi;omega)⟩).1 _ _ Ce;have hgA:yP WA:=hg.but Cy (fun i e=>by subst e;exact hn);have hlvA:Rep F WA (.sl 32 1 levels.length (qg levels)) (.slice (some ⟨bl,ol,none⟩) levels.length k0):=Rep.but Cy (fun b hb=>⟨HF.out b hb,hb⟩) sO;have KA:=mj kA;clear Ka kA q2 q4 q6 Do nR MG oQ tF Ce BC aF IS hgk;obtain ⟨y1,y2,y3⟩:=id MF;refine (fp d IH.out sr aw levels [] r' _ _ F WA w.heap.size (w.heap.size+1) (w.heap.size+1+1) hgA hn hsA (by omega) (Ey.mono (by omega)) (by rw [Ov];exact hh0) (by omega) hlvA (NI.out WA) HF.out y1 y2 y3 (by omega) (by omega) (by omega)).mono ?_;rw [Ov] at *;rintro en w6 ⟨vn,r6,KE,rfl,nJ,FR,ij,iI⟩;clear y1 y2 y3;have FZ:xJ ob v slv (.pointer (some ⟨ab,0,none⟩)) (.pointer none) w6:=(nJ.block ob (zZ IQ) (by have:=HO.out;omega)).trans IQ;have hbx6:=MF.but nJ (fun i e=>by subst e;omega);obtain ⟨x1,_,_⟩:=id hbx6;have J7:=Cy.trans nJ;have z6:=nJ.size;obtain ⟨_,_,q3,q4,q5⟩:=FZ.cells;have q6:=q5 4;clear q5;cases oe:jd (rdB d) levels aw r' with
     | none =>
       obtain rfl:=ij oe;have FE:=mj oe;clear oe ij iI;go_wp2_with fail
       go_ret;refine uC.no ?_ (J7.setCell (p:=⟨ob,4,none⟩) (.inr (by simp;omega)) _) (r:=r6) (left:=KE) ?_
       ·rw [HM.out];simp only [HP.out,NX,Mm,HQ.out,FE.out,Pf]
       ·unfold qT;rw [mp _ _ _ _ (by simp;omega)];exact FR
     | some x =>
       obtain ⟨bn,rest2,nI⟩:=x;obtain ⟨rfl,rfl,JO⟩:=iI _ _ _ oe;have hle6:=wM (fv d) oe;have FE:=mj oe;clear oe ij iI;obtain ⟨an,evn⟩:=za JO;subst evn;have LP:=FZ.put4 (u:=.pointer (some ⟨an,0,none⟩));have hbD:But (fun x=>x=sr) w (w6.setCell ⟨ob,4,none⟩ (.pointer (some ⟨an,0,none⟩))):=J7.setCell (p:=⟨ob,4,none⟩) (.inr (by simp;omega)) _;have hsD:qT sr [.int .i64 (nI:Nat)] 194 r6 (w6.setCell ⟨ob,4,none⟩ (.pointer (some ⟨an,0,none⟩))):=by
        unfold qT;rw [mp _ _ _ _ (by simp;omega)];exact FR
       go_wp2_with fail
       rcases kD [41] r6 with h7 | ⟨r7,h7⟩
       ·refine (ve hsD h7).mono ?_;rintro en w7 ⟨rfl,mo,DK⟩;go_wp2_with fail
        go_ret;refine uC.no ?_ (hbD.trans mo) DK;rw [HM.out];simp only [HP.out,NX,Mm,HQ.out,FE.out,h7.out,Pf]
       refine (jh hsD h7).mono ?_;rintro en w7 ⟨rfl,mo,DK⟩;go_wp2_with fail
       go_ret;refine uC.yes (b:=.ask v bs by1 bn) (r:=r7) (left:=nI) ?_ (hbD.trans mo) DK ?_
       ·rw [HM.out];simp only [HP.out,NX,Mm,HQ.out,FE.out,h7.out]
       ·have AB:∀ i x,w6.heap[i]? = some x->i≠ob->i≠sr->w7.heap[i]? = some x:=by
         intro i x hx hne JU;rw [mo.block i (by have:=zZ hx;simpa [PL] using this) JU,mp _ _ _ _ (by simpa using hne)];exact hx
        have keepA:∀ i x,WA.heap[i]? = some x->i≠ob->i≠sr->w7.heap[i]? = some x:=fun i x hx hne JU=>AB i x (by rw [nJ.block i (zZ hx) JU];exact hx) hne JU;have hnb7:xJ ob v slv (.pointer (some ⟨ab,0,none⟩)) (.pointer (some ⟨an,0,none⟩)) w7:=(mo.block ob (zZ LP) (by omega)).trans LP;have hZo:=HZ.out;have Fv:bs.length=t.args.length:=by
         have:=(wi (fv d) _ HP.out).2.2;simpa [qC] using this
        rw [k_,jv];refine ⟨ob,_,rfl,by omega,hnb7,?_⟩;refine zQ.2 ⟨_,_,rfl,zH.2 rfl,zQ.2 ⟨_,_,rfl,zH.2 rfl,zQ.2 ⟨_,_,rfl,?_,zQ.2 ⟨_,_,rfl,?_,zQ.2 ⟨_,_,rfl,?_,zC.2 rfl⟩⟩⟩⟩⟩
        ·rw [Fv];refine (LB.keep fun g o sZ ho=>keepA g o ho (by have:=Hf.out g sZ;omega) (by have:=Hf.out g sZ;omega)).rep (fun g sZ=>by have:=Hf.out g sZ;omega) ?_;exact (Rep.keep fun i x hi hx=>⟨by omega,keepA i x hx (by omega) (by omega)⟩).2 _ _ hrsA
        ·exact (Rep.keep fun i x hi hx=>⟨by have:=hi;omega,keepA i x hx (by have:=hi;omega) (by have:=hi;omega)⟩).1 _ _ hv5A
        ·exact (Rep.keep fun i x hi hx=>⟨by have:=hi;omega,AB i x hx (by have:=hi;omega) (by have:=hi;omega)⟩).1 _ _ JO
theorem body_step (d:Nat) (hd:d<=1000) (ih:∀ d',d=d'+1->gT d'):gT d:=by
 intro sr left levels l lv F w hg hn hs hl hr hh sO hF;have IH:=mj ih;clear ih;have HF:=mj hF;clear hF;have c1:=hs.cell1;have f1:=hs.free 1;have lsr:=ul hs;have lsr1:sr<w.heap.size+1:=by omega
 have lsr2:sr<w.heap.size+1+1:=by omega
 obtain ⟨a0,k0,elv⟩:∃ a k,lv=.slice a levels.length k:=by obtain ⟨a,k,e,_⟩:=zP sO;exact ⟨a,k,e⟩
 subst elv;rcases left with _ | left
 ·clear IH;go_enter RS,RH;go_wp2_with fail
  go_ret;refine uC.no (by unfold rdB;rfl) (((((But.refl _ _).setS 1 _).alloc _).alloc _).alloc _) (((hs.put1).alloc _).alloc _ |>.alloc _)
 by_cases Jg:∃ d' r1 v t,d=d'+1/\Cut [40] l r1/\lvl (zF r1) levels.length=some v/\levels[v]? = some t
 ·obtain ⟨d',r1,v,t,rfl,h1,h2,h3⟩:=Jg;exact body_ask d' hd (IH.out d' rfl) sr left levels l _ F w hg hn hs hl hr hh sO HF.out r1 v t h1 h2 h3
 have NT:=mj Jg;clear Jg IH;go_enter RS,RH;go_wp2_with fail
 obtain ⟨W0,nO⟩:=zzM (((((w.setCell ⟨sr,1,none⟩ (.int .i64 left)).alloc (.cells #[.pointer (some ⟨sr,0,none⟩)] 192)).alloc (.cells #[.slice a0 levels.length k0] 110)).alloc (.cells #[.int .i64 d] 3)));rw [<- nO];have nN:But (fun x=>x=sr) w W0:=by subst nO;exact ((((But.refl _ _).setS 1 _).alloc _).alloc _).alloc _
 have aT:qT sr [.int .i64 left] 194 l W0:=by subst nO;exact ((hs.put1).alloc _).alloc _ |>.alloc _
 have ir:eh w.heap.size sr (.slice a0 levels.length k0) d W0:=by subst nO;refine ⟨?_,?_,?_⟩ <;> go_simp
 have z0:W0.heap.size=w.heap.size+3:=by subst nO;simp
 have ne:=nN;clear nO c1 f1;have n1:w.heap.size≠sr:=by omega
 have n2:w.heap.size+1≠sr:=by omega
 have n3:w.heap.size+1+1≠sr:=by omega
 rcases kD [40] l with h1 | ⟨r1,h1⟩
 ·refine (ve aT h1).mono ?_;rintro en w1 ⟨rfl,mi,rz⟩;obtain ⟨x1,x2,x3⟩:=ir.but mi (fun i e=>by subst e;omega);go_wp2_with fail
  refine (wW _ _ _ _ _ rz hr).mono ?_;rintro en w2 ⟨rfl,me,t6⟩;have hb:=(nN.trans mi).trans me;have hm:rdB d levels (left+1) l=(if zF l=[116] then some (Bd.leaf 116,zD l,left) else if zF l=[102] then some (.leaf 102,zD l,left) else if zF l=[117] then some (.leaf 117,zD l,left) else none):=by
   unfold rdB;simp only [h1.out]
  have HM:=mj hm;clear hm;go_wp2_with fail
  ·have hw:zF l=[116]:=by assumption
   go_ret;exact ff (o:=rdB d levels (left+1) l) (x:=116) rfl (by rw [HM.out,if_pos hw]) hb t6
  ·have hw:zF l=[102]:=by assumption
   go_ret;exact ff (o:=rdB d levels (left+1) l) (x:=102) rfl (by rw [HM.out,if_neg (by rw [hw];decide),if_pos hw]) hb t6
  ·have hw:((!zF l == [116])=true/\(!zF l == [102])=true)/\(!zF l == [117])=true:=by assumption
   go_ret;simp only [Bool.not_eq_true',beq_eq_false_iff_ne] at hw;exact uC.no (by rw [HM.out,if_neg hw.1.1,if_neg hw.1.2,if_neg hw.2]) hb t6
  ·have hw:((!zF l == [116])=false\/(!zF l == [102])=false)\/(!zF l == [117])=false:=by assumption
   have Fi:¬ zF l=[116]:=by assumption
   have GC:¬ zF l=[102]:=by assumption
   have hw3:zF l=[117]:=by simpa [Fi,GC] using hw
   go_ret;exact ff (o:=rdB d levels (left+1) l) (x:=117) (by rw [hw3]) (by rw [HM.out,if_neg Fi,if_neg GC,if_pos hw3]) hb t6
 refine (jh aT h1).mono ?_;rintro en w1 ⟨rfl,mi,rz⟩;have l_:=ir.but mi (fun i e=>by subst e;omega);obtain ⟨x1,x2,x3⟩:=l_;go_wp2_with fail
 refine (wW _ _ _ _ _ rz (hr.mono h1.le)).mono ?_;rintro en w2 ⟨rfl,me,t6⟩;have sJ:=hr.mono h1.le;have hb:=(nN.trans mi).trans me;have lw:=(ir.but mi (fun i e=>by subst e;omega)).but me (fun i e=>by subst e;omega);clear x1 x2 x3;have Cr:=hg.but hb (fun i e=>by subst e;exact hn);have lU:=sJ.mono (show (zF r1).length<=r1.length by have:=yj r1;omega);have z2:=hb.size;have z2':w.heap.size+3<=w2.heap.size:=by have:=mi.size;have:=me.size;omega
 clear mi me aT nN ne ir rz;have HM:=mj (cI d levels left h1.out);go_wp2_with fail
 cases ie:lvl (zF r1) levels.length with
 | none =>
   have HN:rdB d levels (left+1) l=none:=by rw [HM.out,ie]
   rcases lvl_no ie with aA | ⟨v,nC,hv⟩
   ·refine (atoi_no _ _ lU Cr aA).mono ?_;rintro en w3 ⟨v,t,p,rfl,nZ⟩;have Ho:=mj HN;clear HN ie aA;go_wp2_with fail
    go_ret;exact uC.no Ho.out (hb.trans (But.ofBelow nZ)) ((nZ.block sr (by omega)).trans t6)
   ·refine (atoi_ok _ _ lU v nC).mono ?_;rintro en w3 ⟨rfl,nZ⟩;have Ho:=mj HN;clear HN ie;have Bh:=Cr.below nZ;have lY:=(nZ.block sr (by omega)).trans t6;have Ir:=lw.but (But.ofBelow (m:=fun _=>False) nZ) (fun i e=>e.elim);have Dm:=mj nC;clear nC;go_wp2_with fail
    refine (itoa_of Dm.out w3 Bh).mono ?_;rintro en w4 ⟨rfl,nS⟩;have z3:=nZ.size;have tK:=(nS.block sr (by omega)).trans lY;obtain ⟨x1,x2,x3⟩:=Ir.but (But.ofBelow (m:=fun _=>False) nS) (fun i e=>e.elim);have nW:=(hb.trans (But.ofBelow nZ)).trans (But.ofBelow nS);rcases hv with hv | ⟨hv,GE⟩ | ⟨hv,GE,hv3⟩
    ·have hq:(Pp v == zF r1)=false:=by rw [beq_eq_false_iff_ne];exact hv
     clear hv;go_wp2_with fail
     go_ret;exact uC.no Ho.out nW tK
    all_goals
     have hq:(Pp v == zF r1)=true:=by rw [beq_iff_eq];exact hv
     clear hv;go_wp2_with fail
     go_ret;exact uC.no Ho.out nW tK
 | some v =>
   obtain ⟨Cd,nC,Du⟩:=lvl_lt ie;have Mz:d=0:=by
    rcases Nat.eq_zero_or_pos d with h | h
    ·exact h
    ·exact absurd ⟨d-1,r1,v,levels[v],by omega,h1,ie,by simp [Cd]⟩ NT.out
   have HD:=mj Mz;clear Mz NT;refine (atoi_ok _ _ lU (v:Int) nC).mono ?_;rintro en w3 ⟨rfl,nZ⟩;have Bh:=Cr.below nZ;have lY:=(nZ.block sr (by omega)).trans t6;have Ir:=lw.but (But.ofBelow (m:=fun _=>False) nZ) (fun i e=>e.elim);have Dm:=mj nC;clear nC;have Dq:=mj ie;clear ie;have IZ:=mj Du;clear Du;go_wp2_with fail
   refine (itoa_of Dm.out w3 Bh).mono ?_;rintro en w4 ⟨rfl,nS⟩;have z3:=nZ.size;have z4:=nS.size;have tK:=(nS.block sr (by omega)).trans lY;have hg4:=Bh.below nS;have KN:=Ir.but (But.ofBelow (m:=fun _=>False) nS) (fun i e=>e.elim);obtain ⟨x1,x2,x3⟩:=KN;have nW:=(hb.trans (But.ofBelow nZ)).trans (But.ofBelow nS);have hq:(Pp (v:Int) == zF r1)=true:=by rw [beq_iff_eq];exact IZ.out
   have hlen:levels.length<=10000:=by have:=hh.2;omega
   clear hb nZ nS t6 lw Ir lY Cr Bh;have Ac:((d:Int) == 0)=true:=by rw [beq_iff_eq];have:=HD.out;omega
   go_wp2_with fail
   go_ret;exact uC.no (by rw [HM.out,Dq.out];have:=HD.out;subst this;rfl) nW tK
theorem body_any (d:Nat) (hd:d<=1000):gT d:=by
 induction d with
 | zero=>exact body_step 0 hd (fun d' h=>by omega)
 | succ d ih=>exact body_step (d+1) hd (fun d' h=>by obtain rfl:d=d':=by omega
                                                     exact ih (by omega))
def uA (t:Ty) (l:Bs):Option Bd:=match rdB 100 t.args 200 l with
 | some (b,[],_)=>some b
 | _=>none
def RPost {α:Type} (enc:α->DV) (w:World) (o:Option α) (en:Ending) (w':World):Prop :=
 ∃ v,en=.returned v/\Below w.heap.size w w'/\(o=none->v=.pointer none)/\(∀ b,o=some b->Rep (w.heap.size<=·) w' (enc b) v)
theorem dl {t:Ty} (h:zJ t<=15):jP 100 t.args:=by
 have h1:=qi t;have hlen:∀ ts:List Ty,ts.length<=zc ts:=by
  intro ts;induction ts with
  | nil=>simp
  | cons x xs ih=>simp [zc];omega
 have rL:∀ ts:List Ty,∀ a∈ts,1+zJ a<=zc ts:=by
  intro ts
  induction ts with
  | nil=>simp
  | cons x xs ih =>
    intro a ha;rcases Om.1 ha with rfl | ha
    ·simp [zc]
    ·have:=ih a ha;simp [zc];omega
 refine ⟨fun a ha=>?_,?_⟩
 ·have:=rL _ a ha;omega
 ·have:=hlen t.args;omega
theorem dy (F:Nat->Prop) (t:Ty) (l:Bs) (kv:Value) (w:World) (hg:yP w) (hk:Rep F w (jT t) kv) (ht:zJ t<=15) (hl:Lim l.length) :
 Calls KD 101 #[kv,str l] w (RPost k_ w (uA t l)):=by
 obtain ⟨bk,sk,rfl,hFk,hc,hs⟩:=zi hk;obtain ⟨a,c,e,_⟩:=zP hs;subst e;have c1:w.cell? ⟨bk,0,none⟩=some (.slice a t.args.length c):=by simp [GD,hc]
 have lk:=zZ hc;have HC:=mj hc;clear hc;go_enter Tryz.func101,Tryz.ntmps101;go_wp2_with fail
 have aT:qT w.heap.size [.int .i64 (200:Nat)] 194 l (w.alloc (.cells #[str l,.int .i64 200] 194)):=zG _ _
 have Dt:Rep (fun b=>b<w.heap.size) (w.alloc (.cells #[str l,.int .i64 200] 194)) (.sl 32 1 t.args.length (qg t.args)) (.slice a t.args.length c) :=
  (Rep.keep fun b o _ ho=>⟨zZ ho,zU ho⟩).1 _ _ hs
 refine (body_any 100 (by omega) w.heap.size 200 t.args l _ _ _ (hg.below ((mw _ _).alloc (my _) _)) (hg.new (my _)) aT (by omega) hl (dl ht) Dt (fun b hb=>by have:=hb;omega)).mono ?_;rintro en w1 ⟨v,r',left',rfl,mi,rz,nh,nf⟩;have hb:Below w.heap.size w w1:=((mw w.heap.size w).alloc (my _) _).trans (mi.toBelow (by simp) (fun i hi e=>by omega));have tU:=rz.cell;have hz:w.heap.size<w1.heap.size:=ul rz;cases hq:rdB 100 t.args 200 l with
 | none =>
   obtain rfl:=nh hq;have HQ:=mj hq;clear hq nh nf;go_wp2_with fail
   go_ret;exact ⟨_,rfl,hb,fun _=>rfl,fun b h=>by simp [uA,HQ.out] at h⟩
 | some x =>
   obtain ⟨b,rest,left⟩:=x;obtain ⟨rfl,_,hv⟩:=nf _ _ _ hq;have HQ:=mj hq;clear hq nh nf;obtain ⟨av,ev⟩:=za hv;subst ev;cases r' with
   | cons x xs =>
     have hne:(!(x::xs).isEmpty)=true:=rfl;go_wp2_with fail
     go_ret;exact ⟨_,rfl,hb,fun _=>rfl,fun b h=>by simp [uA,HQ.out] at h⟩
   | nil =>
     go_wp2_with fail
     go_ret;have HM:uA t l=some b:=by simp [uA,HQ.out]
     refine ⟨_,rfl,hb,fun h=>by simp [HM] at h,fun b' h=>?_⟩;rw [HM] at h;simp at h;subst h;exact (Rep.keep fun b o h ho=>⟨by have:=h;simp at this;omega,ho⟩).1 _ _ hv
def fO (s l:Bs):Option (Ty×Bd):=do
 let t<-yI s
 let b<-uA t l
 some (t,b)
def TSPost (w:World) (s l:Bs) (en:Ending) (w':World):Prop :=
 ∃ kv bv,en=.returned (.tuple #[kv,bv])/\Below w.heap.size w w'/\(fO s l=none->bv=.pointer none) /\
   (∀ t b,fO s l=some (t,b)->Rep (w.heap.size<=·) w' (jT t) kv/\Rep (w.heap.size<=·) w' (k_ b) bv)
theorem rdKind_le {s:Bs} {t:Ty} (h:yI s=some t):zJ t<=15:=by
 unfold yI at h;split at h
 ·split at h
  ·rename_i nX;simp at h;subst h;exact nX
  ·simp at h
 ·simp at h
theorem strategy_any (s l:Bs) (w:World) (hg:yP w) (hs:Lim s.length) (hl:Lim l.length) :
 Calls KD 61 #[str s,str l] w (TSPost w s l):=by
 go_enter Tryz.func61,Tryz.ntmps61;go_wp2_with fail
 refine (readKind_any s w hs).mono ?_;rintro en w1 ⟨kv,rfl,mi,nh,nf⟩;cases hq:yI s with
 | none =>
   obtain rfl:=nh hq;have HQ:=mj hq;clear hq nh nf;go_wp2_with fail
   go_ret2
   exact ⟨_,_,rfl,mi,fun _=>rfl,fun t b h=>by simp [fO,HQ.out] at h⟩
 | some t =>
   have hv:=nf _ hq;have ht:=rdKind_le hq;have HQ:=mj hq;clear hq nh nf;obtain ⟨ak,_,ek,_⟩:=zi hv;subst ek;go_wp2_with fail
   refine (dy _ t l _ w1 (hg.below mi) hv ht hl).mono ?_;rintro en w2 ⟨bv,rfl,me,aK,iO⟩;go_wp2_with fail
   go_ret2
   refine ⟨_,_,rfl,zzT mi me,fun h=>aK ?_,fun t' b h=>?_⟩
   ·cases hr:uA t l with
    | none=>rfl
    | some b=>simp [fO,HQ.out,hr] at h
   ·cases hr:uA t l with
    | none=>simp [fO,HQ.out,hr] at h
    | some b' =>
      simp [fO,HQ.out,hr] at h;obtain ⟨rfl,rfl⟩:=h;exact ⟨Rep.below me (fun _ h=>h) hv,(Rep.keep fun i o hi ho=>⟨by have:=mi.size;have:=hi;omega,ho⟩).1 _ _ (iO _ hr)⟩
theorem xv (ts:List Bd):∀ k:Nat,(jV ts)[k]? = ts[k]?.map k_:=by
 induction ts with
 | nil=>intro k;simp [jV]
 | cons t ts ih=>intro k;cases k <;> simp [jV,ih]
theorem oneCell_encBs {F:Nat->Prop} {w:World} (ts:List Bd):∀ us,zW F w (jV ts) us->∀ u∈us,u.oneCell'=true:=by
 induction ts with
 | nil=>intro us h;rw [jV,zC] at h;subst h;simp
 | cons t ts ih =>
   intro us h u hu;rw [jV,zQ] at h;obtain ⟨v,vs',rfl,h1,h2⟩:=h;rcases Om.1 hu with rfl | hu
   ·obtain ⟨a,rfl⟩:=za h1;rfl
   ·exact ih _ h2 u hu
theorem wI {F:Nat->Prop} {w:World} {c:UInt8} {v:Value} (h:Rep F w (k_ (.leaf c)) v) :
 ∃ b sl,v=.pointer (some ⟨b,0,none⟩)/\F b/\w.heap[b]? = some (.cells #[str [c],.int .i64 (0:Nat),sl,.pointer none,.pointer none] 79 (0,0))/\Rep F w (.sl 33 1 0 []) sl:=by
 rw [k_,jv] at h;obtain ⟨b,cs,hv,hb,hc,hr⟩:=h;simp only [zQ,zC,zH] at hr;obtain ⟨_,_,e1,rfl,_,_,rfl,rfl,sl,_,rfl,h3,_,_,rfl,rfl,_,_,rfl,rfl,rfl⟩:=hr;have:cs=#[str [c],.int .i64 (0:Nat),sl,.pointer none,.pointer none]:=by apply Sb;simpa using e1
 subst this;exact ⟨b,sl,hv,hb,hc,h3⟩
theorem yX {F:Nat->Prop} {w:World} {v:Nat} {ss:List Bd} {y n:Bd} {p:Value} (h:Rep F w (k_ (.ask v ss y n)) p) :
 ∃ b sl yv nv,p=.pointer (some ⟨b,0,none⟩)/\F b/\w.heap[b]? = some (.cells #[str [],.int .i64 v,sl,yv,nv] 79 (0,0)) /\
   Rep F w (.sl 33 1 ss.length (jV ss)) sl/\Rep F w (k_ y) yv/\Rep F w (k_ n) nv:=by
 rw [k_,jv] at h;obtain ⟨b,cs,hv,hb,hc,hr⟩:=h;simp only [zQ,zC,zH] at hr;obtain ⟨_,_,e1,rfl,_,_,rfl,rfl,sl,_,rfl,h3,yv,_,rfl,h4,nv,_,rfl,h5,rfl⟩:=hr;have:cs=#[str [],.int .i64 v,sl,yv,nv]:=by apply Sb;simpa using e1
 subst this;exact ⟨b,sl,yv,nv,hv,hb,hc,h3,h4,h5⟩
theorem y_ (F:Nat->Prop) (w:World) (c:UInt8) (v:Value) (h:Rep F w (k_ (.leaf c)) v) :
 Calls KD 32 #[v] w fun en w'=>en=.returned (.bool false)/\w'=w:=by
 obtain ⟨b,sl,rfl,_,hc,_⟩:=wI h;have c1:w.cell? ⟨b,0,none⟩=some (.string ⟨#[c]⟩):=by simp [GD,hc]
 clear hc h;go_enter Tt,SL;go_wp2_with fail
 go_ret;exact ⟨rfl,rfl⟩
theorem xq (F:Nat->Prop) (w:World) (v:Nat) (ss:List Bd) (y n:Bd) (p:Value) (h:Rep F w (k_ (.ask v ss y n)) p) :
 Calls KD 32 #[p] w fun en w'=>en=.returned (.bool true)/\w'=w:=by
 obtain ⟨b,sl,yv,nv,rfl,_,hc,_⟩:=yX h;have c1:w.cell? ⟨b,0,none⟩=some (.string ⟨#[]⟩):=by simp [GD,hc]
 clear hc h;go_enter Tt,SL;go_wp2_with fail
 go_ret;exact ⟨rfl,rfl⟩
mutual
def ke:Ty->DV
 | .mk ts=>.sl 42 1 ts.length (qA ts)
def qA:List Ty->List DV
 | []=>[]
 | t::ts=>ke t::qA ts
end
def uV (L:Nat) (w:World) (o:Option (Ty×Bs)) (en:Ending) (w':World):Prop :=
 ∃ (v:Value) (k:Int) (t:Ty),en=.returned (.tuple #[.agg #[v],.int .i64 k])/\Below w.heap.size w w'/\Rep (w.heap.size<=·) w' (ke t) v/\(o=none->k = -1/\t=.mk [])/\(∀ t' rest,o=some (t',rest)->k=(L:Int)-rest.length/\t=t')
theorem Tryz.infoS:(KD.info? 42).map (fun i=>(i.zero,i.size,i.bytes))=some (some (.agg #[.slice none 0 0]),1,24):=by kernel_rfl
theorem v_ (ts:List Ty):∀ k:Nat,(qA ts)[k]? = ts[k]?.map ke:=by
 induction ts with
 | nil=>intro k;simp [qA]
 | cons t ts ih=>intro k;cases k <;> simp [qA,ih]
theorem dU (a b:List Ty):qA (a++b)=qA a++qA b:=by
 induction a with
 | nil=>rfl
 | cons t ts ih=>simp [qA,ih]
theorem q_ (t:Ty):ke t=.sl 42 1 t.args.length (qA t.args):=by cases t;rw [ke];rfl
theorem kU {F:Nat->Prop} {w:World} {t:Ty} {v:Value} (h:Rep F w (ke t) v):∃ a c,v=.slice a t.args.length c:=by
 rw [q_] at h;obtain ⟨a,c,e,_⟩:=zP h;exact ⟨a,c,e⟩
theorem uR {F:Nat->Prop} {w:World} (ts:List Ty):∀ us,zW F w (qA ts) us->∀ u∈us,u.oneCell'=true:=by
 induction ts with
 | nil=>intro us h;rw [qA,zC] at h;subst h;simp
 | cons t ts ih =>
   intro us h u hu;rw [qA,zQ] at h;obtain ⟨v,vs',rfl,h1,h2⟩:=h;rcases Om.1 hu with rfl | hu
   ·obtain ⟨a,c,rfl⟩:=kU h1;rfl
   ·exact ih _ h2 u hu
theorem d6 (F:Nat->Prop) (w:World):Rep F w (ke (.mk [])) (.slice none 0 0):=by
 rw [q_];exact zg.2 ⟨rfl,none,0,rfl,my _,fun _=>rfl,.inl rfl⟩
theorem uV.no {L:Nat} {w w':World} {o:Option (Ty×Bs)} (ho:o=none) (hb:Below w.heap.size w w') :
 uV L w o (.returned (.tuple #[.agg #[.slice none 0 0],.int .i64 (-1)])) w' :=
 ⟨_,_,.mk [],rfl,hb,d6 _ _,fun _=>⟨rfl,rfl⟩,fun _ _ h=>by rw [ho] at h;simp at h⟩
theorem uV.yes {L:Nat} {w w':World} {o:Option (Ty×Bs)} {t:Ty} {rest:Bs} {v:Value} {k:Int} (ho:o=some (t,rest)) (hk:k=(L:Int)-rest.length) (hb:Below w.heap.size w w') (hv:Rep (w.heap.size<=·) w' (ke t) v) :
 uV L w o (.returned (.tuple #[.agg #[v],.int .i64 k])) w' :=
 ⟨_,_,t,rfl,hb,hv,fun h=>by rw [ho] at h;simp at h,fun _ _ h=>by rw [ho] at h;simp at h;obtain ⟨rfl,rfl⟩:=h;exact ⟨hk,rfl⟩⟩
def mL (l:Bs) (d:Nat):Prop:=∀ (i:Nat) (w:World),i<=l.length->d<=21 ->
    Calls KD 72 #[str l,.int .i64 i,.int .i64 d] w (uV l.length w (rdS (21-d) (l.drop i)))
theorem eT (l:Bs) (hl:Lim l.length) (d:Nat) (ih:d<=20->mL l (d+1)):mL l d:=by
 intro i w hi hd;have iU:=hl.le;have IH:=mj ih;clear ih;by_cases F7:d<=20;rotate_left
 ·have h0:Hid (21-d=0):=by show 21-d=0;omega
  go_enter Qe,P8;go_wp2_with fail
  refine bodyPost_ret (v:=.tuple #[.agg #[.slice none 0 0],.int .i64 (-1)]) (by simp [results,OR,go_sem]) rfl ?_;exact uV.no (by rw [h0.out];rfl) ((mw _ _).alloc (my _) _)
 obtain ⟨n,hn⟩:∃ n,21-d=n+1:=⟨20-d,by omega⟩;have IH':=mj (IH.out F7);clear IH;have HN:=mj hn;have Ho:Hid (21-(d+1)=n):=by show 21-(d+1)=n;omega
 clear hn;by_cases m_:i<l.length;rotate_left
 ·go_enter Qe,P8;go_wp2_with fail
  refine bodyPost_ret (v:=.tuple #[.agg #[.slice none 0 0],.int .i64 (-1)]) (by simp [results,OR,go_sem]) rfl ?_;exact uV.no (by rw [HN.out,rdS_no (bQ (by omega)),bQ (by omega)];rfl) ((mw _ _).alloc (my _) _)
 by_cases hb:l[i]=98
 ·have f1:=xy m_ (n:=98) (by decide) hb;have hc:Cut [98] (l.drop i) (l.drop (i+1)):=by unfold Cut;rw [yw m_,if_pos hb]
  clear hb;go_enter Qe,P8;go_wp2_with fail
  refine bodyPost_ret (v:=.tuple #[.agg #[.slice none 0 0],.int .i64 ((i:Int)+1)]) (by simp [results,OR,go_sem]) rfl ?_;exact uV.yes (t:=.mk []) (by rw [HN.out,rdS_b hc]) (by simp;omega) ((mw _ _).alloc (my _) _) (d6 _ _)
 have f1:=uW m_ (n:=98) (by decide) hb;have hc:gS [98] (l.drop i):=by unfold gS;rw [yw m_,if_neg hb]
 have HM:=mj (rdS_no (n:=n) hc);clear hb hc;by_cases h3:i+3<=l.length;rotate_left
 ·have h3':(l.length:Int)<(i:Int)+3:=by omega
  have tf:Hid (cut [40,62,32] (l.drop i)=none):=by
   show cut [40,62,32] (l.drop i)=none;cases hq:cut [40,62,32] (l.drop i) with
   | none=>rfl
   | some r=>have:=(cut_drop hq).2;simp at this;omega
  go_enter Qe,P8;go_wp2_with fail
  refine bodyPost_ret (v:=.tuple #[.agg #[.slice none 0 0],.int .i64 (-1)]) (by simp [results,OR,go_sem]) rfl ?_;exact uV.no (by rw [HN.out,HM.out,tf.out];rfl) ((mw _ _).alloc (my _) _)
 have h3':(i:Int)+3<=(l.length:Int):=by omega
 have hx:(l.take (i+3)).drop i=(l.drop i).take 3:=by rw [List.drop_take];congr 1;omega
 rcases kD [40,62,32] (l.drop i) with h4 | ⟨r1,h4⟩
 ·have f2:(((⟨l.toArray⟩:ByteArray).extract i (i+3)).toList == [40,62,32])=false:=by
   rw [ext_list,hx,beq_eq_false_iff_ne];intro e;have h5:=h4.out;have hp:[40,62,32].isPrefixOf (l.drop i)=true:=by rw [OT,<- e];exact List.take_prefix _ _
   unfold cut at h5;rw [if_pos hp] at h5;simp at h5
  clear hx;go_enter Qe,P8;go_wp2_with fail
  refine bodyPost_ret (v:=.tuple #[.agg #[.slice none 0 0],.int .i64 (-1)]) (by simp [results,OR,go_sem]) rfl ?_;exact uV.no (by rw [HN.out,HM.out,h4.out];rfl) ((mw _ _).alloc (my _) _)
 have f2:(((⟨l.toArray⟩:ByteArray).extract i (i+3)).toList == [40,62,32])=true:=by
  rw [ext_list,hx,beq_iff_eq];have h5:=h4.out;unfold cut at h5;split at h5
  ·rename_i hp;exact (List.prefix_iff_eq_take.1 (OT.1 hp)).symm
  ·simp at h5
 have sJ:=(cut_drop h4.out).1;have FU:r1=l.drop (i+3):=sJ;subst FU;clear hx sJ;go_enter Qe,P8;go_wp2_with fail
 rw [show (i:Int)+3=((i+3:Nat):Int) from by omega,show (d:Int)+1=((d+1:Nat):Int) from by omega];refine (IH'.out (i+3) _ h3 (by omega)).mono ?_;rintro en w1 ⟨v1,k1,t1,rfl,mi,iz,nh,nf⟩;rw [Ho.out] at nh nf;have tY:Below w.heap.size w w1:=((mw w.heap.size w).alloc (my _) _).trans (mi.mono (by simp));have z1:=mi.size;have ln:w.heap.size<w1.heap.size:=by simp at z1;omega
 have rI:w1.cell? ⟨w.heap.size,0,none⟩=some (.slice none 0 0):=by rw [mi.cell (by simp)];simp
 have lM:w1.frozen? ⟨w.heap.size,0,none⟩=false:=by rw [mi.frozen (by simp)];simp
 obtain ⟨a1,c1,e1⟩:=kU iz;subst e1;cases hq:rdS n (l.drop (i+3)) with
 | none =>
   obtain ⟨rfl,rfl⟩:=nh hq;have HQ:=mj hq;clear hq nh nf;go_wp2_with fail
   refine bodyPost_ret (v:=.tuple #[.agg #[.slice none 0 0],.int .i64 (-1)]) (by simp [results,OR,go_sem,ln,vG rI]) rfl ?_;exact uV.no (by rw [HN.out,HM.out,h4.out];simp [HQ.out]) (by repeat (first | exact tY | refine Below.alloc ?_ (by simp;omega) _ | refine Below.setCell ?_ (by simp) _ | refine Below.drew ?_))
 | some x =>
   obtain ⟨ta,r2⟩:=x;obtain ⟨rfl,rfl⟩:=nf _ _ hq;have oS:=yr (fq hq);have sS:=(rdS_le hq).1;have HQ:=mj hq;clear hq nh nf;obtain ⟨e,he⟩:=zzM (l.length-r2.length);have oX:e<=l.length:=by omega
   have hr2l:r2.length<=l.length:=by simp at sS;omega
   have hk:(l.length:Int)-(r2.length:Int)=(e:Int):=by omega
   rw [<- he] at oS;rw [hk];have HSF:=mj oS;clear hk oS sS;by_cases Mv:e<l.length;rotate_left
   ·have Cv:Hid (cut [32] r2=none):=by show cut [32] r2=none;rw [HSF.out];exact bQ (by omega)
    have HE:=mj he;clear he;go_wp2_with fail
    refine bodyPost_ret (v:=.tuple #[.agg #[.slice none 0 0],.int .i64 (-1)]) (by simp [results,OR,go_sem,ln,vG rI]) rfl ?_;exact uV.no (by rw [HN.out,HM.out,h4.out];simp [HQ.out,Cv.out]) (by repeat (first | exact tY | refine Below.alloc ?_ (by simp;omega) _ | refine Below.setCell ?_ (by simp) _ | refine Below.drew ?_))
   have HE:=mj he;clear he;by_cases nR:l[e]=32;rotate_left
   ·have f5:=vH Mv (n:=32) (by decide) nR;have Cv:Hid (cut [32] r2=none):=by show cut [32] r2=none;rw [HSF.out,yw Mv,if_neg nR]
    clear nR;go_wp2_with fail
    refine bodyPost_ret (v:=.tuple #[.agg #[.slice none 0 0],.int .i64 (-1)]) (by simp [results,OR,go_sem,ln,vG rI]) rfl ?_;exact uV.no (by rw [HN.out,HM.out,h4.out];simp [HQ.out,Cv.out]) (by repeat (first | exact tY | refine Below.alloc ?_ (by simp;omega) _ | refine Below.setCell ?_ (by simp) _ | refine Below.drew ?_))
   have f5:=vf Mv (n:=32) (by decide) nR;have g1:decide ((e:Int)<0)=false:=by rw [decide_eq_false_iff_not];omega
   have g2:decide (l.length<=e)=false:=by rw [decide_eq_false_iff_not];omega
   have Cv:Hid (cut [32] r2=some (l.drop (e+1))):=by show cut [32] r2=_;rw [HSF.out,yw Mv,if_pos nR]
   clear nR;go_wp2_with fail
   rw [show (e:Int)+1=((e+1:Nat):Int) from by omega,show (d:Int)+1=((d+1:Nat):Int) from by omega];refine (IH'.out (e+1) _ Mv (by omega)).mono ?_;rintro en w2 ⟨v2,k2,t2,rfl,me,GE,aK,iO⟩;rw [Ho.out] at aK iO;obtain ⟨a2,c2,e2⟩:=kU GE;subst e2;have z2:=me.size;rw [zK] at z2;have Cy:Below w.heap.size w w2:=(tY.alloc tY.size _).trans (me.mono (by rw [zK];omega));have sI:w.heap.size<w2.heap.size:=by omega
   have im:w1.heap.size<w2.heap.size:=by omega
   have iC:w2.cell? ⟨w.heap.size,0,none⟩=some (.slice none 0 0):=by rw [me.cell (by simp;omega)];exact zV rI
   have ED:w2.frozen? ⟨w.heap.size,0,none⟩=false:=by rw [me.frozen (by simp;omega)];rw [OS (w:=w1) (Below.heap_alloc _ _ _ ln)];exact lM
   have hcellA:w2.cell? ⟨w1.heap.size,0,none⟩=some (.slice a1 t1.args.length c1):=by rw [me.cell (by simp)];simp
   have Dg:Rep (w1.heap.size<=·) w2 (ke t1) (.slice a1 t1.args.length c1)\/True:=.inr trivial;clear Dg rI lM;cases hq:rdS n (l.drop (e+1)) with
   | none =>
     obtain ⟨rfl,rfl⟩:=aK hq;have FE:=mj hq;clear hq aK iO;go_wp2_with fail
     refine bodyPost_ret (v:=.tuple #[.agg #[.slice none 0 0],.int .i64 (-1)]) (by simp [results,OR,go_sem,sI,vG iC]) rfl ?_;exact uV.no (by rw [HN.out,HM.out,h4.out];simp [HQ.out,Cv.out,FE.out]) (by repeat (first | exact Cy | refine Below.alloc ?_ (by simp;omega) _ | refine Below.setCell ?_ (by simp) _ | refine Below.drew ?_))
   | some x =>
     obtain ⟨tb,r4⟩:=x;obtain ⟨rfl,rfl⟩:=iO _ _ hq;have oS:=yr (fq hq);have Dk:=rdS_le hq;have FE:=mj hq;clear hq aK iO;obtain ⟨e2,he⟩:=zzM (l.length-r4.length);have oX:e2<=l.length:=by omega
     have hr2l:r4.length<=l.length:=by simp at Dk;omega
     have hk:(l.length:Int)-(r4.length:Int)=(e2:Int):=by omega
     have GF:t2.args.length<=16777216:=by simp at Dk;omega
     rw [<- he] at oS;rw [hk];have Jw:=mj oS;clear hk oS Dk;have DH:=mj he;clear he;by_cases F6:e2<l.length;rotate_left
     ·have Cu:Hid (cut [41] r4=none):=by show cut [41] r4=none;rw [Jw.out];exact bQ (by omega)
      go_wp2_with fail
      refine bodyPost_ret (v:=.tuple #[.agg #[.slice none 0 0],.int .i64 (-1)]) (by simp [results,OR,go_sem,sI,vG iC]) rfl ?_;exact uV.no (by rw [HN.out,HM.out,h4.out];simp [HQ.out,Cv.out,FE.out,Cu.out]) (by repeat (first | exact Cy | refine Below.alloc ?_ (by simp;omega) _ | refine Below.setCell ?_ (by simp) _ | refine Below.drew ?_))
     by_cases nJ:l[e2]=41;rotate_left
     ·have f6:=vH F6 (n:=41) (by decide) nJ;have Cu:Hid (cut [41] r4=none):=by show cut [41] r4=none;rw [Jw.out,yw F6,if_neg nJ]
      clear nJ;go_wp2_with fail
      refine bodyPost_ret (v:=.tuple #[.agg #[.slice none 0 0],.int .i64 (-1)]) (by simp [results,OR,go_sem,sI,vG iC]) rfl ?_;exact uV.no (by rw [HN.out,HM.out,h4.out];simp [HQ.out,Cv.out,FE.out,Cu.out]) (by repeat (first | exact Cy | refine Below.alloc ?_ (by simp;omega) _ | refine Below.setCell ?_ (by simp) _ | refine Below.drew ?_))
     have f6:=vf F6 (n:=41) (by decide) nJ;have g3:decide ((e2:Int)<0)=false:=by rw [decide_eq_false_iff_not];omega
     have g4:decide (l.length<=e2)=false:=by rw [decide_eq_false_iff_not];omega
     have Cu:Hid (cut [41] r4=some (l.drop (e2+1))):=by show cut [41] r4=_;rw [Jw.out,yw F6,if_pos nJ]
     clear nJ;rw [q_] at GE;obtain ⟨xs,Al,rO⟩:=zq.ofRep GE (uR _);go_wp2_with (at_builtin;refine zE rfl _ _ 40 rfl 42 (.agg #[.slice none 0 0]) 1 24 Ql Tryz.infoS rfl (by decide) _ 1 [.slice a1 t1.args.length c1] rfl ?c1 _ t2.args.length xs rfl ?c2 ?c3 ?c4 ?_)
     case c1=>exact Own.litAt #[.slice a1 t1.args.length c1] 1 _ (by simp) (by decide) rfl
     case c2=>exact rO.keep fun _ _ h=>zV (zV h)
     case c3=>unfold maxLen;omega
     case c4=>omega
     intro a' c' w3 ho nZ Bh;have nV:Below w2.heap.size w2 ((w2.alloc (.cells #[.slice a2 t2.args.length c2] 42)).alloc (.cells #[.slice a1 t1.args.length c1] 42)):=((mw _ _).alloc (my _) _).alloc (by simp) _;have il:Below w2.heap.size w2 w3:=nV.trans (nZ.toBelow (by simp;omega) (fun i hi e=>by simp [N7] at e;omega));have J7:Below w.heap.size w w3:=Cy.trans (il.mono (by omega));have I7:w3.cell? ⟨w.heap.size,0,none⟩=some (.slice none 0 0):=by rw [il.cell sI];exact iC
     have hfree3:w3.frozen? ⟨w.heap.size,0,none⟩=false:=by rw [il.frozen sI];exact ED
     have hv1W:Rep (w.heap.size<=·) w3 (ke t1) (.slice a1 t1.args.length c1):=by
      refine (Rep.keep fun b o h ho=>⟨by have:=xA h;omega,?_⟩).1 _ _ iz;rw [il.block b (by have:=zZ ho;omega),me.block b (by have:=zZ ho;simp;omega)];exact zU ho
     have hxsW:zW (w.heap.size<=·) w3 (qA t2.args) xs :=
      (Rep.keep fun b o h ho=>⟨by have:=xA h;omega,by rw [il.block b (zZ ho)];exact ho⟩).2 _ _ Al
     have nM:∀ g,(Nq a' (1+t2.args.length) c').ownBlock=some g->w.heap.size<=g:=by
      intro g h;rcases Bh g h with h | h
      ·simp [N7] at h;omega
      ·have:=il.size;omega
     have HG:=mj nM;have HG3:=mj Bh;clear Bh nM;go_wp2_with fail
     refine bodyPost_ret (v:=.tuple #[.agg #[.slice a' (1+t2.args.length) c'],.int .i64 ((e2:Int)+1)]) (by simp [results,OR,go_sem,vG I7]) rfl ?_;refine uV.yes (t:=z_ t1 t2) (rest:=l.drop (e2+1)) (by rw [HN.out,HM.out,h4.out];simp [HQ.out,Cv.out,FE.out,Cu.out]) (by simp;omega) (J7.setCell (my _) _) ?_;refine (Rep.keep (w:=w3) (F:=fun b=>w.heap.size<=b/\b≠w.heap.size) fun b o h ho=>⟨h.1,?_⟩).1 _ _ ?_
     ·rw [mp _ _ _ _ (by simpa using h.2)];exact ho
     rw [q_,show (z_ t1 t2).args.length=1+t2.args.length from by simp [z_,Ty.args,Nat.add_comm]];refine ho.rep (fun g h=>⟨HG.out g h,?_⟩) ?_
     ·rcases HG3.out g h with h | h
      ·simp [N7] at h;omega
      ·have:=il.size;omega
     ·show zW _ _ (ke t1::qA t2.args) _;refine zQ.2 ⟨_,_,rfl,?_,?_⟩
      ·refine (Rep.keep fun b o h ho=>⟨⟨by have:=xA h;omega,by have:=xA h;omega⟩,?_⟩).1 _ _ iz;rw [il.block b (by have:=zZ ho;omega),me.block b (by have:=zZ ho;simp;omega)];exact zU ho
      ·exact (Rep.keep fun b o h ho=>⟨⟨by have:=xA h;omega,by have:=xA h;omega⟩,by rw [il.block b (zZ ho)];exact ho⟩).2 _ _ Al
theorem l1Read_any (l:Bs) (hl:Lim l.length) (n:Nat):∀ d,21-d=n->mL l d:=by
 induction n with
 | zero=>exact fun d h=>eT l hl d (fun h'=>by omega)
 | succ n ih=>exact fun d h=>eT l hl d (fun h'=>ih (d+1) (by omega))
def eY (t:Ty):Prop:=∀ (F:Nat->Prop) (w:World) (v:Value),Rep F w (ke t) v ->
 Calls KD 71 #[.agg #[v]] w fun en w'=>en=.returned (.int .i64 (zJ t))/\Below w.heap.size w w'
theorem qB (ts:List Ty):ts.length<=zc ts:=by
 induction ts with
 | nil=>simp
 | cons t ts ih=>simp [zc];omega
theorem l1Size_step (t:Ty) (hl:Lim (zJ t)) (ih:∀ t',zJ t'<zJ t->eY t'):eY t:=by
 intro F w v hv;obtain ⟨a,cap,e⟩:=kU hv;subst e;have hv':=hv;rw [q_] at hv';obtain ⟨_,_,e,_,hlen,ml⟩:=zP hv';simp only [Value.slice.injEq] at e;obtain ⟨rfl,_,rfl⟩:=e;have IH:=mj ih;clear ih;have iU:=hl.le;have E1:=mj (qi t);have hlb:t.args.length<=16777216:=by have:=qB t.args;have:=E1.out;omega
 have AT:=mj ml;clear ml hlen hv';go_enter Tryz.func71,Tryz.ntmps71;go_wp2_with fail
 go_loopw [3,4] (fun n i wr=>∃ k:Nat,k<=t.args.length/\i=.int .i64 k/\n=.int .i64 ((1+zc (t.args.take k):Nat):Int)/\Below w.heap.size w wr/\wr.cell? ⟨w.heap.size,0,none⟩=some (.slice a t.args.length cap)) (fun _ i _=>t.args.length-(intOf i).toNat)
 case atStart=>exact ⟨0,Og _,rfl,by simp [zc],(mw _ _).alloc (my _) _,by simp⟩
 case round =>
  rename_i wr;obtain ⟨k,hk,rfl,rfl,hb,hc⟩:=hrel;by_cases m_:k<t.args.length
  ·obtain ⟨b',o,u,d,rfl,_,nW,hd,hu,hr⟩:=AT.out k m_;rw [v_,N3] at hd;obtain ⟨t',tE,rfl⟩:=hd;obtain ⟨ua,uc,rfl⟩:=kU hr;have hu':wr.cell? ⟨b',o+k,none⟩=some (.slice ua t'.args.length uc):=by rw [hb.cell nW];exact hu
   have aH:=Rep.below (F':=F) hb (fun _ h=>h) hr;have hs:=xE tE;have rL:=uO t.args (k+1);have aS:=E1.out;have IH':=mj (IH.out t' (by omega));have HS:=mj hs;have b1:1+zc (t.args.take k)+(1+zJ t')<=16777216:=by omega
   have hz:=mx wr _ hc;clear hs tE aS hu hr;go_wp2_with fail
   refine (IH'.out _ _ _ aH).mono ?_;rintro en w2 ⟨rfl,me⟩;have nZ:=zzT hb me;have tf:w2.cell? ⟨w.heap.size,0,none⟩=some (.slice (some ⟨b',o,none⟩) t.args.length cap):=by rw [me.cell hz];exact hc
   go_wp2_with fail
   go_roundw
   case rel=>exact ⟨k+1,by omega,by go_num,by rw [HS.out] <;> go_num,nZ,tf⟩
   case measure=>simp [intOf];omega
  ·obtain rfl:k=t.args.length:=by omega
   go_wp2_with fail
   go_ret;exact ⟨un (by rw [E1.out,Oh]),hb⟩
theorem fi (n:Nat):∀ t,zJ t<=n->Lim n->eY t:=by
 induction n with
 | zero=>intro t h _;have:=kg t;omega
 | succ n ih=>exact fun t h hn=>l1Size_step t (hn.mono h) (fun t' h'=>ih t' (by omega) (hn.mono (by omega)))
def zI (l:Bs):Ty×Bool :=
 if 100<l.length then (.mk [],false) else
 match rdS 21 l with
 | none=>(.mk [],false)
 | some (t,rest)=>(t,rest.isEmpty && decide (zJ t<=15))
def TypePost (l:Bs) (w:World) (en:Ending) (w':World):Prop :=
 ∃ v,en=.returned (.tuple #[.agg #[v],.bool (zI l).2])/\Below w.heap.size w w'/\Rep (w.heap.size<=·) w' (ke (zI l).1) v
theorem xO (l:Bs) (hl:Lim l.length) (w:World):Calls KD 40 #[str l] w (TypePost l w):=by
 have iU:=hl.le;by_cases i1:100<l.length
 ·have Ni:(100:Int)<(l.length:Int):=by omega
  have HM:zI l=(.mk [],false):=by unfold zI;rw [if_pos i1]
  have HM:=mj HM;go_enter Tu,SM;go_wp2_with fail
  refine bodyPost_ret (v:=.tuple #[.agg #[.slice none 0 0],.bool false]) (by simp [results,QE,go_sem]) rfl ?_;refine ⟨_,by rw [HM.out],(mw _ _).alloc (my _) _,?_⟩;rw [HM.out];exact d6 _ _
 have Ni:¬ (100:Int)<(l.length:Int):=by omega
 have HM:zI l=(match rdS 21 l with
  | none=>(.mk [],false)
  | some (t,rest)=>(t,rest.isEmpty && decide (zJ t<=15))):=by unfold zI;rw [if_neg i1]
 have HM:=mj HM;go_enter Tu,SM;go_wp2_with fail
 refine (l1Read_any l hl 21 0 rfl 0 _ (Og _) (by omega)).mono ?_;rintro en w1 ⟨v1,k1,t1,rfl,mi,iz,nh,nf⟩;rw [show (21-0:Nat)=21 from rfl,Sr] at nh nf;obtain ⟨a1,c1,e1⟩:=kU iz;subst e1;have z1:=mi.size;rw [zK] at z1;have ln:w.heap.size<w1.heap.size:=by omega
 have tY:Below w.heap.size w w1:=((mw w.heap.size w).alloc (my _) _).trans (mi.mono (by simp));have rI:w1.cell? ⟨w.heap.size,0,none⟩=some (.slice none 0 0):=by rw [mi.cell (by simp)];simp
 have lM:w1.frozen? ⟨w.heap.size,0,none⟩=false:=by rw [mi.frozen (by simp)];simp
 cases hq:rdS 21 l with
 | none =>
   obtain ⟨rfl,rfl⟩:=nh hq;have HQ:=mj hq;clear hq nh nf;have g1:((-1:Int) == (l.length:Int))=false:=by rw [beq_eq_false_iff_ne];omega
   go_wp2_with fail
   go_region
   go_wp2_with fail
   refine bodyPost_ret (v:=.tuple #[.agg #[.slice a1 0 c1],.bool false]) (by simp [results,QE,go_sem,ln,vG rI,Ty.args]) rfl ?_;refine ⟨_,by rw [HM.out,HQ.out],(by repeat (first | exact tY | refine Below.alloc ?_ (by simp;omega) _ | refine Below.setCell ?_ (by simp) _ | refine Below.drew ?_)),?_⟩;rw [HM.out,HQ.out];rw [q_];refine zg.2 ⟨rfl,a1,c1,rfl,Og _,?_,.inl rfl⟩;obtain ⟨_,_,_,e,_,h0,_⟩:=zg.1 (by rw [q_] at iz;exact iz);simp only [Value.slice.injEq] at e;obtain ⟨rfl,_,rfl⟩:=e;exact h0
 | some x =>
   obtain ⟨t,rest⟩:=x;obtain ⟨rfl,rfl⟩:=nf _ _ hq;have ml:=rdS_atoms hq;have HQ:=mj hq;clear hq nh nf;obtain ⟨e,he⟩:=zzM (l.length-rest.length);rw [show (l.length:Int)-(rest.length:Int)=(e:Int) from by omega];have HE:=mj he;clear he;cases rest with
   | cons x xs =>
     have g1:((e:Int) == (l.length:Int))=false:=by rw [beq_eq_false_iff_ne];have:=HE.out;simp at this ml;omega
     go_wp2_with fail
     go_region
     go_wp2_with fail
     refine bodyPost_ret (v:=.tuple #[.agg #[.slice a1 t1.args.length c1],.bool false]) (by simp [results,QE,go_sem,ln,vG rI]) rfl ?_;refine ⟨_,by rw [HM.out,HQ.out];rfl,(by repeat (first | exact tY | refine Below.alloc ?_ (by simp;omega) _ | refine Below.setCell ?_ (by simp) _ | refine Below.drew ?_)),?_⟩;rw [HM.out,HQ.out];refine (Rep.keep fun b o h ho=>⟨by have:=xA h;omega,?_⟩).1 _ _ iz;have hb:b≠w.heap.size:=by have:=xA h;omega
     exact zU (by rw [mp _ _ _ _ (by simpa using hb)];exact ho)
   | nil =>
     obtain rfl:e=l.length:=by have:=HE.out;simpa using this
     have g1:((l.length:Int) == (l.length:Int))=true:=by simp
     have hlA:Lim (zJ t1):=hl.mono (by simp at ml;omega);have hrA:Rep (w.heap.size < ·) (w1.alloc (.cells #[.slice a1 t1.args.length c1] 42)) (ke t1) (.slice a1 t1.args.length c1):=(Rep.keep fun b o h ho=>⟨by have:=xA h;omega,zU ho⟩).1 _ _ iz;have F8:(w1.alloc (.cells #[.slice a1 t1.args.length c1] 42)).cell? ⟨w1.heap.size,0,none⟩=some (.slice a1 t1.args.length c1):=by simp
     go_wp2_with fail
     go_region_held3 (fun w'=>w'.cell? ⟨w1.heap.size,0,none⟩=some (.slice a1 t1.args.length c1))
      (first
       | exact (me.cell (by simp)).trans F8
       | (rw [P7 (w:=w2) (mp _ _ _ _ (by simp;omega))];exact (me.cell (by simp)).trans F8)
       | go_keep)
      (first
       | (go_at_call 71;refine (fi (zJ t1) t1 (my _) hlA (w.heap.size < ·) _ _ (by exact hrA.drew)).mono ?_;rintro en w2 ⟨rfl,me⟩;have z2:=me.size;have sI:w.heap.size<w2.heap.size:=(by simp at z2;omega);have iC:w2.cell? ⟨w.heap.size,0,none⟩=some (.slice none 0 0):=(me.cell (by simp;omega)).trans (zV rI);have ED:w2.frozen? ⟨w.heap.size,0,none⟩=false:=(me.frozen (by simp;omega)).trans ((OS (w:=w1) (Below.heap_alloc _ _ _ ln)).trans lM)))
     go_wp2_with fail
     refine bodyPost_ret (v:=.tuple #[.agg #[.slice a1 t1.args.length c1],.bool (decide ((zJ t1:Int)<=15))]) (by simp [results,QE,go_sem,vG iC]) rfl ?_;have Cy:Below w.heap.size w w2:=((tY.alloc tY.size _).drew).trans (me.mono (by simp;omega));refine ⟨.slice a1 t1.args.length c1,?_,Cy.setCell (my _) _,?_⟩
     ·have e15:decide ((zJ t1:Int)<=15)=decide (zJ t1<=15):=by rw [decide_eq_decide];omega
      rw [HM.out,HQ.out,e15];rfl
     ·rw [HM.out,HQ.out];refine (Rep.keep fun b o h ho=>⟨by have:=xA h;omega,?_⟩).1 _ _ iz;have hb:b≠w.heap.size:=by have:=xA h;omega
      rw [mp _ _ _ _ (by simpa using hb),me.block b (by have:=zZ ho;simp;omega)];exact zU ho
theorem fj (d:Nat):∀ {l:Bs} {t:Ty} {r:Bs} (e:Nat),d<=e->rdK d l=some (t,r)->rdK e l=some (t,r):=by
 induction d with
 | zero =>
   intro l t r e he h;rcases kD [98] l with hc | ⟨r',hc⟩
   ·rw [y7 hc] at h;simp at h
   ·rw [xG hc] at h ⊢;exact h
 | succ d ih =>
   intro l t r e he h;obtain ⟨e,rfl⟩:∃ e',e=e'+1:=⟨e-1,by omega⟩;rcases kD [98] l with hc | ⟨r',hc⟩
   ·rw [jI hc] at h ⊢;simp only [NX,No,Prod.exists] at h ⊢;obtain ⟨r1,h1,a,r2,h2,r3,h3,b,r4,h4,r5,h5,h6⟩:=h;exact ⟨r1,h1,a,r2,ih e (by omega) h2,r3,h3,b,r4,ih e (by omega) h4,r5,h5,h6⟩
   ·rw [xG hc] at h ⊢;exact h
theorem dH {p l r:Bs} (h:cut p l=some r):l.length=p.length+r.length:=by
 unfold cut at h;split at h
 ·rename_i hp;have:=List.IsPrefix.length_le (OT.1 hp);simp at h;subst h;simp;omega
 ·simp at h
theorem xF (a b:Ty):zJ (z_ a b)=1+zJ a+zJ b:=by cases b;simp [z_,zJ,zc,Ty.args];omega
theorem rdK_shallow (e:Nat):∀ {l:Bs} {t:Ty} {r:Bs} (d:Nat),zJ t<=2*d+1->rdK e l=some (t,r)->rdK d l=some (t,r):=by
 induction e with
 | zero =>
   intro l t r d hd h;exact fj 0 d (Og _) h
 | succ e ih =>
   intro l t r d hd h;rcases kD [98] l with hc | ⟨r',hc⟩
   ·rw [jI hc] at h;simp only [NX,No,Prod.exists] at h;obtain ⟨r1,h1,a,r2,h2,r3,h3,b,r4,h4,r5,h5,h6⟩:=h;simp at h6;obtain ⟨rfl,rfl⟩:=h6;have ml:=xF a b;have pa:=kg a;have pb:=kg b;obtain ⟨d,rfl⟩:∃ d',d=d'+1:=⟨d-1,by omega⟩;rw [jI hc];simp only [NX,No,Prod.exists];exact ⟨r1,h1,a,r2,ih d (by omega) h2,r3,h3,b,r4,ih d (by omega) h4,r5,h5,rfl⟩
   ·rw [xG hc] at h ⊢;exact h
theorem rdK_len (e:Nat):∀ {l:Bs} {t:Ty} {r:Bs},rdK e l=some (t,r)->l.length+5<=r.length+6*zJ t:=by
 induction e with
 | zero =>
   intro l t r h;rcases kD [98] l with hc | ⟨r',hc⟩
   ·rw [y7 hc] at h;simp at h
   ·rw [xG hc] at h;simp at h;obtain ⟨rfl,rfl⟩:=h;have:=dH hc;simp [zJ,zc] at *;omega
 | succ e ih =>
   intro l t r h;rcases kD [98] l with hc | ⟨r',hc⟩
   ·rw [jI hc] at h;simp only [NX,No,Prod.exists] at h;obtain ⟨r1,h1,a,r2,h2,r3,h3,b,r4,h4,r5,h5,h6⟩:=h;simp at h6;obtain ⟨rfl,rfl⟩:=h6;have ml:=xF a b;have k1:=dH h1;have k2:=ih h2;have k3:=dH h3;have k4:=ih h4;have k5:=dH h5;simp at k1 k3 k5;omega
   ·rw [xG hc] at h;simp at h;obtain ⟨rfl,rfl⟩:=h;have:=dH hc;simp [zJ,zc] at *;omega
theorem specType_eq (l:Bs):yI l=if (zI l).2 then some (zI l).1 else none:=by
 unfold yI zI;by_cases i1:100<l.length
 ·rw [if_pos i1];simp only [QW,if_false];split
  ·rename_i t hq;have:=rdK_len 15 hq;rw [if_neg (by simp at this;omega)]
  ·rfl
 ·rw [if_neg i1];have e21:rdS 21 l=rdK 20 l:=rfl;rw [e21];cases hq:rdK 20 l with
  | none =>
    simp only [QW,if_false];split
    ·rename_i t oe;have:=fj 15 20 (by omega) oe;rw [hq] at this;simp at this
    ·rfl
  | some x =>
    obtain ⟨t,rest⟩:=x;simp only;by_cases ht:zJ t<=15
    ·have oe:=rdK_shallow 20 15 (by omega) hq;rw [oe];cases rest with
     | nil=>simp [ht]
     | cons x xs=>simp
    ·cases oe:rdK 15 l with
     | none=>simp [ht]
     | some y =>
       obtain ⟨t2,r2⟩:=y;have:=fj 15 20 (by omega) oe;rw [hq] at this;simp at this;obtain ⟨rfl,rfl⟩:=this;cases rest <;> simp [ht]
theorem l3Hand_any (F:Nat->Prop) (hand:List Ty) (t:Ty) (hv tv:Value) (w:World) (hh:Rep F w (.sl 42 1 hand.length (qA hand)) hv) (ht:Rep F w (ke t) tv) (hl:Lim (hand.length+t.args.length)) :
 Calls KD 114 #[hv,.agg #[tv]] w fun en w' =>
  ∃ a c,en=.returned (.slice a (hand++t.args).length c)/\Below w.heap.size w w'/\Rep (fun k=>F k\/w.heap.size<=k) w' (.sl 42 1 (hand++t.args).length (qA (hand++t.args))) (.slice a (hand++t.args).length c):=by
 have iU:=hl.le;obtain ⟨xs1,l_,g1⟩:=zq.ofRep hh (uR _);have tE:=ht;rw [q_] at tE;obtain ⟨xs2,lw,g2⟩:=zq.ofRep tE (uR _);obtain ⟨a1,c1,e1⟩:=g1.slice;obtain ⟨a2,c2,e2⟩:=g2.slice;subst e1;subst e2;have F8:(w.alloc (.cells #[.slice a2 t.args.length c2] 42)).cell? ⟨w.heap.size,0,none⟩=some (.slice a2 t.args.length c2):=by simp
 go_enter Tryz.func114,Tryz.ntmps114;go_wp2_with fail
 go_region_held3 (fun w'=>w'.cell? ⟨w.heap.size,0,none⟩=some (.slice a2 t.args.length c2))
  (first
   | exact (AU.cell (by simp)).trans F8
   | exact (a_.cell (by simp)).trans F8
   | go_keep)
  (first
   | (refine zS (by rfl) (.tmp 7) (.tmp 9) _ (by rfl) 42 (.agg #[.slice none 0 0]) 1 24 Ql Tryz.infoS rfl (by omega) (.slice ax hand.length cx) hand.length xs1 (by rfl) (by exact hox) (.slice a2 t.args.length c2) t.args.length xs2 (by rfl) (by exact (g2.alloc _).below a_) (by unfold maxLen;omega) (by omega) ?_;intro ay cy wy hoy sT hgy;obtain ⟨AU,hfy⟩:=vT a_ hfx sT hgy)
   | (refine zS (by rfl) (.tmp 5) (.tmp 6) _ (by rfl) 42 (.agg #[.slice none 0 0]) 1 24 Ql Tryz.infoS rfl (by omega) (.slice (some ⟨w.heap.size+1,0,none⟩) 0 0) 0 [] (by rfl) (by exact (Own.litAt #[] 0 _ (by simp) (by decide) rfl).drew) (.slice a1 hand.length c1) hand.length xs1 (by rfl) (by exact ((g1.alloc _).alloc _).drew) (by unfold maxLen;omega) (by omega) ?_;rw [Nat.zero_add,List.nil_append];intro ax cx wx hox aF hgx;obtain ⟨a_,hfx⟩:=vT (((mw _ _).alloc (my _) _).drew) (p_ (by simp)) aF hgx))
 go_wp2_with fail
 go_ret;have mi:Below w.heap.size w (w.alloc (.cells #[.slice a2 t.args.length c2] 42)):=(mw _ _).alloc (my _) _;have Dz:Below w.heap.size w wy:=mi.trans (AU.mono (by simp));rw [NZ];refine ⟨ay,cy,rfl,Dz,?_⟩;rw [dU];exact hoy.rep (fun g h=>.inr (by have:=hfy g h;simp at this;omega)) (zW.append (l_.below Dz (fun _ h=>.inl h)) (lw.below Dz (fun _ h=>.inl h)))
end Go.Proofs.YtpgiohmcggllgaaGreatDoor

/- Walks of functions that the statement reaches, and plain words. No conditions. -/
import Derived.Lib.AtoiTie
import Derived.Laws.Concat
import Derived.Deep.Cut
import Derived.StillTailTactics
import Derived.BigRegion
import Derived.Outline
import Derived.Test.YtdfkiicodfbibaaGreatDoorQ3
set_option linter.unusedVariables false
set_option linter.unusedSimpArgs false
set_option maxHeartbeats 2000000
namespace Go.Proofs.YtdfkiicodfbibaaGreatDoor
open Go.RowKit
theorem dig_iff (c:UInt8):dig c=true↔48<=c.toNat/\c.toNat<=57:=by
 simp [dig,UInt8.le_iff_toNat_le]
theorem digit_ofNat {k:Nat} (h:k<10):(UInt8.ofNat (48+k)).toNat=48+k:=by
 rw [UInt8.toNat_ofNat'];exact Nat.mod_eq_of_lt (by omega)
theorem decDigits_dig (u:Nat):∀ c∈Lib.decDigits u,dig c=true:=by
 induction u using Nat.strongRecOn with
 | _ u ih =>
   intro c hc
   rw [Lib.decDigits] at hc
   split at hc
   ·rename_i h
    rw [List.mem_singleton] at hc;subst hc
    rw [dig_iff,digit_ofNat h];omega
   ·rename_i h
    rcases List.mem_append.1 hc with hc | hc
    ·exact ih _ (by omega) c hc
    ·simp only [List.mem_singleton] at hc;subst hc
     rw [dig_iff,digit_ofNat (by omega)];omega
theorem decDigits_val (u:Nat):valOf (Lib.decDigits u)=u:=by
 induction u using Nat.strongRecOn with
 | _ u ih =>
   rw [Lib.decDigits]
   split
   ·rename_i h
    show 10*0+((UInt8.ofNat (48+u)).toNat-48)=u
    rw [digit_ofNat h];omega
   ·rename_i h
    rw [valOf_snoc,ih _ (by omega),digit_ofNat (by omega)];omega
theorem decDigits_ne (u:Nat):Lib.decDigits u≠[]:=by
 intro h
 have:=Lib.decDigits_length u
 have:=Lib.nDigits_pos u
 rw [h] at *;simp at *;omega
theorem decDigits_head (u:Nat) (h1:1<=u):(Lib.decDigits u).head?≠some 48:=by
 induction u using Nat.strongRecOn with
 | _ u ih =>
   rw [Lib.decDigits]
   split
   ·rename_i h
    intro e
    rw [List.head?_cons,Option.some.injEq] at e
    have:=digit_ofNat h
    rw [e] at this
    have h48:(48:UInt8).toNat=48:=rfl
    omega
   ·rename_i h
    rw [List.head?_append]
    have:=ih (u / 10) (by omega) (by omega)
    have hne:=decDigits_ne (u / 10)
    cases hd:Lib.decDigits (u / 10) with
    | nil=>exact absurd hd hne
    | cons x xs=>rw [hd] at this;simpa using this
theorem decDigits_short {u:Nat} (h:u<10000):(Lib.decDigits u).length<=4:=by
 rw [Lib.decDigits_length]
 by_cases h1:u<10
 ·rw [Lib.nDigits_small h1];omega
 rw [Lib.nDigits_big h1]
 by_cases h2:u / 10<10
 ·rw [Lib.nDigits_small h2];omega
 rw [Lib.nDigits_big h2]
 by_cases h3:u / 10 / 10<10
 ·rw [Lib.nDigits_small h3];omega
 rw [Lib.nDigits_big h3]
 rw [Lib.nDigits_small (by omega)];omega
theorem fold_ge (l:Bs):∀ a:Nat,a<=l.foldl (fun n c=>10*n+(c.toNat-48)) a:=by
 induction l with
 | nil=>intro a;simp
 | cons c cs ih=>intro a;simp only [List.foldl_cons];have:=ih (10*a+(c.toNat-48));omega
theorem valOf_pos {l:Bs} (hd:∀ c∈l,dig c=true) (hn:l≠[]) (h48:l.head?≠some 48):1<=valOf l:=by
 cases l with
 | nil=>exact absurd rfl hn
 | cons c cs =>
   have h1:=(dig_iff c).1 (hd c (by simp))
   have h2:c.toNat≠48:=fun e=>h48 (by simp;exact UInt8.toNat_inj.1 (by simpa using e))
   have:=fold_ge cs (10*0+(c.toNat-48))
   show 1<=cs.foldl _ (10*0+(c.toNat-48))
   omega
theorem decDigits_of (n:Nat):∀ w:Bs,w.length=n->w≠[]->(∀ c∈w,dig c=true)->(1<w.length->w.head?≠some 48)->Lib.decDigits (valOf w)=w:=by
 induction n with
 | zero=>intro w hl hn;exact absurd (List.eq_nil_of_length_eq_zero hl) hn
 | succ n ih =>
   intro w hl hn hd hh
   obtain ⟨ws,c,rfl⟩:∃ ws c,w=ws++[c]:=⟨w.dropLast,w.getLast hn,(List.dropLast_concat_getLast hn).symm⟩
   have hc:=(dig_iff c).1 (hd c (by simp))
   have hof:UInt8.ofNat (48+(c.toNat-48))=c:=by
    apply UInt8.toNat_inj.1;rw [digit_ofNat (by omega)];omega
   rw [valOf_snoc]
   by_cases hws:ws=[]
   ·subst hws
    show Lib.decDigits (10*0+(c.toNat-48))=[c]
    rw [Lib.decDigits_one (by omega),show 48+(10*0+(c.toNat-48))=48+(c.toNat-48) from by omega,hof]
   ·have hwl:1<=ws.length:=by cases ws with
     | nil=>exact absurd rfl hws
     | cons x xs=>simp
    have h48:ws.head?≠some 48:=by
     have:=hh (by simp;omega)
     rw [List.head?_append] at this
     cases ws with
     | nil=>exact absurd rfl hws
     | cons x xs=>simpa using this
    have hdw:∀ x∈ws,dig x=true:=fun x hx=>hd x (by simp [hx])
    have hp:=valOf_pos hdw hws h48
    have hi:=ih ws (by simpa using hl) hws hdw (fun _=>h48)
    rw [Lib.decDigits,dif_neg (by omega),show (10*valOf ws+(c.toNat-48)) / 10=valOf ws from by omega,show (10*valOf ws+(c.toNat-48)) % 10=c.toNat-48 from by omega,hi,hof]
theorem decFrom_of (l:Bs):∀ a:Nat,(∀ c∈l,dig c=true)->Lib.decFrom a l=some (l.foldl (fun n c=>10*n+(c.toNat-48)) a):=by
 induction l with
 | nil=>intro a _;rfl
 | cons c cs ih =>
   intro a hd
   have hc:=(dig_iff c).1 (hd c (by simp))
   simp only [Lib.decFrom,Lib.digitVal,if_pos hc,List.foldl_cons]
   rw [Nat.mul_comm a 10]
   exact ih _ fun x hx=>hd x (by simp [hx])
theorem lvl_spec {w:Bs} {n v:Nat} (h:lvl w n=some v) (hn:n<=10000):w≠[]/\w.length<=4/\(∀ c∈w,dig c=true)/\(1<w.length->w.head?≠some 48)/\valOf w=v/\v<n:=by
 obtain ⟨h1,_,h3⟩:=lvl_lt h
 have e:Lib.itoa (v:Int)=Lib.decDigits v:=by unfold Lib.itoa;rw [if_neg (by omega)];simp
 rw [e] at h3
 subst h3
 refine ⟨decDigits_ne v,decDigits_short (by omega),decDigits_dig v,fun hl=>?_,decDigits_val v,h1⟩
 refine decDigits_head v ?_
 rcases Nat.eq_zero_or_pos v with h0 | h0
 ·subst h0;rw [Lib.decDigits_one (by omega)] at hl;simp at hl
 ·exact h0
theorem spec_lvl {w:Bs} {n:Nat} (h1:w≠[]) (h2:w.length<=4) (h3:∀ c∈w,dig c=true) (h4:1<w.length->w.head?≠some 48) (h5:valOf w<n):lvl w n=some (valOf w):=by
 have ha:Lib.atoiAll w=.ok (valOf w:Int):=by
  rw [Lib.atoiAll_short w (by omega)]
  cases w with
  | nil=>exact absurd rfl h1
  | cons c cs =>
    have hc:=(dig_iff c).1 (h3 c (by simp))
    have n45:(c == 45)=false:=by rw [beq_eq_false_iff_ne];rintro rfl;have:(45:UInt8).toNat=45:=rfl;omega
    have n43:(c == 43)=false:=by rw [beq_eq_false_iff_ne];rintro rfl;have:(43:UInt8).toNat=43:=rfl;omega
    simp only [Lib.atoi,n45,n43,Bool.false_eq_true,if_false,Lib.decNat,List.isEmpty_cons]
    rw [decFrom_of _ 0 h3];rfl
 have hi:Lib.itoa (valOf w:Int)=w:=by
  have e:Lib.itoa (valOf w:Int)=Lib.decDigits (valOf w):=by unfold Lib.itoa;rw [if_neg (by omega)];simp
  rw [e,decDigits_of w.length w rfl h1 h3 h4]
 unfold lvl
 rw [ha]
 simp only
 rw [if_pos ⟨hi,by omega,by omega⟩];simp
def sepStart (l:Bs):Prop:=l=[]\/∃ c r,l=c::r/\sep c=true
theorem dig_sep {c:UInt8} (h:dig c=true):sep c=false:=by
 have:=(dig_iff c).1 h
 rw [Bool.eq_false_iff];intro hs
 simp only [sep,Bool.or_eq_true,beq_iff_eq] at hs
 rcases hs with (rfl | rfl) | rfl
 ·have:(32:UInt8).toNat=32:=rfl;omega
 ·have:(40:UInt8).toNat=40:=rfl;omega
 ·have:(41:UInt8).toNat=41:=rfl;omega
theorem word_cut (l:Bs):l=wordOf l++wordRest l:=(List.takeWhile_append_dropWhile).symm
theorem wordDrop (l:Bs):l.drop (wordOf l).length=wordRest l:=by
 have h:=word_cut l
 generalize wordOf l=a at *
 generalize wordRest l=b at *
 subst h;simp
theorem wordRest_start (l:Bs):sepStart (wordRest l):=by
 unfold wordRest
 induction l with
 | nil=>exact .inl rfl
 | cons c cs ih =>
   rw [List.dropWhile_cons]
   split
   ·exact ih
   ·rename_i h;exact .inr ⟨c,cs,rfl,by simpa using h⟩
theorem word_of {w rest:Bs} (hw:∀ c∈w,sep c=false) (hr:sepStart rest):wordOf (w++rest)=w/\wordRest (w++rest)=rest:=by
 unfold wordOf wordRest
 induction w with
 | nil =>
   rcases hr with rfl | ⟨c,r,rfl,hc⟩
   ·exact ⟨rfl,rfl⟩
   ·simp [hc]
 | cons x xs ih =>
   have hx:=hw x (by simp)
   have:=ih fun c hc=>hw c (by simp [hc])
   simp [hx,this.1,this.2]
theorem digsOf_of {w rest:Bs} (hw:∀ c∈w,dig c=true) (hl:w.length<=4) (hr:sepStart rest):digsOf (w++rest)=w:=by
 unfold digsOf
 rw [List.take_append,List.take_of_length_le hl]
 have key:(rest.take (4-w.length)).takeWhile dig=[]:=by
  rcases hr with rfl | ⟨c,r,rfl,hc⟩
  ·simp
  ·cases 4-w.length with
   | zero=>rfl
   | succ k =>
     rw [List.take_succ_cons,List.takeWhile_cons,if_neg]
     intro h;rw [dig_sep h] at hc;simp at hc
 rw [List.takeWhile_append_of_pos (fun c hc=>hw c hc),key,List.append_nil]
theorem cut_is {c:UInt8} {r:Bs}:cut [c] (c::r)=some r:=by simp [cut,List.isPrefixOf]
theorem specParts_append (rd:RdS) (hs gs:List (List Ty)):∀ {l:Bs} {bs:List Bd} {l1:Bs} {cs:List Bd} {l2:Bs},specParts rd hs l=some (bs,l1)->specParts rd gs l1=some (cs,l2)->specParts rd (hs++gs) l=some (bs++cs,l2):=by
 induction hs with
 | nil=>intro l bs l1 cs l2 h k;simp [specParts] at h;obtain ⟨rfl,rfl⟩:=h;simpa using k
 | cons h' hs ih =>
   intro l bs l1 cs l2 h k
   simp only [specParts,Option.bind_eq_bind,Option.bind_eq_some_iff,Prod.exists] at h
   obtain ⟨b,m,h1,bs',m',h2,h3⟩:=h
   simp at h3;obtain ⟨rfl,rfl⟩:=h3
   simp only [List.cons_append,specParts,Option.bind_eq_bind,h1,Option.bind_some,ih h2 k]
def RdFits (rd:Rd) (rs:RdS) (h:List Ty):Prop:=∀ (left:Nat) (l:Bs) (b:Bd) (r:Bs) (f:Nat),rd h left l=some (b,r,f)->rs h l=some (b,r)/\f+sizeB b=left/\l.length+1<=r.length+7*sizeB b
theorem parts_fit {rd:Rd} {rs:RdS} (hs:List (List Ty)) (hf:∀ h∈hs,RdFits rd rs h):∀ {left:Nat} {l:Bs} {bs:List Bd} {r:Bs} {f:Nat},rdParts rd hs left l=some (bs,r,f)->specParts rs hs l=some (bs,r)/\f+sizeBs bs=left/\l.length<=r.length+7*sizeBs bs:=by
 induction hs with
 | nil=>intro left l bs r f h;simp [rdParts] at h;obtain ⟨rfl,rfl,rfl⟩:=h;simp [specParts,sizeBs]
 | cons h' hs ih =>
   intro left l bs r f h
   simp only [rdParts,Option.bind_eq_bind,Option.bind_eq_some_iff,Prod.exists] at h
   obtain ⟨l1,h1,b,l2,f2,h2,bs',l3,f3,h3,h4⟩:=h
   simp at h4;obtain ⟨rfl,rfl,rfl⟩:=h4
   obtain ⟨a1,a2,a3⟩:=hf h' (by simp) _ _ _ _ _ h2
   obtain ⟨b1,b2,b3⟩:=ih (fun x hx=>hf x (by simp [hx])) h3
   have hc:=cut_one_len h1
   refine ⟨?_,by simp [sizeBs];omega,by subst hc;simp [sizeBs];omega⟩
   simp only [specParts,specPart,h1,Option.bind_eq_bind,Option.bind_some,a1,b1]
theorem wordOf_one {l:Bs} {c:UInt8} (h:wordOf l=[c]):l=c::wordRest l:=by
 have:=word_cut l
 rw [h] at this;simpa using this
theorem specNum_of {w rest:Bs} (h1:w≠[]) (h2:w.length<=4) (h3:∀ c∈w,dig c=true) (h4:1<w.length->w.head?≠some 48) (hr:sepStart rest):specNum (w++rest)=some (valOf w,w.length):=by
 unfold specNum
 rw [digsOf_of h3 h2 hr,if_neg]
 rintro (h | ⟨h,h'⟩)
 ·exact h1 h
 ·apply h4 h
  cases w with
  | nil=>exact absurd rfl h1
  | cons x xs=>simpa using h'
theorem rdB_fits (d:Nat):∀ levels,HandOk d levels->RdFits (rdB d) (rdN (d+1)) levels:=by
 induction d with
 | zero =>
   intro levels hh left l b r f h
   rcases left with _ | left
   ·simp [rdB] at h
   rcases cut_cases [40] l with h1 | ⟨r1,h1⟩
   ·rw [rdB_leaf 0 levels left h1.out] at h
    have key:∀ c:UInt8,(c=116\/c=102\/c=117)->wordOf l=[c]->rdN 1 levels l=some (.leaf c,wordRest l)/\left+sizeB (.leaf c)=left+1/\l.length+1<=(wordRest l).length+7*sizeB (.leaf c):=by
     intro c hc hw
     have e:=wordOf_one hw
     refine ⟨?_,rfl,?_⟩
     ·conv=>lhs;rw [e]
      simp only [rdN,if_pos hc]
     ·have:=congrArg List.length e;simp at this;simp [sizeB];omega
    split at h
    ·rename_i hw;simp at h;obtain ⟨rfl,rfl,rfl⟩:=h;exact key _ (by decide) hw
    ·split at h
     ·rename_i hw;simp at h;obtain ⟨rfl,rfl,rfl⟩:=h;exact key _ (by decide) hw
     ·split at h
      ·rename_i hw;simp at h;obtain ⟨rfl,rfl,rfl⟩:=h;exact key _ (by decide) hw
      ·simp at h
   ·rw [rdB_ask 0 levels left h1.out] at h
    cases hv:lvl (wordOf r1) levels.length with
    | none=>rw [hv] at h;simp at h
    | some v=>rw [hv] at h;simp at h
 | succ d ih =>
   intro levels hh left l b r f h
   rcases left with _ | left
   ·simp [rdB] at h
   rcases cut_cases [40] l with h1 | ⟨r1,h1⟩
   ·rw [rdB_leaf (d+1) levels left h1.out] at h
    have key:∀ c:UInt8,(c=116\/c=102\/c=117)->wordOf l=[c]->rdN (d+1+1) levels l=some (.leaf c,wordRest l)/\left+sizeB (.leaf c)=left+1/\l.length+1<=(wordRest l).length+7*sizeB (.leaf c):=by
     intro c hc hw
     have e:=wordOf_one hw
     refine ⟨?_,rfl,?_⟩
     ·conv=>lhs;rw [e]
      simp only [rdN,if_pos hc]
     ·have:=congrArg List.length e;simp at this;simp [sizeB];omega
    split at h
    ·rename_i hw;simp at h;obtain ⟨rfl,rfl,rfl⟩:=h;exact key _ (by decide) hw
    ·split at h
     ·rename_i hw;simp at h;obtain ⟨rfl,rfl,rfl⟩:=h;exact key _ (by decide) hw
     ·split at h
      ·rename_i hw;simp at h;obtain ⟨rfl,rfl,rfl⟩:=h;exact key _ (by decide) hw
      ·simp at h
   ·rw [rdB_ask (d+1) levels left h1.out] at h
    cases hv:lvl (wordOf r1) levels.length with
    | none=>rw [hv] at h;simp at h
    | some v =>
      rw [hv] at h
      simp only at h
      cases ht:levels[v]? with
      | none=>rw [ht] at h;simp at h
      | some t =>
        rw [ht] at h
        simp only [rdAsk,Option.bind_eq_bind,Option.bind_eq_some_iff,Prod.exists] at h
        obtain ⟨ss,l1,f1,h2,yn,l2,f2,h3,h4⟩:=h
        have hl:levels.length<=10000:=by have:=hh.2;omega
        obtain ⟨w1,w2,w3,w4,w5,w6⟩:=lvl_spec hv hl
        split at h4
        ·rename_i y n
         simp only [Option.bind_eq_some_iff] at h4
         obtain ⟨l3,h5,h6⟩:=h4
         simp at h6;obtain ⟨rfl,rfl,rfl⟩:=h6
         have k1:=parts_fit (rs:=rdN (d+1)) (t.args.map fun a=>levels++a.args) (fun x hx=>by
          obtain ⟨a,ha,rfl⟩:=List.mem_map.1 hx
          exact ih _ (hh.next ht ha)) h2
         have hs0:HandOk d levels:=by have:=hh.same;rwa [List.append_nil] at this
         have k2:=parts_fit (rs:=rdN (d+1)) [levels,levels] (fun x hx=>by
          have:x=levels:=by simpa using hx
          subst this;exact ih _ hs0) h3
         have hln:=(rdParts_le (rdB_le d) _ h2).2.2
         rw [List.length_map] at hln
         have hc:=cut_one_len h5
         have hc1:=cut_one_len h1.out
         have hw:=word_cut r1
         have hnum:=specNum_of (rest:=wordRest r1) w1 w2 w3 w4 (wordRest_start r1)
         rw [<- hw,w5] at hnum
         have hall:specParts (rdN (d+1)) (allHands levels t) (wordRest r1)=some (ss++[y,n],l2):=specParts_append _ _ _ k1.1 k2.1
         refine ⟨?_,?_,?_⟩
         ·conv=>lhs;rw [hc1]
          rw [rdN]
          rw [if_neg (by decide),if_neg (by decide),hnum]
          simp only [ht]
          rw [wordDrop]
          simp only [hall,Option.bind_eq_bind,Option.bind_some,h5,askOf]
          rw [List.drop_left' hln,List.take_left' hln];rfl
         ·have a1:=k1.2.1;have a2:=k2.2.1
          simp [sizeB,sizeBs] at a1 a2 ⊢;omega
         ·have a1:=k1.2.2;have a2:=k2.2.2
          have hwl:=congrArg List.length hw
          have hcl:=congrArg List.length hc
          have hc1l:=congrArg List.length hc1
          simp [sizeB,sizeBs] at a1 a2 hwl hcl hc1l ⊢;omega
        ·simp at h4
theorem specParts_start {rs:RdS} {hs:List (List Ty)} {l:Bs} {ps:List Bd} {r:Bs} (h:specParts rs hs l=some (ps,r)) (hr:sepStart r):sepStart l:=by
 cases hs with
 | nil=>simp [specParts] at h;obtain ⟨_,rfl⟩:=h;exact hr
 | cons h' hs =>
   simp only [specParts,specPart,Option.bind_eq_bind,Option.bind_eq_some_iff,Prod.exists] at h
   obtain ⟨_,_,⟨l1,h1,_⟩,_⟩:=h
   have:=cut_one_len h1
   exact .inr ⟨32,l1,this,rfl⟩
def RdBack (rd:Rd) (rs:RdS) (h:List Ty):Prop:=∀ (left:Nat) (l:Bs) (b:Bd) (r:Bs),rs h l=some (b,r)->sepStart r->sizeB b<=left->rd h left l=some (b,r,left-sizeB b)
theorem parts_back {rd:Rd} {rs:RdS} (hs:List (List Ty)) (hf:∀ h∈hs,RdBack rd rs h):∀ (left:Nat) (l:Bs) (ps:List Bd) (r:Bs),specParts rs hs l=some (ps,r)->sepStart r->sizeBs ps<=left->rdParts rd hs left l=some (ps,r,left-sizeBs ps):=by
 induction hs with
 | nil=>intro left l ps r h _ _;simp [specParts] at h;obtain ⟨rfl,rfl⟩:=h;simp [rdParts,sizeBs]
 | cons h' hs ih =>
   intro left l ps r h hr hsz
   simp only [specParts,specPart,Option.bind_eq_bind,Option.bind_eq_some_iff,Prod.exists] at h
   obtain ⟨b,l2,⟨l1,h1,h2⟩,bs,l3,h3,h4⟩:=h
   simp at h4;obtain ⟨rfl,rfl⟩:=h4
   simp [sizeBs] at hsz
   have hb:=hf h' (by simp) left l1 b l2 h2 (specParts_start h3 hr) (by omega)
   have hbs:=ih (fun x hx=>hf x (by simp [hx])) (left-sizeB b) l2 bs l3 h3 hr (by omega)
   simp only [rdParts,h1,Option.bind_eq_bind,Option.bind_some,hb,hbs]
   simp [sizeBs];omega
theorem specParts_split (rs:RdS) (hs gs:List (List Ty)):∀ {l:Bs} {ps:List Bd} {r:Bs},specParts rs (hs++gs) l=some (ps,r)->∃ bs l1 cs,ps=bs++cs/\specParts rs hs l=some (bs,l1)/\specParts rs gs l1=some (cs,r):=by
 induction hs with
 | nil=>intro l ps r h;exact ⟨[],l,ps,rfl,rfl,h⟩
 | cons h' hs ih =>
   intro l ps r h
   simp only [List.cons_append,specParts,Option.bind_eq_bind,Option.bind_eq_some_iff,Prod.exists] at h
   obtain ⟨b,m,h1,bs',m',h2,h3⟩:=h
   simp at h3;obtain ⟨rfl,rfl⟩:=h3
   obtain ⟨bs,l1,cs,rfl,a1,a2⟩:=ih h2
   refine ⟨b::bs,l1,cs,rfl,?_,a2⟩
   simp only [specParts,Option.bind_eq_bind,h1,Option.bind_some,a1]
theorem specNum_some {m:Bs} {v k:Nat} (h:specNum m=some (v,k)):digsOf m≠[]/\v=valOf (digsOf m)/\k=(digsOf m).length/\(1<(digsOf m).length->(digsOf m).head?≠some 48):=by
 unfold specNum at h
 split at h
 ·simp at h
 ·rename_i hc
  simp at h
  refine ⟨fun e=>hc (.inl e),h.1.symm,h.2.symm,fun h1 h2=>hc (.inr ⟨h1,?_⟩)⟩
  have hp:=digsOf_prefix m
  obtain ⟨x,hx⟩:=hp
  cases hd:digsOf m with
  | nil=>rw [hd] at h1;simp at h1
  | cons y ys=>rw [hd] at hx h2;rw [<- hx];simpa using h2
theorem rdN_back (d:Nat):∀ levels,HandOk d levels->RdBack (rdB d) (rdN (d+1)) levels:=by
 induction d with
 | zero =>
   intro levels hh left l b r h hr hsz
   obtain ⟨left,rfl⟩:∃ x,left=x+1:=⟨left-1,by have:=sizeB_pos b;omega⟩
   cases l with
   | nil=>simp [rdN] at h
   | cons c m =>
     simp only [rdN] at h
     split at h
     ·rename_i hc
      simp at h;obtain ⟨rfl,rfl⟩:=h
      have h40:cut [40] (c::m)=none:=by
       rcases hc with rfl | rfl | rfl <;> simp [cut,List.isPrefixOf]
      have hw:=word_of (w:=[c]) (rest:=m) (fun x hx=>by
       have:x=c:=by simpa using hx
       subst this;rcases hc with rfl | rfl | rfl <;> decide) hr
      rw [List.singleton_append] at hw
      rw [rdB_leaf 0 levels left h40,hw.1,hw.2]
      rcases hc with rfl | rfl | rfl <;> simp [sizeB]
     ·split at h
      ·simp at h
      ·split at h
       ·simp at h
       ·split at h
        ·simp at h
        ·exfalso
         simp only [Option.bind_eq_bind,Option.bind_eq_some_iff,Prod.exists] at h
         obtain ⟨ps,l1,h1,_⟩:=h
         rename_i t _ _
         cases ha:allHands levels t with
         | nil=>have:=allHands_length levels t;rw [ha] at this;simp at this
         | cons x xs=>rw [ha] at h1;simp [specParts,specPart] at h1
 | succ d ih =>
   intro levels hh left l b r h hr hsz
   obtain ⟨left,rfl⟩:∃ x,left=x+1:=⟨left-1,by have:=sizeB_pos b;omega⟩
   cases l with
   | nil=>simp [rdN] at h
   | cons c m =>
     rw [rdN] at h
     simp only at h
     split at h
     ·rename_i hc
      simp at h;obtain ⟨rfl,rfl⟩:=h
      have h40:cut [40] (c::m)=none:=by
       rcases hc with rfl | rfl | rfl <;> simp [cut,List.isPrefixOf]
      have hw:=word_of (w:=[c]) (rest:=m) (fun x hx=>by
       have:x=c:=by simpa using hx
       subst this;rcases hc with rfl | rfl | rfl <;> decide) hr
      rw [List.singleton_append] at hw
      rw [rdB_leaf (d+1) levels left h40,hw.1,hw.2]
      rcases hc with rfl | rfl | rfl <;> simp [sizeB]
     ·split at h
      ·simp at h
      ·rename_i h40
       have h40:c=40:=by simpa using h40
       subst h40
       cases hn:specNum m with
       | none=>rw [hn] at h;simp at h
       | some x =>
         obtain ⟨v,k⟩:=x
         rw [hn] at h
         simp only at h
         cases ht:levels[v]? with
         | none=>rw [ht] at h;simp at h
         | some t =>
           rw [ht] at h
           simp only [Option.bind_eq_bind,Option.bind_eq_some_iff,Prod.exists] at h
           obtain ⟨ps,l2,h1,l3,h2,b',h3,h4⟩:=h
           simp at h4;obtain ⟨rfl,rfl⟩:=h4
           have hc:=cut_one_len h2
           have hsl2:sepStart l2:=.inr ⟨41,l3,hc,rfl⟩
           have hst:=specParts_start h1 hsl2
           obtain ⟨n1,n2,n3,n4⟩:=specNum_some hn
           obtain ⟨bs,l1,cs,e1,p1,p2⟩:=specParts_split _ _ _ h1
           have hbl:=specParts_length _ p1
           have hcl:=specParts_length _ p2
           have hsb:=askOf_size h3
           have hw0:m=digsOf m++m.drop k:=by
            obtain ⟨x,hx⟩:=digsOf_prefix m
            have gen:∀ (a b c:Bs),a++b=c->c.drop a.length=b:=by rintro a b c rfl;simp
            rw [n3,gen _ _ _ hx,hx]
           have hw:=word_of (w:=digsOf m) (rest:=m.drop k) (fun x hx=>dig_sep (digsOf_all m x hx)) hst
           rw [<- hw0] at hw
           have hvl:v<levels.length:=(List.getElem?_eq_some_iff.1 ht).1
           have hlv:=spec_lvl (n:=levels.length) n1 (digsOf_le m).1 (digsOf_all m) n4 (by rw [<- n2];exact hvl)
           rw [<- n2] at hlv
           have hsl1:sepStart l1:=specParts_start p2 hsl2
           have hszs:sizeBs ps=sizeBs bs+sizeBs cs:=by rw [e1,sizeBs_append]
           have hs0:HandOk d levels:=by have:=hh.same;rwa [List.append_nil] at this
           have k1:=parts_back (rd:=rdB d) (t.args.map fun a=>levels++a.args) (fun x hx=>by
            obtain ⟨a,ha,rfl⟩:=List.mem_map.1 hx
            exact ih _ (hh.next ht ha)) left (m.drop k) bs l1 p1 hsl1 (by omega)
           have k2:=parts_back (rd:=rdB d) [levels,levels] (fun x hx=>by
            have:x=levels:=by simpa using hx
            subst this;exact ih _ hs0) (left-sizeBs bs) l1 cs l2 p2 hsl2 (by omega)
           have hbl':bs.length=t.args.length:=by simpa [hands] using hbl
           obtain ⟨y,n,rfl⟩:∃ y n,cs=[y,n]:=by
            match cs,hcl with
            | [a,b],_=>exact ⟨a,b,rfl⟩
           have hb:b'=.ask v bs y n:=by
            rw [e1] at h3
            unfold askOf at h3
            rw [List.drop_left' hbl',List.take_left' hbl'] at h3
            simpa using h3.symm
           subst hb
           rw [rdB_ask (d+1) levels left (l:=40::m) cut_is,hw.1,hlv]
           simp only [ht]
           rw [hw.2]
           simp only [rdAsk,k1,k2,Option.bind_eq_bind,Option.bind_some,h2]
           simp [sizeB,sizeBs] at *;omega
theorem rdStrat_eq (t:Ty) (ht:atomsT t<=15) (l:Bs):rdStrat t l=(if 2000<l.length then none else match rdN 101 t.args l with
 | none=>none
 | some (b,rest)=>if rest=[]/\sizeB b<=200 then some b else none):=by
 have hh:=handOk_of ht
 cases hq:rdStrat t l with
 | some b =>
   have h1:∃ f,rdB 100 t.args 200 l=some (b,[],f):=by
    unfold rdStrat at hq
    split at hq
    ·rename_i b' f he
     simp at hq;subst hq;exact ⟨f,he⟩
    ·simp at hq
   obtain ⟨f,h1⟩:=h1
   obtain ⟨a1,a2,a3⟩:=rdB_fits 100 t.args hh _ _ _ _ _ h1
   have:¬ 2000<l.length:=by simp at a3;omega
   rw [if_neg this,a1]
   simp only
   rw [if_pos ⟨by trivial,by omega⟩]
 | none =>
   symm
   split
   ·rfl
   ·cases hn:rdN 101 t.args l with
    | none=>rfl
    | some x =>
      obtain ⟨b,rest⟩:=x
      simp only
      split
      ·rename_i hc
       obtain ⟨rfl,hc⟩:=hc
       have:=rdN_back 100 t.args hh 200 l b [] hn (.inl rfl) hc
       unfold rdStrat at hq
       rw [this] at hq;simp at hq
      ·rfl
theorem rdTS_eq (s l:Bs):rdTS s l=(specStrat s l).map fun b=>((specType s).1,b):=by
 unfold rdTS specStrat
 rw [specType_eq]
 cases hok:(specType s).2 with
 | false=>simp
 | true =>
   have h15:=specType_ok hok
   simp only [if_true,Option.bind_eq_bind,Option.bind_some]
   rw [rdStrat_eq _ h15]
   by_cases h2:2000<l.length
   ·simp [h2]
   ·simp only [h2,if_false,Bool.true_eq_false,false_or]
    cases rdN 101 (specType s).1.args l with
    | none=>rfl
    | some x =>
      obtain ⟨b,rest⟩:=x
      simp only
      split <;> rfl
mutual
def fitB:List Ty->Bd->Prop
 | _,.leaf _=>True
 | hand,.ask v ss y n=>∃ t,hand[v]? = some t/\fitBs (hands hand t.args) ss/\fitB hand y/\fitB hand n
def fitBs:List (List Ty)->List Bd->Prop
 | hs,[]=>hs=[]
 | hs,b::bs=>∃ h hs',hs=h::hs'/\fitB h b/\fitBs hs' bs
end
mutual
def belowB:Bd->Bd->Bool
 | .leaf c,.leaf d=>c == 117 || c == d
 | .leaf c,.ask _ _ _ _=>c == 117
 | .ask _ _ _ _,.leaf _=>false
 | .ask v ss y n,.ask v' ss' y' n'=>v == v' && (belowBs ss ss' && (belowB y y' && belowB n n'))
def belowBs:List Bd->List Bd->Bool
 | a::xs,b::bs=>belowB a b && belowBs xs bs
 | [],_=>true
 | _::_,[]=>false
end
theorem hands_length (levels ts:List Ty):(hands levels ts).length=ts.length:=by simp [hands]
theorem fitBs_append:∀ (xs:List Bd) (bs:List Bd) (hs ks:List (List Ty)),fitBs hs xs->fitBs ks bs->fitBs (hs++ks) (xs++bs)
 | [],bs,hs,ks,h1,h2=>by rw [fitBs] at h1;subst h1;simpa using h2
 | a::xs,bs,hs,ks,h1,h2=>by
   rw [fitBs] at h1
   obtain ⟨h,hs',rfl,e1,e2⟩:=h1
   exact ⟨h,hs'++ks,rfl,e1,fitBs_append xs bs hs' ks e2 h2⟩
theorem fitBs_length:∀ (xs:List Bd) (hs:List (List Ty)),fitBs hs xs->hs.length=xs.length
 | [],hs,h=>by rw [fitBs] at h;simp [h]
 | a::xs,hs,h=>by
   rw [fitBs] at h
   obtain ⟨h',hs',rfl,e1,e2⟩:=h
   simp [fitBs_length xs hs' e2]
theorem fitBs_at:∀ (xs:List Bd) (hs:List (List Ty)),fitBs hs xs->∀ (k:Nat) (a:Bd),xs[k]? = some a->∃ h,hs[k]? = some h/\fitB h a
 | [],hs,h,k,a,ha=>by simp at ha
 | a::xs,hs,h,k,a',ha=>by
   rw [fitBs] at h
   obtain ⟨h',hs',rfl,e1,e2⟩:=h
   cases k with
   | zero=>simp at ha;subst ha;exact ⟨h',rfl,e1⟩
   | succ k=>simp at ha;simpa using fitBs_at xs hs' e2 k a' ha
theorem fitBs_pair (h k:List Ty) (y n:Bd):fitBs [h,k] [y,n]↔fitB h y/\fitB k n:=by
 constructor
 ·intro hf
  rw [fitBs] at hf
  obtain ⟨a,as',e,h1,h2⟩:=hf
  simp only [List.cons.injEq] at e
  obtain ⟨rfl,rfl⟩:=e
  rw [fitBs] at h2
  obtain ⟨a,as',e,h3,h4⟩:=h2
  simp only [List.cons.injEq] at e
  obtain ⟨rfl,rfl⟩:=e
  exact ⟨h1,h3⟩
 ·rintro ⟨h1,h2⟩
  exact ⟨h,[k],rfl,h1,k,[],rfl,h2,by rw [fitBs]⟩
theorem fit_parts {hand:List Ty} {v:Nat} {ss:List Bd} {y n:Bd} (h:fitB hand (.ask v ss y n)):∃ t,hand[v]? = some t/\fitBs (allHands hand t) (partsOf (.ask v ss y n))/\ss.length=t.args.length:=by
 rw [fitB] at h
 obtain ⟨t,h1,h2,h3,h4⟩:=h
 refine ⟨t,h1,fitBs_append _ _ _ _ h2 ((fitBs_pair _ _ _ _).2 ⟨h3,h4⟩),?_⟩
 have:=fitBs_length _ _ h2
 rw [hands_length] at this;exact this.symm
theorem fitBs_split:∀ (hs:List (List Ty)) (ks:List (List Ty)) (ps:List Bd),fitBs (hs++ks) ps->fitBs hs (ps.take hs.length)/\fitBs ks (ps.drop hs.length)
 | [],ks,ps,h=>by
   constructor
   ·simp [fitBs]
   ·simpa using h
 | x::hs,ks,[],h=>by simp [fitBs] at h
 | x::hs,ks,p::ps,h=>by
   simp only [List.cons_append] at h
   rw [fitBs] at h
   obtain ⟨h',hs',e,e1,e2⟩:=h
   simp only [List.cons.injEq] at e
   obtain ⟨rfl,rfl⟩:=e
   have:=fitBs_split hs ks ps e2
   simp only [List.length_cons,List.take_succ_cons,List.drop_succ_cons]
   exact ⟨⟨x,hs,rfl,e1,this.1⟩,this.2⟩
theorem specParts_fit {rd:RdS} (hrd:∀ {h l b r},rd h l=some (b,r)->fitB h b) (hs:List (List Ty)):∀ {l r:Bs} {ps:List Bd},specParts rd hs l=some (ps,r)->fitBs hs ps:=by
 induction hs with
 | nil=>intro l r ps h;simp [specParts] at h;obtain ⟨rfl,rfl⟩:=h;simp [fitBs]
 | cons h' hs ih =>
   intro l r ps h
   simp only [specParts,Option.bind_eq_bind,Option.bind_eq_some_iff,Prod.exists] at h
   obtain ⟨b,l1,h1,bs,l2,h2,h3⟩:=h
   simp at h3;obtain ⟨rfl,rfl⟩:=h3
   unfold specPart at h1
   simp only [Option.bind_eq_bind,Option.bind_eq_some_iff] at h1
   obtain ⟨l3,_,h4⟩:=h1
   exact ⟨h',hs,rfl,hrd h4,ih h2⟩
theorem rdN_fit (e:Nat):∀ {h:List Ty} {l:Bs} {b:Bd} {r:Bs},rdN e h l=some (b,r)->fitB h b:=by
 induction e with
 | zero=>intro h l b r hq;simp [rdN] at hq
 | succ e ih =>
   intro h l b r hq
   cases l with
   | nil=>simp [rdN] at hq
   | cons c m =>
     simp only [rdN] at hq
     split at hq
     ·simp at hq;obtain ⟨rfl,rfl⟩:=hq;simp [fitB]
     ·split at hq
      ·simp at hq
      ·split at hq
       ·simp at hq
       ·rename_i v k hsn
        split at hq
        ·simp at hq
        ·rename_i t ht
         simp only [Option.bind_eq_bind,Option.bind_eq_some_iff,Prod.exists] at hq
         obtain ⟨ps,l1,h1,l2,h2,b',h3,h4⟩:=hq
         simp at h4;obtain ⟨rfl,rfl⟩:=h4
         have k1:=specParts_fit ih _ h1
         have k2:=fitBs_split _ _ _ k1
         rw [hands_length] at k2
         unfold askOf at h3
         split at h3
         ·rename_i y no hd
          simp at h3;subst h3
          rw [hd,fitBs_pair] at k2
          rw [fitB]
          exact ⟨t,ht,k2.1,k2.2.1,k2.2.2⟩
         ·simp at h3
theorem belowBs_true:∀ (xs bs:List Bd),xs.length=bs.length->(belowBs xs bs=true↔∀ (k:Nat) (a b:Bd),xs[k]? = some a->bs[k]? = some b->belowB a b=true)
 | [],[],_=>by simp [belowBs]
 | a::xs,b::bs,h=>by
   simp only [belowBs,Bool.and_eq_true]
   rw [belowBs_true xs bs (by simpa using h)]
   constructor
   ·rintro ⟨h1,h2⟩ k a' b' ha hb
    cases k with
    | zero=>simp at ha hb;subst ha;subst hb;exact h1
    | succ k=>simp at ha hb;exact h2 k a' b' ha hb
   ·intro h
    exact ⟨h 0 a b rfl rfl,fun k a' b' ha hb=>h (k+1) a' b' (by simpa using ha) (by simpa using hb)⟩
def BelowTo (xs bs:List Bd) (k:Nat):Prop:=∀ (j:Nat) (a b:Bd),j<k->xs[j]? = some a->bs[j]? = some b->belowB a b=true
theorem BelowTo.zero (xs bs:List Bd):BelowTo xs bs 0:=fun j a b h=>by omega
theorem BelowTo.next {xs bs:List Bd} {k:Nat} (h:BelowTo xs bs k) {a b:Bd} (ha:xs[k]? = some a) (hb:bs[k]? = some b) (hab:belowB a b=true):BelowTo xs bs (k+1):=by
 intro j a' b' hj h1 h2
 rcases Nat.lt_or_ge j k with h' | h'
 ·exact h j a' b' h' h1 h2
 ·obtain rfl:j=k:=by omega
  rw [ha] at h1;rw [hb] at h2;simp at h1 h2;subst h1;subst h2;exact hab
theorem BelowTo.all {xs bs:List Bd} (hl:xs.length=bs.length) (h:BelowTo xs bs xs.length):belowBs xs bs=true :=
 (belowBs_true xs bs hl).2 fun k a b ha hb=>h k a b (List.getElem?_eq_some_iff.1 ha).1 ha hb
def lvOf:Bd->Nat
 | .leaf _=>0
 | .ask v _ _ _=>v
theorem encN_lv {F:Nat->Prop} {w:World} {b:Bd} {s v k y:Value} (h:Reps F w (encN b) [s,v,k,y]):v=.int .i64 (lvOf b:Nat):=by
 cases b with
 | leaf c =>
   rw [encN] at h
   obtain ⟨_,_,e,h0,h⟩:=Reps_cons.1 h
   simp only [List.cons.injEq] at e;obtain ⟨rfl,rfl⟩:=e
   obtain ⟨_,_,e,h1,h⟩:=Reps_cons.1 h
   simp only [List.cons.injEq] at e;obtain ⟨rfl,rfl⟩:=e
   exact Rep_val.1 h1
 | ask lv ss yb nb =>
   rw [encN] at h
   obtain ⟨_,_,e,h0,h⟩:=Reps_cons.1 h
   simp only [List.cons.injEq] at e;obtain ⟨rfl,rfl⟩:=e
   obtain ⟨_,_,e,h1,h⟩:=Reps_cons.1 h
   simp only [List.cons.injEq] at e;obtain ⟨rfl,rfl⟩:=e
   exact Rep_val.1 h1
theorem tmod_nat (a b:Nat):((a:Int).tmod (b:Int))=((a % b:Nat):Int):=rfl
theorem tdiv_nat (a b:Nat):((a:Int).tdiv (b:Int))=((a / b:Nat):Int):=rfl
theorem wrap_nat (n:Nat) (h:n<9223372036854775808):IntKind.i64.wrap (n:Int)=(n:Int):=by
 simp [IntKind.wrap,IntKind.bits,IntKind.signed];omega
def digit (r:Nat):UInt8:=UInt8.ofNat (48+r)
def dec (n:Nat):Bs:=if n<10 then [digit n] else dec (n / 10)++[digit (n % 10)]
theorem dec_small {n:Nat} (h:n<10):dec n=[digit n]:=by rw [dec,if_pos h]
theorem dec_great {n:Nat} (h:¬ n<10):dec n=dec (n / 10)++[digit (n % 10)]:=by rw [dec,if_neg h]
theorem dec_length (k:Nat):∀ n,n<10 ^ (k+1)->(dec n).length<=k+1:=by
 induction k with
 | zero=>intro n h;rw [dec_small (by simpa using h)];simp
 | succ k ih =>
   intro n h
   by_cases h10:n<10
   ·rw [dec_small h10];simp
   ·rw [dec_great h10]
    have:=ih (n / 10) (by rw [Nat.div_lt_iff_lt_mul (by omega),<- Nat.pow_succ];exact h)
    simp;omega
theorem str_add (a b:Bs):(⟨a.toArray⟩:ByteArray)++(⟨b.toArray⟩:ByteArray)=⟨(a++b).toArray⟩:=by
 have h:((⟨a.toArray⟩:ByteArray)++(⟨b.toArray⟩:ByteArray)).data=(a++b).toArray:=by
  rw [ByteArray.data_append];simp
 cases hx:(⟨a.toArray⟩:ByteArray)++(⟨b.toArray⟩:ByteArray) with
 | mk d=>rw [hx] at h;simp at h;rw [h]
theorem add_str {P:Program} (a b:Bs) (h:a.length+b.length<=9223372036854775807) (w:World):(Op.stringOp .add ⟨a.toArray⟩ ⟨b.toArray⟩).run P w=.ok (str (a++b)) w:=by
 rw [run_string_add_sum w _ _ (by rw [size_str,size_str];exact h),str_add]
mutual
def textB:Bd->Bs
 | .leaf c=>[c]
 | .ask v ss y n=>(((([40]++dec v++textBs ss++[32])++textB y)++[32])++textB n)++[41]
def textBs:List Bd->Bs
 | []=>[]
 | b::bs=>[32]++textB b++textBs bs
end
mutual
def lvB:Bd->Prop
 | .leaf _=>True
 | .ask v ss y n=>v<=10000/\lvBs ss/\lvB y/\lvB n
def lvBs:List Bd->Prop
 | []=>True
 | b::bs=>lvB b/\lvBs bs
end
theorem textBs_append:∀ (xs ys:List Bd),textBs (xs++ys)=textBs xs++textBs ys
 | [],ys=>by simp [textBs]
 | x::xs,ys=>by simp [textBs,textBs_append xs ys]
theorem textBs_take {ts:List Bd} {k:Nat} {t:Bd} (h:ts[k]? = some t):textBs (ts.take (k+1))=textBs (ts.take k)++[32]++textB t:=by
 rw [List.take_add_one,h,textBs_append];simp [textBs]
theorem lvBs_at:∀ (xs:List Bd),lvBs xs->∀ (k:Nat) (t:Bd),xs[k]? = some t->lvB t
 | [],_,k,t,h=>by simp at h
 | x::xs,hl,k,t,h=>by
   rw [lvBs] at hl
   cases k with
   | zero=>simp at h;subst h;exact hl.1
   | succ k=>simp at h;exact lvBs_at xs hl.2 k t h
mutual
theorem textB_length:∀ (b:Bd),lvB b->(textB b).length+1<=12*sizeB b
 | .leaf c,_=>by simp [textB,sizeB]
 | .ask v ss y n,h=>by
   rw [lvB] at h
   have h1:=textBs_length ss h.2.1
   have h2:=textB_length y h.2.2.1
   have h3:=textB_length n h.2.2.2
   have h4:(dec v).length<=5:=dec_length 4 v (by have:=h.1;omega)
   simp only [textB,sizeB,List.length_append,List.length_cons,List.length_nil]
   omega
theorem textBs_length:∀ (bs:List Bd),lvBs bs->(textBs bs).length<=12*sizeBs bs
 | [],_=>by simp [textBs]
 | b::bs,h=>by
   rw [lvBs] at h
   have h1:=textB_length b h.1
   have h2:=textBs_length bs h.2
   simp only [textBs,sizeBs,List.length_append,List.length_cons,List.length_nil]
   omega
end
theorem textBs_take_len (xs:List Bd) (k:Nat):(textBs (xs.take k)).length<=(textBs xs).length:=by
 have:=congrArg List.length (textBs_append (xs.take k) (xs.drop k))
 rw [List.take_append_drop,List.length_append] at this
 omega
mutual
def textT:Ty->Bs
 | .mk ts=>textTs ts
def textTs:List Ty->Bs
 | []=>[98]
 | a::ts=>[40,62,32]++(textT a++([32]++(textTs ts++[41])))
end
theorem textT_nil:textT (.mk [])=[98]:=by rw [textT,textTs]
theorem textT_cons (a:Ty) (ts:List Ty):textT (.mk (a::ts))=[40,62,32]++(textT a++([32]++(textT (.mk ts)++[41]))):=by
 rw [textT,textTs,textT]
inductive Clo where
 | mk (b:Bd) (env:List Clo) (begun:Nat) (path:Bs)
def Clo.body:Clo->Bd | .mk b _ _ _=>b
def Clo.env:Clo->List Clo | .mk _ e _ _=>e
def Clo.begun:Clo->Nat | .mk _ _ n _=>n
def Clo.path:Clo->Bs | .mk _ _ _ p=>p
mutual
def cloFit:Clo->Ty->Prop
 | .mk b e _ _,t=>∃ h,envFit e h/\fitB (h++t.args) b
def envFit:List Clo->List Ty->Prop
 | [],h=>h=[]
 | c::cs,h=>∃ t ts,h=t::ts/\cloFit c t/\envFit cs ts
end
def atT (t:Ty):Bs->Option Ty
 | []=>some t
 | c::p=>if 48<=c.toNat then (match t.args[c.toNat-48]? with | some a=>atT a p | none=>none) else none
theorem atT_nil (t:Ty):atT t []=some t:=by cases t;rfl
theorem atT_cons (t:Ty) (c:UInt8) (p:Bs):atT t (c::p)=if 48<=c.toNat then (match t.args[c.toNat-48]? with | some a=>atT a p | none=>none) else none:=by rw [atT]
theorem atT_append:∀ (p q:Bs) (t:Ty),atT t (p++q)=(atT t p).bind fun a=>atT a q
 | [],q,t=>by rw [atT_nil];rfl
 | c::p,q,t=>by
   rw [List.cons_append,atT_cons,atT_cons]
   split
   ·cases h:t.args[c.toNat-48]? with
    | none=>rfl
    | some a=>exact atT_append p q a
   ·rfl
theorem digit_nat {j:Nat} (h:j<10):(digit j).toNat=48+j:=digit_ofNat h
theorem atT_digit (t:Ty) {j:Nat} (h:j<10):atT t [digit j]=t.args[j]?:=by
 rw [atT_cons,digit_nat h,if_pos (by omega),show 48+j-48=j from by omega]
 cases t.args[j]? with
 | none=>rfl
 | some a=>exact atT_nil a
theorem atomsT_arg {t a:Ty} {j:Nat} (h:t.args[j]? = some a):atomsT a+2<=atomsT t:=by
 have h1:=atomsTs_take h
 have h2:=atomsTs_take_le t.args (j+1)
 rw [atomsT_mk t]
 omega
theorem args_len (t:Ty):2*t.args.length+1<=atomsT t:=by
 rw [atomsT_mk t]
 have:∀ ts:List Ty,2*ts.length<=atomsTs ts:=by
  intro ts
  induction ts with
  | nil=>simp
  | cons u us ih =>
    have:=atomsT_pos u
    rw [show u::us=[u]++us from rfl,atomsTs_append]
    have e:atomsTs [u]=1+atomsT u:=by simp [atomsTs]
    rw [e,List.length_append,List.length_singleton];omega
 have:=this t.args
 omega
theorem atT_len:∀ (p:Bs) (t a:Ty),atT t p=some a->2*p.length+atomsT a<=atomsT t
 | [],t,a,h=>by rw [atT_nil] at h;obtain rfl:=Option.some.inj h;simp
 | c::p,t,a,h=>by
   rw [atT_cons] at h
   split at h
   ·cases hq:t.args[c.toNat-48]? with
    | none=>rw [hq] at h;simp at h
    | some b =>
      rw [hq] at h
      have h1:=atT_len p b a h
      have h2:=atomsT_arg hq
      rw [List.length_cons];omega
   ·simp at h
def joinO {α:Type}:List (Option (List α))->Option (List α)
 | []=>some []
 | o::os=>o.bind fun a=>(joinO os).map (a ++ ·)
theorem joinO_append {α:Type}:∀ (xs ys:List (Option (List α))),joinO (xs++ys)=(joinO xs).bind fun a=>(joinO ys).map (a ++ ·)
 | [],ys=>by
   simp only [List.nil_append,joinO,Option.bind_some]
   cases joinO ys <;> simp
 | o::os,ys=>by
   simp only [List.cons_append,joinO,joinO_append os ys]
   cases o with
   | none=>rfl
   | some a =>
     cases joinO os with
     | none=>rfl
     | some b =>
       cases joinO ys with
       | none=>rfl
       | some c=>simp
abbrev Pl:=List (Bs×Int)
abbrev Place:=Nat×Bs
def placesOf (many begin:Nat) (path:Bs):List Place:=(List.range many).map fun i=>(begin,path++dec i)
theorem placesOf_length (m b:Nat) (p:Bs):(placesOf m b p).length=m:=by simp [placesOf]
theorem placesOf_at {m b j:Nat} {p:Bs} (h:j<m):(placesOf m b p)[j]? = some (b,p++dec j):=by simp [placesOf,h]
theorem placesOf_succ (m b:Nat) (p:Bs):placesOf (m+1) b p=placesOf m b p++[(b,p++dec m)]:=by simp [placesOf,List.range_succ]
def argsAt (t:Ty) (p:Bs):Nat:=match atT t p with | some a=>a.args.length | none=>0
def withQ (c:UInt8) (v:Pl) (path:Bs) (n:Nat):Pl:=v++[(c::path,(n:Int))]
mutual
def viewsB (t:Ty):Bd->List Place->Place->Pl->Option (List Pl)
 | .leaf c,_,bg,v=>if c=117 then some [] else if 60<=v.length then none else some [withQ c v bg.2 bg.1]
 | .ask l ss y n,lv,bg,v=>if 59<=v.length then none else
  (joinO (viewsKs t ss 0 (lv.getD l (0,[])).2 v.length lv (withQ 113 v (lv.getD l (0,[])).2 (lv.getD l (0,[])).1) ++
   [viewsB t y lv bg (withQ 116 (withQ 113 v (lv.getD l (0,[])).2 (lv.getD l (0,[])).1) (lv.getD l (0,[])).2 v.length),
    viewsB t n lv bg (withQ 102 (withQ 113 v (lv.getD l (0,[])).2 (lv.getD l (0,[])).1) (lv.getD l (0,[])).2 v.length)])).map
   (withQ 113 v (lv.getD l (0,[])).2 (lv.getD l (0,[])).1 :: ·)
def viewsKs (t:Ty):List Bd->Nat->Bs->Nat->List Place->Pl->List (Option (List Pl))
 | [],_,_,_,_,_=>[]
 | s::ss,j,path,k,lv,asked =>
   viewsB t s (lv++placesOf (argsAt t (path++dec j)) (k+1) (path++dec j)) (k+1,path++dec j) (withQ 113 asked (path++dec j) k)::viewsKs t ss (j+1) path k lv asked
end
mutual
theorem viewsB_count (t:Ty):∀ (b:Bd) (lv:List Place) (bg:Place) (v:Pl) (out:List Pl),viewsB t b lv bg v=some out->out.length<=sizeB b
 | .leaf c,lv,bg,v,out,h=>by
   rw [viewsB] at h
   split at h
   ·obtain rfl:=Option.some.inj h;simp
   ·split at h
    ·simp at h
    ·obtain rfl:=Option.some.inj h;simp [sizeB]
 | .ask l ss y n,lv,bg,v,out,h=>by
   rw [viewsB] at h
   split at h
   ·simp at h
   ·rw [joinO_append] at h
    simp only [joinO,Option.map_eq_some_iff,Option.bind_eq_some_iff] at h
    obtain ⟨_,⟨a,ha,_,⟨b,hb,_,⟨c,hc,_,h0,rfl⟩,rfl⟩,rfl⟩,rfl⟩:=h
    obtain rfl:=Option.some.inj h0
    have h1:=viewsKs_count t ss _ _ _ _ _ a ha
    have h2:=viewsB_count t y _ _ _ b hb
    have h3:=viewsB_count t n _ _ _ c hc
    rw [sizeB]
    simp only [List.length_cons,List.length_append,List.length_nil];omega
theorem viewsKs_count (t:Ty):∀ (ss:List Bd) (j:Nat) (path:Bs) (k:Nat) (lv:List Place) (asked:Pl) (out:List Pl),joinO (viewsKs t ss j path k lv asked)=some out->out.length<=sizeBs ss
 | [],_,_,_,_,_,out,h=>by rw [viewsKs,joinO] at h;obtain rfl:=Option.some.inj h;simp
 | s::ss,j,path,k,lv,asked,out,h=>by
   rw [viewsKs,joinO] at h
   simp only [Option.map_eq_some_iff,Option.bind_eq_some_iff] at h
   obtain ⟨a,ha,b,hb,rfl⟩:=h
   have h1:=viewsB_count t s _ _ _ a ha
   have h2:=viewsKs_count t ss _ _ _ _ _ b hb
   rw [sizeBs,List.length_append];omega
end
structure PlFit (t:Ty) (lv:List Place) (hand:List Ty) (n:Nat):Prop where
 len:lv.length=hand.length
 each:∀ (i:Nat) (a:Ty),hand[i]? = some a->∃ pl,lv[i]? = some pl/\atT t pl.2=some a/\pl.1<n
theorem PlFit.kid {t:Ty} {lv:List Place} {hand:List Ty} {n m k:Nat} (h:PlFit t lv hand n) (hnm:n<=m) (hk:k<m) {p:Bs} {a:Ty} (ha:atT t p=some a) (h10:a.args.length<=10) :
 PlFit t (lv++placesOf a.args.length k p) (hand++a.args) m:=by
 refine ⟨by rw [List.length_append,List.length_append,placesOf_length,h.len],fun i b hb=>?_⟩
 rcases Nat.lt_or_ge i hand.length with hi | hi
 ·rw [List.getElem?_append_left hi] at hb
  obtain ⟨pl,h1,h2,h3⟩:=h.each i b hb
  exact ⟨pl,by rw [List.getElem?_append_left (by rw [h.len];exact hi)];exact h1,h2,by omega⟩
 ·rw [List.getElem?_append_right hi] at hb
  have hlt:=(List.getElem?_eq_some_iff.1 hb).1
  refine ⟨(k,p++dec (i-hand.length)),?_,?_,hk⟩
  ·rw [List.getElem?_append_right (by rw [h.len];exact hi),h.len,placesOf_at hlt]
  ·show atT t (p++dec (i-hand.length))=some b
   rw [atT_append,ha,Option.bind_some,dec_small (by omega),atT_digit _ (by omega)];exact hb
theorem PlFit.mono {t:Ty} {lv:List Place} {hand:List Ty} {n m:Nat} (h:PlFit t lv hand n) (hnm:n<=m):PlFit t lv hand m :=
 ⟨h.len,fun i a ha=>by obtain ⟨pl,h1,h2,h3⟩:=h.each i a ha;exact ⟨pl,h1,h2,by omega⟩⟩
structure SpecPl (lv:List Place) (bg:Place) (v:Pl) (begun args:List Nat) (opens:Nat):Prop where
 lb:begun.length=lv.length
 la:args.length=lv.length
 each:∀ (i:Nat) (pl:Place),lv[i]? = some pl->∃ j m z,begun[i]? = some pl.1/\args[i]? = some j/\v[pl.1]? = some (113::m,z)/\pl.2=m++dec j/\j<10
 bg:bg.1=opens/\∃ c z,v[opens]? = some (c::bg.2,z)
theorem SpecPl.more {lv:List Place} {bg:Place} {v:Pl} {begun args:List Nat} {opens:Nat} (h:SpecPl lv bg v begun args opens) (xs:Pl):SpecPl lv bg (v++xs) begun args opens:=by
 have key:∀ (i:Nat) (x:Bs×Int),v[i]? = some x->(v++xs)[i]? = some x:=fun i x hx=>by
  rw [List.getElem?_append_left (List.getElem?_eq_some_iff.1 hx).1];exact hx
 refine ⟨h.lb,h.la,fun i pl hi=>?_,h.bg.1,?_⟩
 ·obtain ⟨j,m,z,h1,h2,h3,h4⟩:=h.each i pl hi
  exact ⟨j,m,z,h1,h2,key _ _ h3,h4⟩
 ·obtain ⟨c,z,hc⟩:=h.bg.2
  exact ⟨c,z,key _ _ hc⟩
theorem SpecPl.kid {lv:List Place} {bg:Place} {v:Pl} {begun args:List Nat} {opens:Nat} (h:SpecPl lv bg v begun args opens) (many k:Nat) (p:Bs) (h10:many<=10) {z:Int} (hk:v[k]? = some (113::p,z)) :
 SpecPl (lv++placesOf many k p) (k,p) v (begun++List.replicate many k) (args++List.range many) k:=by
 refine ⟨by simp [h.lb,placesOf_length],by simp [h.la,placesOf_length],fun i pl hi=>?_,rfl,113,z,hk⟩
 rcases Nat.lt_or_ge i lv.length with hlt | hge
 ·rw [List.getElem?_append_left hlt] at hi
  obtain ⟨j,m,z',h1,h2,h3,h4⟩:=h.each i pl hi
  exact ⟨j,m,z',by rw [List.getElem?_append_left (by rw [h.lb];exact hlt)];exact h1,by rw [List.getElem?_append_left (by rw [h.la];exact hlt)];exact h2,h3,h4⟩
 ·rw [List.getElem?_append_right hge] at hi
  have hl:=(List.getElem?_eq_some_iff.1 hi).1
  rw [placesOf_length] at hl
  rw [placesOf_at hl] at hi
  obtain rfl:=Option.some.inj hi
  refine ⟨i-lv.length,p,z,?_,?_,hk,rfl,by omega⟩
  ·rw [List.getElem?_append_right (by rw [h.lb];exact hge),h.lb];simp [hl]
  ·rw [List.getElem?_append_right (by rw [h.la];exact hge),h.la];simp [hl]
inductive AnsAt (t:Ty) (ss:List Bd) (y n:Bd) (p:Bs) (k:Nat) (lv:List Place) (bg:Place) (asked:Pl) (j:Nat):Bs->Option (List Pl)->Prop
 | kid (s:Bd) (h:ss[j]? = some s):AnsAt t ss y n p k lv bg asked j (113::(p++dec j)) (viewsB t s (lv++placesOf (argsAt t (p++dec j)) (k+1) (p++dec j)) (k+1,p++dec j) (asked++[(113::(p++dec j),(k:Int))]))
 | yes (h:j=ss.length):AnsAt t ss y n p k lv bg asked j (116::p) (viewsB t y lv bg (asked++[(116::p,(k:Int))]))
 | no (h:j=ss.length+1):AnsAt t ss y n p k lv bg asked j (102::p) (viewsB t n lv bg (asked++[(102::p,(k:Int))]))
def szAll (ss:List Bd) (y n:Bd):List Nat:=ss.map sizeB++[sizeB y,sizeB n]
theorem AnsAt.size {t:Ty} {ss:List Bd} {y n:Bd} {p:Bs} {k:Nat} {lv:List Place} {bg:Place} {asked:Pl} {j:Nat} {M:Bs} {o:Option (List Pl)} (h:AnsAt t ss y n p k lv bg asked j M o) :
 ∃ z,(szAll ss y n)[j]? = some z/\∀ out,o=some out->out.length<=z:=by
 cases h with
 | kid s h =>
   have hj:=(List.getElem?_eq_some_iff.1 h).1
   refine ⟨sizeB s,?_,fun out ho=>viewsB_count t s _ _ _ out ho⟩
   rw [szAll,List.getElem?_append_left (by rw [List.length_map];exact hj),List.getElem?_map,h];rfl
 | yes h =>
   subst h
   refine ⟨sizeB y,?_,fun out ho=>viewsB_count t y _ _ _ out ho⟩
   rw [szAll,List.getElem?_append_right (by rw [List.length_map];omega),List.length_map,Nat.sub_self];rfl
 | no h =>
   subst h
   refine ⟨sizeB n,?_,fun out ho=>viewsB_count t n _ _ _ out ho⟩
   rw [szAll,List.getElem?_append_right (by rw [List.length_map];omega),List.length_map,Nat.add_sub_cancel_left];rfl
inductive Mn where
 | op (o:Nat) (t:Ty)
 | bd (t:Ty) (b:Bd) (env:List Mn)
structure Gf where
 yes:Bd
 no:Bd
 env:List Mn
def opens:Nat->List Ty->List Mn
 | _,[]=>[]
 | n,t::ts=>.op n t::opens (n+1) ts
def owns (env:List Mn):List Ty->List Bd->List Mn
 | t::ts,s::ss=>.bd t s env::owns env ts ss
 | _,_=>[]
def evSubs (ev:Nat->Bd->List Mn->Nat->List Gf->Option (Bd×Nat)) (env:List Mn) (n:Nat):Nat->List Ty->List Bd->Option (List Bd×Nat)
 | l,t::ts,s::ss=>do
   let (x,l1)<-ev l s (env++opens n t.args) (n+t.args.length) []
   let (xs,l2)<-evSubs ev env n l1 ts ss
   some (x::xs,l2)
 | l,_,_=>some ([],l)
def ev:Nat->Nat->Bd->List Mn->Nat->List Gf->Option (Bd×Nat)
 | 0,_,_,_,_,_=>none
 | d+1,l,b,env,n,st=>match l with
   | 0=>none
   | l+1=>match b with
     | .leaf c=>if c=117 then some (.leaf c,l) else match st with
       | []=>some (.leaf c,l)
       | f::st'=>ev d l (if c=116 then f.yes else f.no) f.env n st'
     | .ask v ss y no=>match env[v]? with
       | none=>none
       | some (.bd t b' e)=>ev d l b' (e++owns env t.args ss) n (⟨y,no,env⟩::st)
       | some (.op o t)=>do
         let (xs,l1)<-evSubs (ev d) env n l t.args ss
         let (x,l2)<-ev d l1 y env n st
         let (z,l3)<-ev d l2 no env n st
         some (.ask o xs x z,l3)
def evSubsN (ev:Nat->Nat->Bd->List Mn->Nat->List Gf->Option (Bd×Nat×Nat)) (env:List Mn) (n:Nat):Nat->Nat->List Ty->List Bd->Option (List Bd×Nat×Nat)
 | k,l,t::ts,s::ss=>do
   let (x,k1,l1)<-ev k l s (env++opens n t.args) (n+t.args.length) []
   let (xs,k2,l2)<-evSubsN ev env n k1 l1 ts ss
   some (x::xs,k2,l2)
 | k,l,_,_=>some ([],k,l)
def evN:Nat->Nat->Nat->Bd->List Mn->Nat->List Gf->Option (Bd×Nat×Nat)
 | 0,_,_,_,_,_,_=>none
 | d+1,k,l,b,env,n,st=>match l with
   | 0=>none
   | l+1=>match k with
     | 0=>none
     | k+1=>match b with
       | .leaf c=>if c=117 then some (.leaf c,k,l) else match st with
         | []=>some (.leaf c,k,l)
         | f::st'=>evN d (k+1) l (if c=116 then f.yes else f.no) f.env n st'
       | .ask v ss y no=>match env[v]? with
         | none=>none
         | some (.bd t b' e)=>evN d (k+1) l b' (e++owns env t.args ss) n (⟨y,no,env⟩::st)
         | some (.op o t)=>do
           let (xs,k1,l1)<-evSubsN (evN d) env n k l t.args ss
           let (x,k2,l2)<-evN d k1 l1 y env n st
           let (z,k3,l3)<-evN d k2 l2 no env n st
           some (.ask o xs x z,k3,l3)
mutual
def mnFit (H:List Ty):Mn->Ty->Prop
 | .op o t,t'=>t=t'/\H[o]? = some t
 | .bd t b e,t'=>t=t'/\∃ h,mnFits H e h/\fitB (h++t.args) b
def mnFits (H:List Ty):List Mn->List Ty->Prop
 | [],h=>h=[]
 | m::ms,h=>∃ t ts,h=t::ts/\mnFit H m t/\mnFits H ms ts
end
theorem mnFits_at {H:List Ty}:∀ (cs:List Mn) (h:List Ty),mnFits H cs h->∀ (i:Nat) (t:Ty),h[i]? = some t->∃ c,cs[i]? = some c/\mnFit H c t
 | [],h,k,i,c,hc=>by rw [mnFits] at k;subst k;simp at hc
 | c::cs,h,k,i,t',hc=>by
   rw [mnFits] at k
   obtain ⟨t,ts,rfl,k1,k2⟩:=k
   cases i with
   | zero=>simp at hc;subst hc;exact ⟨c,rfl,k1⟩
   | succ i=>simp at hc;simpa using mnFits_at cs ts k2 i t' hc
theorem mnFits_append {H:List Ty}:∀ (xs bs:List Mn) (h k:List Ty),mnFits H xs h->mnFits H bs k->mnFits H (xs++bs) (h++k)
 | [],bs,h,k,h1,h2=>by rw [mnFits] at h1;subst h1;simpa using h2
 | a::xs,bs,h,k,h1,h2=>by
   rw [mnFits] at h1
   obtain ⟨t,ts,rfl,k1,k2⟩:=h1
   simp only [List.cons_append]
   rw [mnFits]
   exact ⟨t,ts++k,rfl,k1,mnFits_append xs bs ts k k2 h2⟩
mutual
theorem mnFit_more {H X:List Ty}:∀ (m:Mn) (t:Ty),mnFit H m t->mnFit (H++X) m t
 | .op o t,t',h=>by
   rw [mnFit] at *
   exact ⟨h.1,by rw [List.getElem?_append_left (List.getElem?_eq_some_iff.1 h.2).1];exact h.2⟩
 | .bd t b e,t',h=>by
   rw [mnFit] at *
   obtain ⟨h1,k,h2,h3⟩:=h
   exact ⟨h1,k,mnFits_more e k h2,h3⟩
theorem mnFits_more {H X:List Ty}:∀ (ms:List Mn) (h:List Ty),mnFits H ms h->mnFits (H++X) ms h
 | [],h,k=>by rw [mnFits] at *;exact k
 | m::ms,h,k=>by
   rw [mnFits] at *
   obtain ⟨t,ts,rfl,k1,k2⟩:=k
   exact ⟨t,ts,rfl,mnFit_more m t k1,mnFits_more ms ts k2⟩
end
theorem opens_fit {H:List Ty}:∀ (ts:List Ty) (n:Nat),(∀ i t,ts[i]? = some t->H[n+i]? = some t)->mnFits H (opens n ts) ts
 | [],n,h=>by rw [opens,mnFits]
 | t::ts,n,h=>by
   rw [opens,mnFits]
   refine ⟨t,ts,rfl,?_,opens_fit ts (n+1) fun i t' hi=>?_⟩
   ·rw [mnFit];exact ⟨rfl,by have:=h 0 t rfl;simpa using this⟩
   ·have:=h (i+1) t' (by simpa using hi)
    rw [show n+1+i=n+(i+1) from by omega];exact this
theorem opens_fit_end (H:List Ty) (ts:List Ty):mnFits (H++ts) (opens H.length ts) ts :=
 opens_fit ts H.length fun i t h=>by rw [List.getElem?_append_right (by omega),Nat.add_sub_cancel_left];exact h
theorem owns_fit {H h:List Ty} {env:List Mn} (he:mnFits H env h):∀ (ts:List Ty) (ss:List Bd),fitBs (hands h ts) ss->mnFits H (owns env ts ss) ts
 | [],ss,hf=>by
   rw [owns]
   ·rw [mnFits]
   ·intros;contradiction
 | t::ts,[],hf=>by
   rw [fitBs] at hf;simp [hands] at hf
 | t::ts,s::ss,hf=>by
   rw [fitBs] at hf
   obtain ⟨h',hs',e,h1,h2⟩:=hf
   simp only [hands,List.map_cons,List.cons.injEq] at e
   obtain ⟨rfl,rfl⟩:=e
   rw [owns,mnFits]
   refine ⟨t,ts,rfl,?_,owns_fit he ts ss h2⟩
   rw [mnFit]
   exact ⟨rfl,h,he,h1⟩
def gfFit (H:List Ty) (f:Gf):Prop:=∃ h,mnFits H f.env h/\fitB h f.yes/\fitB h f.no
structure EvFit (H:List Ty) (b:Bd) (env:List Mn) (st:List Gf):Prop where
 fit:∃ h,mnFits H env h/\fitB h b
 frames:∀ f∈st,gfFit H f
theorem EvFit.ask {H:List Ty} {v:Nat} {ss:List Bd} {y no:Bd} {env:List Mn} {st:List Gf} (h:EvFit H (.ask v ss y no) env st) :
 ∃ m t hh,env[v]? = some m/\mnFit H m t/\mnFits H env hh/\fitBs (hands hh t.args) ss/\fitB hh y/\fitB hh no:=by
 obtain ⟨⟨hh,h1,h2⟩,_⟩:=h
 rw [fitB] at h2
 obtain ⟨t,k1,k2,k3,k4⟩:=h2
 obtain ⟨m,m1,m2⟩:=mnFits_at _ _ h1 v t k1
 exact ⟨m,t,hh,m1,m2,h1,k2,k3,k4⟩
theorem EvFit.call {H:List Ty} {v:Nat} {ss:List Bd} {y no:Bd} {env:List Mn} {st:List Gf} (h:EvFit H (.ask v ss y no) env st) {t:Ty} {b':Bd} {e:List Mn} (he:env[v]? = some (.bd t b' e)) :
 ss.length=t.args.length/\EvFit H b' (e++owns env t.args ss) (⟨y,no,env⟩::st):=by
 obtain ⟨m,t',hh,m1,m2,m3,m4,m5,m6⟩:=h.ask
 rw [he] at m1;simp at m1;subst m1
 rw [mnFit] at m2
 obtain ⟨rfl,k,k1,k2⟩:=m2
 refine ⟨?_,⟨k++t.args,mnFits_append _ _ _ _ k1 (owns_fit m3 _ _ m4),k2⟩,fun f hf=>?_⟩
 ·have:=fitBs_length _ _ m4;rw [hands_length] at this;exact this.symm
 ·rcases List.mem_cons.1 hf with rfl | hf
  ·exact ⟨hh,m3,m5,m6⟩
  ·exact h.frames f hf
theorem EvFit.keep {H:List Ty} {v:Nat} {ss:List Bd} {y no:Bd} {env:List Mn} {st:List Gf} (h:EvFit H (.ask v ss y no) env st) {t:Ty} {o:Nat} (he:env[v]? = some (.op o t)) :
 ss.length=t.args.length/\H[o]? = some t/\(∀ (k:Nat) (a:Ty) (s:Bd),t.args[k]? = some a->ss[k]? = some s->EvFit (H++a.args) s (env++opens H.length a.args) [])/\EvFit H y env st/\EvFit H no env st:=by
 obtain ⟨m,t',hh,m1,m2,m3,m4,m5,m6⟩:=h.ask
 rw [he] at m1;simp at m1;subst m1
 rw [mnFit] at m2
 obtain ⟨rfl,k1⟩:=m2
 have hl:=fitBs_length _ _ m4
 rw [hands_length] at hl
 refine ⟨hl.symm,k1,fun k a s ha hs=>?_,⟨⟨hh,m3,m5⟩,h.frames⟩,⟨⟨hh,m3,m6⟩,h.frames⟩⟩
 obtain ⟨x,hx,hf⟩:=fitBs_at _ _ m4 k s hs
 have hx':x=hh++a.args:=by simp [hands,ha] at hx;exact hx.symm
 subst hx'
 exact ⟨⟨hh++a.args,mnFits_append _ _ _ _ (mnFits_more _ _ m3) (opens_fit_end H a.args),hf⟩,by simp⟩
mutual
def wfB:Bd->Prop
 | .leaf c=>c=116\/c=102\/c=117
 | .ask _ ss y n=>wfBs ss/\wfB y/\wfB n
def wfBs:List Bd->Prop
 | []=>True
 | b::bs=>wfB b/\wfBs bs
end
theorem wfBs_at:∀ (xs:List Bd),wfBs xs->∀ (k:Nat) (b:Bd),xs[k]? = some b->wfB b
 | [],_,k,b,h=>by simp at h
 | x::xs,hw,k,b,h=>by
   rw [wfBs] at hw
   cases k with
   | zero=>simp at h;subst h;exact hw.1
   | succ k=>exact wfBs_at xs hw.2 k b (by simpa using h)
theorem textB_ask (v:Nat) (ss:List Bd) (y n:Bd):textB (.ask v ss y n)=40::(dec v++(textBs (ss++[y,n])++[41])):=by
 rw [textB,textBs_append];simp [textBs]
theorem specParts_each {rd:RdS} {P:Bd->Prop} (h:∀ hand l b r,rd hand l=some (b,r)->P b):∀ (hs:List (List Ty)) (l:Bs) (ps:List Bd) (r:Bs),specParts rd hs l=some (ps,r)->∀ p∈ps,P p
 | [],l,ps,r,hx=>by simp [specParts] at hx;obtain ⟨rfl,_⟩:=hx;simp
 | a::hs,l,ps,r,hx=>by
   simp only [specParts,specPart,Option.bind_eq_bind,Option.bind_eq_some_iff,Prod.exists] at hx
   obtain ⟨b,l1,⟨l0,h0,h1⟩,bs,l2,h2,h3⟩:=hx
   simp at h3;obtain ⟨rfl,rfl⟩:=h3
   intro p hp
   rcases List.mem_cons.1 hp with rfl | hp
   ·exact h _ _ _ _ h1
   ·exact specParts_each h hs l1 bs l2 h2 p hp
theorem askOf_some {v n:Nat} {ps:List Bd} {b:Bd} (h:askOf v n ps=some b):∃ ss y no,b=.ask v ss y no/\ps=ss++[y,no]:=by
 unfold askOf at h
 split at h
 ·rename_i y no hd
  simp at h;subst h
  exact ⟨_,_,_,rfl,by rw [<- hd,List.take_append_drop]⟩
 ·simp at h
theorem wfBs_of:∀ (ps:List Bd),(∀ p∈ps,wfB p)->wfBs ps
 | [],_=>trivial
 | p::ps,h=>⟨h p (by simp),wfBs_of ps fun q hq=>h q (by simp [hq])⟩
theorem wfBs_split:∀ (xs ys:List Bd),wfBs (xs++ys)->wfBs xs/\wfBs ys
 | [],ys,h=>⟨trivial,h⟩
 | x::xs,ys,h=>by
   simp only [List.cons_append] at h;rw [wfBs] at h
   have:=wfBs_split xs ys h.2
   exact ⟨⟨h.1,this.1⟩,this.2⟩
theorem rdN_wf (e:Nat):∀ (hand:List Ty) (l:Bs) (b:Bd) (r:Bs),rdN e hand l=some (b,r)->wfB b/\depthB b<e:=by
 induction e with
 | zero=>intro hand l b r h;simp [rdN] at h
 | succ e ih =>
   intro hand l b r h
   cases l with
   | nil=>simp [rdN] at h
   | cons c m =>
     simp only [rdN] at h
     split at h
     ·rename_i hc;simp at h;obtain ⟨rfl,_⟩:=h;exact ⟨hc,by simp [depthB]⟩
     ·split at h
      ·simp at h
      ·split at h
       ·simp at h
       ·split at h
        ·simp at h
        ·simp only [Option.bind_eq_bind,Option.bind_eq_some_iff,Prod.exists] at h
         obtain ⟨ps,l1,h1,l2,h2,b',h3,h4⟩:=h
         simp at h4;obtain ⟨rfl,_⟩:=h4
         obtain ⟨ss,y,no,rfl,rfl⟩:=askOf_some h3
         have k1:=specParts_each (P:=fun b=>wfB b/\depthB b<e) (fun hand l b r h=>ih hand l b r h) _ _ _ _ h1
         have k2:=wfBs_split _ _ (wfBs_of _ fun p hp=>(k1 p hp).1)
         refine ⟨⟨k2.1,k2.2.1,k2.2.2.1⟩,?_⟩
         rw [depthB_parts]
         have key:∀ (qs:List Bd),(∀ q∈qs,depthB q<e)->depthBs qs<=e:=by
          intro qs
          induction qs with
          | nil=>intro _;simp [depthBs]
          | cons q qs ihq =>
            intro hq
            have h1:=hq q (by simp)
            have h2:=ihq fun x hx=>hq x (by simp [hx])
            simp only [depthBs];omega
         exact Nat.lt_succ_of_le (key _ fun q hq=>(k1 q hq).2)
theorem cut_eq {p l r:Bs} (h:cut p l=some r):l=p++r:=by
 unfold cut at h
 split at h
 ·rename_i hp
  simp at h
  obtain ⟨q,hq⟩:=List.isPrefixOf_iff_prefix.1 hp
  subst hq
  simp at h;rw [h]
 ·simp at h
theorem dec_dd (n:Nat):dec n=Lib.decDigits n:=by
 induction n using Nat.strongRecOn with
 | _ n ih =>
   by_cases h:n<10
   ·rw [dec_small h,Lib.decDigits,dif_pos h];rfl
   ·rw [dec_great h,Lib.decDigits,dif_neg h,ih (n / 10) (Nat.div_lt_self (by omega) (by omega))];rfl
theorem specNum_text {m:Bs} {v k:Nat} (h:specNum m=some (v,k)):m=dec v++m.drop k:=by
 obtain ⟨h1,h2,h3,h4⟩:=specNum_some h
 have hd:dec v=digsOf m:=by
  rw [dec_dd,h2]
  exact decDigits_of _ _ rfl h1 (digsOf_all m) h4
 obtain ⟨q,hq⟩:=digsOf_prefix m
 rw [hd,h3]
 conv=>lhs;rw [<- hq]
 conv=>rhs;rw [<- hq]
 have:digsOf (digsOf m++q)=digsOf m:=by rw [hq]
 rw [this,List.drop_left]
theorem specParts_canon {rd:RdS} (ih:∀ hand l b r,rd hand l=some (b,r)->l=textB b++r):∀ (hs:List (List Ty)) (l:Bs) (ps:List Bd) (r:Bs),specParts rd hs l=some (ps,r)->l=textBs ps++r
 | [],l,ps,r,h=>by simp [specParts] at h;obtain ⟨rfl,rfl⟩:=h;simp [textBs]
 | a::hs,l,ps,r,hx=>by
   simp only [specParts,specPart,Option.bind_eq_bind,Option.bind_eq_some_iff,Prod.exists] at hx
   obtain ⟨b,l1,⟨l0,h0,h1⟩,bs,l2,h2,h3⟩:=hx
   simp at h3;obtain ⟨rfl,rfl⟩:=h3
   rw [cut_eq h0,ih _ _ _ _ h1,specParts_canon ih hs l1 bs l2 h2]
   simp [textBs]
theorem rdN_canon (e:Nat):∀ (hand:List Ty) (l:Bs) (b:Bd) (r:Bs),rdN e hand l=some (b,r)->l=textB b++r:=by
 induction e with
 | zero=>intro hand l b r h;simp [rdN] at h
 | succ e ih =>
   intro hand l b r h
   cases l with
   | nil=>simp [rdN] at h
   | cons c m =>
     simp only [rdN] at h
     split at h
     ·simp at h;obtain ⟨rfl,rfl⟩:=h;simp [textB]
     ·split at h
      ·simp at h
      ·rename_i h40
       have h40:c=40:=by simpa using h40
       subst h40
       split at h
       ·simp at h
       ·rename_i v k hn
        split at h
        ·simp at h
        ·simp only [Option.bind_eq_bind,Option.bind_eq_some_iff,Prod.exists] at h
         obtain ⟨ps,l1,h1,l2,h2,b',h3,h4⟩:=h
         simp at h4;obtain ⟨rfl,rfl⟩:=h4
         obtain ⟨ss,y,no,rfl,rfl⟩:=askOf_some h3
         rw [textB_ask]
         conv=>lhs;rw [specNum_text hn,specParts_canon ih _ _ _ _ h1,cut_eq h2]
         simp
theorem specStrat_some {s text:Bs} {b:Bd} (h:specStrat s text=some b):(specType s).2=true/\rdN 101 (specType s).1.args text=some (b,[])/\sizeB b<=200:=by
 unfold specStrat at h
 split at h
 ·simp at h
 ·rename_i h0
  split at h
  ·simp at h
  ·rename_i b' rest hq
   split at h
   ·rename_i hc
    simp at h;subst h
    obtain ⟨rfl,h2⟩:=hc
    exact ⟨by simpa using (not_or.1 h0).1,hq,h2⟩
   ·simp at h
structure Good (t:Ty) (b:Bd):Prop where
 atoms:atomsT t<=15
 fit:fitB t.args b
 wf:wfB b
 size:sizeB b<=200
 depth:depthB b<=100
theorem specStrat_good {s text:Bs} {b:Bd} (h:specStrat s text=some b):Good (specType s).1 b/\text=textB b:=by
 obtain ⟨h1,h2,h3⟩:=specStrat_some h
 have hw:=rdN_wf _ _ _ _ _ h2
 refine ⟨⟨specType_ok h1,rdN_fit _ h2,hw.1,h3,by have:=hw.2;omega⟩,?_⟩
 have:=rdN_canon _ _ _ _ _ h2
 rwa [List.append_nil] at this
theorem rdK_canon (d:Nat):∀ (l:Bs) (t:Ty) (r:Bs),rdK d l=some (t,r)->l=textT t++r:=by
 induction d with
 | zero =>
   intro l t r h
   rcases cut_cases [98] l with hc | ⟨r',hc⟩
   ·rw [rdK_zero hc] at h;simp at h
   ·rw [rdK_b hc] at h;simp at h;obtain ⟨rfl,rfl⟩:=h;rw [textT_nil];exact cut_eq hc.out
 | succ d ih =>
   intro l t r h
   rcases cut_cases [98] l with hc | ⟨r',hc⟩
   ·rw [rdK_succ hc] at h
    simp only [Option.bind_eq_bind,Option.bind_eq_some_iff,Prod.exists] at h
    obtain ⟨r1,h1,a,r2,h2,r3,h3,b,r4,h4,r5,h5,h6⟩:=h
    simp at h6;obtain ⟨rfl,rfl⟩:=h6
    cases b with
    | mk bs =>
    rw [arrowT,textT_cons,cut_eq h1,ih _ _ _ h2,cut_eq h3,ih _ _ _ h4,cut_eq h5]
    simp [Ty.args]
   ·rw [rdK_b hc] at h;simp at h;obtain ⟨rfl,rfl⟩:=h;rw [textT_nil];exact cut_eq hc.out
theorem specType_canon {l:Bs} (h:(specType l).2=true):l=textT (specType l).1/\atomsT (specType l).1<=15:=by
 refine ⟨?_,specType_ok h⟩
 unfold specType at h ⊢
 split at h
 ·simp at h
 ·rename_i hl
  rw [if_neg hl]
  cases hq:rdS 21 l with
  | none=>rw [hq] at h;simp at h
  | some x =>
    obtain ⟨t,rest⟩:=x
    rw [hq] at h
    simp at h
    obtain ⟨h1,h2⟩:=h
    have hq':rdK 20 l=some (t,rest):=hq
    have hr:=rdK_canon _ _ _ _ hq'
    simp only
    have h3:rest=[]:=by simpa using h1
    rw [h3,List.append_nil] at hr;exact hr
def become (b:Bd) (env:List Mn) (n:Nat):Option Bd:=match ev 20000 20000 b env n [] with
 | some (out,_)=>if sizeB out<=200/\depthB out<=100 then some out else none
 | none=>none
def writes (b:Bd) (env:List Mn) (n:Nat):Option Bd:=(evN 20000 200 20000 b env n []).map (·.1)

def isQ (m:Bs):Bool:=m.head? == some 113
def byOpp (m:Bs):Bool:=decide (m.length % 2=1) == isQ m
def enab (m:Bs):Bs:=if m=[113] then [] else if isQ m then m.dropLast else 113::m.tail
def mvOk (t:Ty):Bs->Bool
 | []=>false
 | c::p=>(c == 113 || c == 116 || c == 102) && (atT t p).isSome
def okAt (t:Ty) (v:Pl) (i:Nat):Bool :=
 match v[i]? with
 | none=>false
 | some x=>mvOk t x.1 && (byOpp x.1 == decide (i % 2=0)) && (if i=0 then x.1 == [113] && decide (x.2 = -1) else decide (0<=x.2) && decide (x.2<(i:Int)) && !(x.1 == [113]) && ((v[x.2.toNat]?).map (·.1) == some (enab x.1)))
def allAt (t:Ty) (v:Pl):Nat->Bool
 | 0=>true
 | n+1=>allAt t v n && okAt t v n
def validPl (t:Ty) (v:Pl):Bool:=decide (v.length<=60) && allAt t v v.length
theorem allAt_at {t:Ty} {v:Pl}:∀ {n i:Nat},allAt t v n=true->i<n->okAt t v i=true
 | 0,i,_,hi=>absurd hi (by omega)
 | n+1,i,h,hi=>by
   rw [allAt,Bool.and_eq_true] at h
   rcases Nat.lt_or_ge i n with h' | h'
   ·exact allAt_at h.1 h'
   ·obtain rfl:i=n:=by omega
    exact h.2
theorem allAt_false {t:Ty} {v:Pl} {i:Nat}:∀ {n:Nat},okAt t v i=false->i<n->allAt t v n=false
 | 0,_,hi=>absurd hi (by omega)
 | n+1,h,hi=>by
   rw [allAt,Bool.and_eq_false_iff]
   rcases Nat.lt_or_ge i n with h' | h'
   ·exact .inl (allAt_false h h')
   ·obtain rfl:i=n:=by omega
    exact .inr h
structure OkMv (t:Ty) (v:Pl) (i:Nat) (c:UInt8) (p:Bs) (z:Int):Prop where
 hc:c=113\/c=116\/c=102
 hp:∃ a,atT t p=some a
 opp:byOpp (c::p)=decide (i % 2=0)
 zero:i=0->c=113/\p=[]/\z = -1
 pos:0<i->0<=z/\z<(i:Int)/\¬ (c::p)=[113]/\∃ y,v[z.toNat]? = some y/\y.1=enab (c::p)
theorem okAt_some {t:Ty} {v:Pl} {i:Nat} (h:okAt t v i=true):∃ c p z,v[i]? = some (c::p,z)/\OkMv t v i c p z:=by
 unfold okAt at h
 cases hv:v[i]? with
 | none=>rw [hv] at h;simp at h
 | some x =>
   rw [hv] at h
   obtain ⟨m,z⟩:=x
   simp only [Bool.and_eq_true,beq_iff_eq] at h
   obtain ⟨⟨h1,h2⟩,h3⟩:=h
   cases m with
   | nil=>simp [mvOk] at h1
   | cons c p =>
     simp only [mvOk,Bool.and_eq_true,Bool.or_eq_true,beq_iff_eq] at h1
     refine ⟨c,p,z,rfl,by rcases h1.1 with (h | h) | h <;> simp [h],Option.isSome_iff_exists.1 h1.2,h2,fun hi=>?_,fun hi=>?_⟩
     ·subst hi
      simp only [if_true,Bool.and_eq_true,beq_iff_eq,decide_eq_true_eq] at h3
      obtain ⟨e,hz⟩:=h3
      simp only [List.cons.injEq] at e
      exact ⟨e.1,e.2,hz⟩
     ·rw [if_neg (by omega)] at h3
      simp only [Bool.and_eq_true,decide_eq_true_eq,beq_iff_eq,Bool.not_eq_true',beq_eq_false_iff_ne] at h3
      obtain ⟨⟨⟨k1,k2⟩,k3⟩,k4⟩:=h3
      refine ⟨k1,k2,k3,?_⟩
      cases hy:v[z.toNat]? with
      | none=>rw [hy] at k4;simp at k4
      | some y =>
        rw [hy] at k4
        exact ⟨y,rfl,by simpa using k4⟩
theorem valid_at {t:Ty} {v:Pl} (h:validPl t v=true) {i:Nat} (hi:i<v.length):∃ c p z,v[i]? = some (c::p,z)/\OkMv t v i c p z:=by
 unfold validPl at h
 rw [Bool.and_eq_true] at h
 exact okAt_some (allAt_at h.2 hi)
theorem valid_len {t:Ty} {v:Pl} (h:validPl t v=true):v.length<=60:=by
 unfold validPl at h
 rw [Bool.and_eq_true] at h
 simpa using h.1
def viewD (v:Pl) (opp:Bool):Nat->Nat->List Nat
 | 0,_=>[]
 | _+1,0=>[]
 | f+1,n+1=>n::viewD v opp f (match v[n]? with | none=>0 | some x=>if byOpp x.1=opp then n else (x.2+1).toNat)
def viewP (v:Pl) (opp:Bool) (n:Nat):List Nat:=(viewD v opp n n).reverse
def backTo (v:Pl) (opp:Bool) (n:Nat):Nat:=match v[n]? with | none=>0 | some x=>if byOpp x.1=opp then n else (x.2+1).toNat
theorem viewD_succ (v:Pl) (opp:Bool) (f n:Nat):viewD v opp (f+1) (n+1)=n::viewD v opp f (backTo v opp n):=by rw [viewD];rfl
theorem viewD_zero (v:Pl) (opp:Bool) (f:Nat):viewD v opp f 0=[]:=by cases f <;> rw [viewD]
theorem backTo_le {t:Ty} {v:Pl} (h:validPl t v=true) (opp:Bool) {n:Nat} (hn:n<v.length):backTo v opp n<=n:=by
 obtain ⟨c,p,z,hv,ho⟩:=valid_at h hn
 unfold backTo
 rw [hv]
 show (if byOpp (c::p)=opp then n else (z+1).toNat)<=n
 split
 ·omega
 ·rcases Nat.eq_zero_or_pos n with h0 | h0
  ·have:=(ho.zero h0).2.2;omega
  ·have:=(ho.pos h0).2.1;omega
theorem viewD_fuel {t:Ty} {v:Pl} (h:validPl t v=true) (opp:Bool) (n:Nat):∀ f,n<=f->n<=v.length->viewD v opp f n=viewD v opp n n:=by
 induction n using Nat.strongRecOn with
 | _ n ih =>
   intro f hf hn
   cases n with
   | zero=>rw [viewD_zero,viewD_zero]
   | succ n =>
     obtain ⟨f,rfl⟩:∃ f',f=f'+1:=⟨f-1,by omega⟩
     rw [viewD_succ,viewD_succ]
     have hb:=backTo_le h opp (show n<v.length by omega)
     rw [ih _ (by omega) f (by omega) (by omega),ih _ (by omega) n hb (by omega)]
theorem isQ_cons (c:UInt8) (p:Bs):isQ (c::p)=(c == 113):=by
 show (some c == some 113)=_
 rfl
theorem byOpp_cons (c:UInt8) (p:Bs):byOpp (c::p)=(decide (p.length % 2=0) == (c == 113)):=by
 unfold byOpp
 rw [isQ_cons,List.length_cons]
 congr 1
 simp only [decide_eq_decide];omega
theorem byOpp_enab {c:UInt8} {p:Bs} (h:¬ (c::p)=[113]):byOpp (enab (c::p)) = !byOpp (c::p):=by
 unfold enab
 rw [if_neg h,isQ_cons]
 by_cases hc:c=113
 ·subst hc
  cases p with
  | nil=>exact absurd rfl h
  | cons d q =>
    rw [show ((113:UInt8) == 113)=true from rfl,if_pos rfl,byOpp_cons]
    rw [show (113::d::q).dropLast=113::(d::q).dropLast from rfl,byOpp_cons,List.length_dropLast,List.length_cons]
    rcases Nat.mod_two_eq_zero_or_one q.length with hq | hq
    ·rw [show (q.length+1-1) % 2=0 from by omega,show (q.length+1) % 2=1 from by omega];rfl
    ·rw [show (q.length+1-1) % 2=1 from by omega,show (q.length+1) % 2=0 from by omega];rfl
 ·rw [show (c == 113)=false from by simp [hc],if_neg (by simp),List.tail_cons,byOpp_cons,byOpp_cons,show (c == 113)=false from by simp [hc]]
  cases decide (p.length % 2=0) <;> rfl
structure OppMv (t:Ty) (v:Pl) (k:Nat) (m:Bs) (z:Nat):Prop where
 at':v[k]? = some (m,(z:Int))
 lt:z<k
 odd:z % 2=1
 en:∃ y,v[z]? = some y/\y.1=enab m
theorem opp_mv {t:Ty} {v:Pl} (h:validPl t v=true) {k:Nat} (hk:k<v.length) (he:k % 2=0) (h0:0<k):∃ c p z,OppMv t v k (c::p) z/\OkMv t v k c p (z:Int):=by
 obtain ⟨c,p,z,hv,ho⟩:=valid_at h hk
 obtain ⟨h1,h2,h3,y,hy,hye⟩:=ho.pos h0
 obtain ⟨n,rfl⟩:∃ n:Nat,z=(n:Int):=⟨z.toNat,by omega⟩
 rw [Int.toNat_natCast] at hy
 refine ⟨c,p,n,⟨hv,by omega,?_,y,hy,hye⟩,ho⟩
 obtain ⟨c',p',z',hv',ho'⟩:=valid_at h (show n<v.length by omega)
 rw [hv'] at hy
 obtain rfl:=Option.some.inj hy
 have h5:=ho'.opp
 simp only at hye
 rw [hye,byOpp_enab h3,ho.opp] at h5
 rcases Nat.mod_two_eq_zero_or_one n with hn | hn
 ·rw [he,hn] at h5;simp at h5
 ·exact hn
theorem viewP_first {t:Ty} {v:Pl} (h:validPl t v=true) (hl:0<v.length):viewP v false 1=[0]:=by
 obtain ⟨c,p,z,hv,ho⟩:=valid_at h hl
 unfold viewP
 rw [viewD_succ,viewD]
 rfl
theorem viewP_step {t:Ty} {v:Pl} (h:validPl t v=true) {k:Nat} (hk:k<v.length) {m:Bs} {z:Nat} (ho:OppMv t v k m z) (hb:byOpp m=true):viewP v false (k+1)=viewP v false z++[z,k]:=by
 have hb1:backTo v false k=z+1:=by
  unfold backTo
  rw [ho.at']
  simp only [hb]
  rw [if_neg (by simp)];omega
 have hlt:=ho.lt
 obtain ⟨c',p',z',hv',ho'⟩:=valid_at h (show z<v.length by omega)
 have hb2:backTo v false z=z:=by
  unfold backTo
  rw [hv']
  simp only [ho'.opp]
  rw [if_pos (by simp [ho.odd])]
 unfold viewP
 rw [viewD_succ,hb1,viewD_fuel h false (z+1) k (by omega) (by omega),viewD_succ,hb2]
 simp
abbrev St:=Bd×List Place×Place
def lastD (p:Bs):Nat:=(p.getLast?.getD 48).toNat-48
def stepW (t:Ty) (s:St) (m:Bs) (k:Nat):Option St :=
 match s.1 with
 | .leaf _=>none
 | .ask _ ss y n=>match m with
   | []=>none
   | c::p=>if c=113 then (ss[lastD p]?).map fun b=>(b,s.2.1++placesOf (argsAt t p) k p,(k,p)) else some (if c=102 then n else y,s.2)
def told (s:St):Option (Bs×Int) :=
 match s.1 with
 | .leaf c=>if c=117 then none else some (c::s.2.2.2,(s.2.2.1:Int))
 | .ask l _ _ _=>(s.2.1[l]?).map fun pl=>(113::pl.2,(pl.1:Int))
def startW (t:Ty) (b:Bd):St:=(b,placesOf t.args.length 0 [],(0,[]))
def placeF (t:Ty) (b:Bd) (v:Pl):Nat->Nat->Option St
 | 0,_=>none
 | f+1,n=>if n<=1 then some (startW t b) else match v[n-1]? with
   | none=>none
   | some x=>(placeF t b v f x.2.toNat).bind fun s=>stepW t s x.1 (n-1)
def placeAt (t:Ty) (b:Bd) (v:Pl) (n:Nat):Option St:=placeF t b v (n+1) n
theorem placeF_fuel {t:Ty} {v:Pl} (h:validPl t v=true) (b:Bd) (n:Nat):∀ f,n<f->n<=v.length->placeF t b v f n=placeF t b v (n+1) n:=by
 induction n using Nat.strongRecOn with
 | _ n ih =>
   intro f hf hn
   obtain ⟨f,rfl⟩:∃ f',f=f'+1:=⟨f-1,by omega⟩
   rw [placeF,placeF]
   by_cases h1:n<=1
   ·rw [if_pos h1,if_pos h1]
   ·rw [if_neg h1,if_neg h1]
    obtain ⟨c,p,z,hv,ho⟩:=valid_at h (show n-1<v.length by omega)
    rw [hv]
    have:=(ho.pos (by omega)).2.1
    simp only
    rw [ih z.toNat (by omega) f (by omega) (by omega),ih z.toNat (by omega) n (by omega) (by omega)]
theorem placeAt_first (t:Ty) (b:Bd) (v:Pl):placeAt t b v 1=some (startW t b):=by
 unfold placeAt
 rw [placeF,if_pos (Nat.le_refl _)]
theorem placeAt_step {t:Ty} {v:Pl} (h:validPl t v=true) (b:Bd) {k:Nat} (hk:k<v.length) (h0:0<k) {m:Bs} {z:Nat} (ho:OppMv t v k m z):placeAt t b v (k+1)=(placeAt t b v z).bind fun s=>stepW t s m k:=by
 unfold placeAt
 rw [placeF,if_neg (by omega),Nat.add_sub_cancel,ho.at']
 simp only [Int.toNat_natCast]
 rw [placeF_fuel h b z (k+1) (by have:=ho.lt;omega) (by have:=ho.lt;omega)]
def replyAt (t:Ty) (b:Bd) (v:Pl) (n:Nat):Option (Bs×Int):=(placeAt t b v n).bind told
def followsTo (t:Ty) (b:Bd) (v:Pl) (n:Nat):Prop:=∀ i,i<n->i % 2=1->replyAt t b v i=v[i]?
instance (t:Ty) (b:Bd) (v:Pl) (n:Nat):Decidable (followsTo t b v n):=inferInstanceAs (Decidable (∀ i,i<n->i % 2=1->replyAt t b v i=v[i]?))
structure StFit (t:Ty) (hand:List Ty) (s:St) (n:Nat):Prop where
 fit:fitB hand s.1
 pf:PlFit t s.2.1 hand n
 wf:wfB s.1
 bg:s.2.2.1<n
 bgt:∃ a,atT t s.2.2.2=some a
 ll:s.2.1.length<=8*n
theorem startW_fit {t:Ty} {b:Bd} (h15:atomsT t<=15) (hf:fitB t.args b) (hw:wfB b):StFit t t.args (startW t b) 1:=by
 have h1:=args_len t
 refine ⟨hf,?_,hw,by show 0<1;omega,⟨t,atT_nil t⟩,?_⟩
 ·have h0:PlFit t [] [] 0:=⟨rfl,fun i a h=>by simp at h⟩
  have:=h0.kid (m:=1) (k:=0) (by omega) (by omega) (atT_nil t) (by omega)
  show PlFit t (placesOf t.args.length 0 []) t.args 1
  simpa using this
 ·show (placesOf t.args.length 0 []).length<=8
  rw [placesOf_length];omega
structure StepD (t:Ty) (hand:List Ty) (s:St) (l:Nat) (ss:List Bd) (y n:Bd) (a:Ty) (pl:Place) (c:UInt8) (p:Bs):Prop where
 body:s.1=.ask l ss y n
 lv:s.2.1[l]? = some pl
 hh:hand[l]? = some a
 hat:atT t pl.2=some a
 len:ss.length=a.args.length
 fs:fitBs (hands hand a.args) ss
 fy:fitB hand y
 fn:fitB hand n
 mv:(c=113/\∃ j aj sb,p=pl.2++[digit j]/\j<10/\a.args[j]? = some aj/\ss[j]? = some sb/\atT t p=some aj/\lastD p=j)\/(c=116\/c=102)/\p=pl.2
theorem lastD_digit (p:Bs) {j:Nat} (hj:j<10):lastD (p++[digit j])=j:=by
 unfold lastD
 simp [digit_nat hj]
theorem step_data {t:Ty} {v:Pl} {hand:List Ty} {s:St} {k z:Nat} {c:UInt8} {p:Bs} {x:Bs×Int} (h15:atomsT t<=15) (hs:StFit t hand s z) (ho:OkMv t v k c p (z:Int)) (hk0:0<k) (hx:x.1=enab (c::p)) (ht:told s=some x) :
 ∃ l ss y n a pl,StepD t hand s l ss y n a pl c p:=by
 obtain ⟨_,_,hne,_⟩:=ho.pos hk0
 have hq:∃ q,x.1=113::q:=by
  rw [hx]
  unfold enab
  rw [if_neg hne,isQ_cons]
  by_cases hc:c=113
  ·subst hc
   cases p with
   | nil=>exact absurd rfl hne
   | cons d q=>exact ⟨(d::q).dropLast,rfl⟩
  ·rw [show (c == 113)=false from by simp [hc]];exact ⟨p,rfl⟩
 obtain ⟨b,lv,bg⟩:=s
 cases b with
 | leaf d =>
   unfold told at ht
   simp only at ht
   split at ht
   ·simp at ht
   ·obtain rfl:=Option.some.inj ht
    obtain ⟨q,hq⟩:=hq
    simp only [List.cons.injEq] at hq
    have hw:=hs.wf
    rw [show ((Bd.leaf d,lv,bg):St).1=.leaf d from rfl,wfB] at hw
    rcases hw with h | h | h <;> rw [h] at hq <;> exact absurd hq.1 (by decide)
 | ask l ss y n =>
   have hf:=hs.fit
   have hf2:=fit_parts hf
   rw [show ((Bd.ask l ss y n,lv,bg):St).1=.ask l ss y n from rfl] at hf
   rw [fitB] at hf
   obtain ⟨a,h1,h2,h3,h4⟩:=hf
   obtain ⟨a',h1',_,hlen⟩:=hf2
   obtain rfl:a=a':=Option.some.inj (h1.symm.trans h1')
   obtain ⟨pl,hl,hat,_⟩:=hs.pf.each l a h1
   have hl':lv[l]? = some pl:=hl
   unfold told at ht
   simp only [hl',Option.map_some] at ht
   obtain rfl:=Option.some.inj ht
   simp only at hx
   have hal:=atT_len _ _ _ hat
   have hargs:=args_len a
   refine ⟨l,ss,y,n,a,pl,rfl,hl,h1,hat,hlen,h2,h3,h4,?_⟩
   unfold enab at hx
   rw [if_neg hne,isQ_cons] at hx
   by_cases hc:c=113
   ·subst hc
    rw [show ((113:UInt8) == 113)=true from rfl,if_pos rfl] at hx
    refine .inl ⟨rfl,?_⟩
    have hp0:p≠[]:=fun e=>hne (by rw [e])
    obtain ⟨q,d,rfl⟩:∃ q d,p=q++[d]:=⟨p.dropLast,p.getLast hp0,(List.dropLast_concat_getLast hp0).symm⟩
    rw [show (113::(q++[d])).dropLast=113::q from by rw [<- List.cons_append,List.dropLast_concat]] at hx
    simp only [List.cons.injEq,true_and] at hx
    subst hx
    obtain ⟨aj,haj⟩:=ho.hp
    have haj':=haj
    rw [atT_append,hat,Option.bind_some,atT_cons] at haj'
    split at haj'
    ·rename_i h48
     cases hq:a.args[d.toNat-48]? with
     | none=>rw [hq] at haj';simp at haj'
     | some a2 =>
       rw [hq] at haj'
       simp only [atT_nil] at haj'
       obtain rfl:=Option.some.inj haj'
       have hlt:=(List.getElem?_eq_some_iff.1 hq).1
       have hdj:d=digit (d.toNat-48):=by
        apply UInt8.toNat_inj.1
        rw [digit_nat (by omega)];omega
       refine ⟨d.toNat-48,a2,ss[d.toNat-48]'(by omega),by rw [<- hdj],by omega,hq,List.getElem?_eq_getElem (by omega),haj,?_⟩
       rw [hdj,lastD_digit _ (by omega),<- hdj]
    ·simp at haj'
   ·rw [show (c == 113)=false from by simp [hc],if_neg (by simp),List.tail_cons] at hx
    simp only [List.cons.injEq,true_and] at hx
    refine .inr ⟨?_,hx.symm⟩
    rcases ho.hc with h | h | h
    ·exact absurd h hc
    ·exact .inl h
    ·exact .inr h
theorem StepD.next {t:Ty} {hand:List Ty} {s:St} {l:Nat} {ss:List Bd} {y n:Bd} {a:Ty} {pl:Place} {c:UInt8} {p:Bs} {z k:Nat} (h:StepD t hand s l ss y n a pl c p) (hs:StFit t hand s z) (hzk:z<=k) (hz1:1<=z) (h15:atomsT t<=15) :
 ∃ s' hand',stepW t s (c::p) k=some s'/\StFit t hand' s' (k+1):=by
 have hal:=atT_len _ _ _ h.hat
 have hargs:=args_len a
 have hw:=hs.wf
 rw [h.body,wfB] at hw
 have hll:=hs.ll
 have hbg:=hs.bg
 unfold stepW
 rw [h.body]
 simp only
 rcases h.mv with ⟨rfl,j,aj,sb,hp,hj,haj,hsb,hat,hld⟩ | ⟨hc,hp⟩
 ·rw [if_pos rfl,hld,hsb]
  obtain ⟨h',hh',hfs⟩:=fitBs_at ss _ h.fs j sb hsb
  rw [hands,List.getElem?_map,Option.map_eq_some_iff] at hh'
  obtain ⟨aj',haj',rfl⟩:=hh'
  obtain rfl:aj=aj':=Option.some.inj (haj.symm.trans haj')
  have e0:argsAt t p=aj.args.length:=by unfold argsAt;rw [hat]
  have e1:=atT_len _ _ _ hat
  have e2:=args_len aj
  refine ⟨_,hand++aj.args,rfl,hfs,?_,wfBs_at _ hw.1 j sb hsb,by show k<k+1;omega,⟨aj,hat⟩,?_⟩
  ·show PlFit t (s.2.1++placesOf (argsAt t p) k p) (hand++aj.args) (k+1)
   rw [e0]
   exact hs.pf.kid (by omega) (by omega) hat (by omega)
  ·show (s.2.1++placesOf (argsAt t p) k p).length<=8*(k+1)
   rw [e0,List.length_append,placesOf_length];omega
 ·have hc':¬ c=113:=by rcases hc with h | h <;> rw [h] <;> decide
  rw [if_neg hc']
  refine ⟨_,hand,rfl,?_,hs.pf.mono (by omega),?_,by show s.2.2.1<k+1;omega,hs.bgt,by show s.2.1.length<=_;omega⟩
  ·show fitB hand (if c=102 then n else y)
   split
   ·exact h.fn
   ·exact h.fy
  ·show wfB (if c=102 then n else y)
   split
   ·exact hw.2.2
   ·exact hw.2.1
theorem place_fits {t:Ty} {b:Bd} {v:Pl} (h15:atomsT t<=15) (hf:fitB t.args b) (hw:wfB b) (hv:validPl t v=true) (k:Nat):k<v.length->k % 2=0->followsTo t b v k->∃ s hand,placeAt t b v (k+1)=some s/\StFit t hand s (k+1):=by
 induction k using Nat.strongRecOn with
 | _ k ih =>
   intro hk he hfo
   rcases Nat.eq_zero_or_pos k with h0 | h0
   ·subst h0
    exact ⟨_,_,placeAt_first t b v,startW_fit h15 hf hw⟩
   ·obtain ⟨c,p,z,ho,hok⟩:=opp_mv hv hk he h0
    have hlt:=ho.lt
    have hodd:=ho.odd
    obtain ⟨z',rfl⟩:∃ z',z=z'+1:=⟨z-1,by omega⟩
    obtain ⟨s,hand,hp,hs⟩:=ih z' (by omega) (by omega) (by omega) (fun i hi h=>hfo i (by omega) h)
    obtain ⟨x,hx,hxe⟩:=ho.en
    have hr:=hfo (z'+1) (by omega) hodd
    unfold replyAt at hr
    rw [hp,Option.bind_some,hx] at hr
    obtain ⟨l,ss,y,n,a,pl,hd⟩:=step_data h15 hs hok h0 hxe hr
    obtain ⟨s',hand',h1,h2⟩:=hd.next (k:=k) hs (by omega) (by omega) h15
    exact ⟨s',hand',by rw [placeAt_step hv b hk h0 ho,hp,Option.bind_some,h1],h2⟩
structure ViewC (t:Ty) (v:Pl) (vw:List Nat) (k:Nat):Prop where
 odd:vw.length % 2=1
 zero:vw[0]? = some 0
 last:vw[vw.length-1]? = some k
 len:vw.length<=k+1
 all:∀ (i e:Nat),vw[i]? = some e->e<=k
 step:∀ j,2*j+2<vw.length->∃ e e' c p,vw[2*j]? = some e/\vw[2*j+2]? = some e'/\e' % 2=0/\0<e'/\e'<=k/\OppMv t v e' (c::p) (e+1)/\OkMv t v e' c p ((e+1:Nat):Int)
theorem view_chain {t:Ty} {v:Pl} (hv:validPl t v=true) (k:Nat):k<v.length->k % 2=0->ViewC t v (viewP v false (k+1)) k:=by
 induction k using Nat.strongRecOn with
 | _ k ih =>
   intro hk he
   rcases Nat.eq_zero_or_pos k with h0 | h0
   ·subst h0
    rw [viewP_first hv hk]
    refine ⟨rfl,rfl,rfl,Nat.le_refl _,fun i e h=>?_,fun j hj=>by simp at hj⟩
    cases i with
    | zero=>obtain rfl:=Option.some.inj h;omega
    | succ i=>simp at h
   ·obtain ⟨c,p,z,ho,hok⟩:=opp_mv hv hk he h0
    have hlt:=ho.lt
    have hodd:=ho.odd
    obtain ⟨z',rfl⟩:∃ z',z=z'+1:=⟨z-1,by omega⟩
    have hc:=ih z' (by omega) (by omega) (by omega)
    rw [viewP_step hv hk ho (by rw [hok.opp];simp [he])]
    obtain ⟨vw,hvw⟩:=zzN (viewP v false (z'+1))
    rw [hvw] at hc ⊢
    have hl1:=hc.odd
    refine ⟨by rw [List.length_append];show (vw.length+2) % 2=1;omega,?_,?_,?_,?_,?_⟩
    ·rw [List.getElem?_append_left (by omega)];exact hc.zero
    ·rw [List.length_append,List.getElem?_append_right (by simp),show vw.length+[z'+1,k].length-1-vw.length=1 from by simp];rfl
    ·rw [List.length_append];have:=hc.len;show vw.length+2<=k+1;omega
    ·intro i e h
     rcases Nat.lt_or_ge i vw.length with hi | hi
     ·rw [List.getElem?_append_left hi] at h;have:=hc.all i e h;omega
     ·rw [List.getElem?_append_right hi] at h
      have:=List.mem_of_getElem? h
      simp only [List.mem_cons,List.not_mem_nil,or_false] at this
      omega
    ·intro j hj
     rw [List.length_append] at hj
     have hj':2*j+2<vw.length+2:=hj
     rcases Nat.lt_or_ge (2*j+2) vw.length with h' | h'
     ·obtain ⟨e,e',c',p',h1,h2,h3,h4,h5,h6,h7⟩:=hc.step j h'
      exact ⟨e,e',c',p',by rw [List.getElem?_append_left (by omega)];exact h1,by rw [List.getElem?_append_left h'];exact h2,h3,h4,by omega,h6,h7⟩
     ·have hjl:2*j+1=vw.length:=by omega
      refine ⟨z',k,c,p,?_,?_,he,h0,Nat.le_refl _,ho,hok⟩
      ·rw [List.getElem?_append_left (by omega)]
       have:=hc.last
       rw [show vw.length-1=2*j from by omega] at this;exact this
      ·rw [List.getElem?_append_right (by omega),show 2*j+2-vw.length=1 from by omega];rfl
theorem atT_step {t:Ty} {p:Bs} {j:Nat} {a:Ty} (hj:j<p.length) (h:atT t (p.take j)=some a):atT t (p.take (j+1))=if 48<=p[j].toNat then a.args[p[j].toNat-48]? else none:=by
 rw [List.take_add_one,List.getElem?_eq_getElem hj,Option.toList_some,atT_append,h,Option.bind_some,atT_cons]
 split
 ·cases a.args[p[j].toNat-48]? with
  | none=>rfl
  | some b=>exact atT_nil b
 ·rfl
theorem atT_none {t:Ty} {p:Bs} {j:Nat} (h:atT t (p.take j)=none):atT t p=none:=by
 rw [<- List.take_append_drop j p,atT_append,h];rfl
def KAtPost (F:Nat->Prop) (t:Ty) (p:Bs) (w:World) (en:Ending) (w':World):Prop :=
 ∃ v,en=.returned v/\w'=w/\(atT t p=none->v=.pointer none)/\∀ a,atT t p=some a->Rep F w (encK a) v
set_option maxRecDepth 20000 in
theorem kindAt_any (F:Nat->Prop) (t:Ty) (p:Bs) (kv:Value) (w:World) (h:Rep F w (encK t) kv) (ht:atomsT t<=15) (hp:Lim p.length) :
 Calls Tryz.prog 189 #[kv,str p] w (KAtPost F t p w):=by
 have hl':=hp.le
 go_enter Tryz.func189,Tryz.ntmps189
 go_wp2_with fail
 go_loop [0,9] (fun k i=>∃ (j:Nat) (a:Ty),j<=p.length/\i=.int .i64 j/\atT t (p.take j)=some a/\Rep F w (encK a) k) (fun _ i=>p.length-(intOf i).toNat)
 case atStart=>exact ⟨0,t,Nat.zero_le _,rfl,by rw [List.take_zero];exact atT_nil t,h⟩
 case round =>
  clear h
  obtain ⟨j,a,hj,rfl,hat,hr⟩:=hrel
  obtain ⟨kb,ks,e,hF,hb,hrs⟩:=encK_open hr
  subst e
  by_cases hlt:j<p.length
  ·have hlt':(j:Int)<(p.length:Int):=by omega
   obtain ⟨sa,sc,e,hcap,hlen,hats⟩:=Rep_sl1_open hrs
   subst e
   have c0:w.cell? ⟨kb,0,none⟩=some (.slice sa a.args.length sc):=by simp [World.cell?,hb]
   have ha15:=atT_len _ _ _ hat
   have hargs:=args_len a
   have hal:a.args.length<=7:=by omega
   obtain ⟨x,hx⟩:∃ x:Nat,p[j].toNat=x:=⟨_,rfl⟩
   have hx256:x<256:=by rw [<- hx];exact UInt8.toNat_lt _
   have B:((((⟨p.toArray⟩:ByteArray)[j]'(lt_str hlt)).toNat:Int))=(x:Int):=by rw [byte_int hlt,hx]
   have hw1:IntKind.i64.wrap (x:Int)=(x:Int):=wrap_nat x (by omega)
   have hst:=atT_step hlt hat
   rw [hx] at hst
   have HS:=Lib.hid hst
   have HH:=Lib.hid (And.intro hats (And.intro hlen hcap))
   clear hst hats hlen hcap hb hrs hr hat ha15 hargs hx
   by_cases hA:x<48
   ·have hw2:IntKind.i64.wrap ((x:Int)-48)=(x:Int)-48:=by simp [IntKind.wrap,IntKind.bits,IntKind.signed];omega
    have hneg:(x:Int)-48<0:=by omega
    have HN:=Lib.hid (show atT t p=none from atT_none (j:=j+1) (by rw [HS.out,if_neg (show ¬ 48<=x by omega)]))
    clear hA HS HH
    go_wp2_with fail
    go_ret
    exact ⟨_,rfl,rfl,fun _=>rfl,fun b hb=>by rw [HN.out] at hb;simp at hb⟩
   ·obtain ⟨n,hnx⟩:∃ n,x=n+48:=⟨x-48,by omega⟩
    have hw2:IntKind.i64.wrap ((x:Int)-48)=(n:Int):=by rw [show (x:Int)-48=(n:Int) from by omega];exact wrap_nat n (by omega)
    have hge:¬ (n:Int)<0:=by omega
    have hs2:=HS.out
    rw [if_pos (show 48<=x by omega),show x-48=n from by omega] at hs2
    have HS2:=Lib.hid hs2
    clear hs2 HS hA hx256 hnx
    by_cases hB:a.args.length<=n
    ·have hB':(a.args.length:Int)<=(n:Int):=by omega
     have HN:=Lib.hid (show atT t p=none from atT_none (j:=j+1) (by rw [HS2.out];exact List.getElem?_eq_none hB))
     clear hB HH
     go_wp2_with fail
     go_ret
     exact ⟨_,rfl,rfl,fun _=>rfl,fun b hb=>by rw [HN.out] at hb;simp at hb⟩
    ·have hB':¬ (a.args.length:Int)<=(n:Int):=by omega
     have h9:¬ (9:Int)<(n:Int):=by omega
     have hn0:(0:Int)<=(n:Int):=by omega
     have hnl:(n:Int)<(a.args.length:Int):=by omega
     obtain ⟨b,o,u,d,ea,hFb,hblt,hd,hc,hru⟩:=HH.out.1 n (by omega)
     subst ea
     rw [encKs_at,Option.map_eq_some_iff] at hd
     obtain ⟨c,hcn,rfl⟩:=hd
     have HC:=Lib.hid (And.intro hcn hru)
     clear hcn hru hB HH
     go_wp2_with fail
     go_round
     case rel=>exact ⟨j+1,c,by omega,by go_num,by rw [HS2.out];exact HC.out.1,HC.out.2⟩
     case measure=>simp only [intOf];omega
  ·obtain rfl:j=p.length:=by omega
   rw [List.take_length] at hat
   have HA:=Lib.hid (And.intro hat hr)
   clear hat hr hb hrs hlt
   go_wp2_with fail
   go_ret
   exact ⟨_,rfl,rfl,fun h=>(by rw [HA.out.1] at h;simp at h),fun b hb=>(by rw [HA.out.1] at hb;obtain rfl:=Option.some.inj hb;exact HA.out.2)⟩
structure Fr where
 yes:Bd
 no:Bd
 env:List Clo
 begun:Nat
 path:Bs
def frFit (fr:Fr):Prop:=∃ hand,envFit fr.env hand/\fitB hand fr.yes/\fitB hand fr.no
def Ma (w:World) (ma most moves:Nat):Prop:=w.heap[ma]? = some (.cells #[.slice none 0 0,.slice none 0 0,.int .i64 (most:Nat),.int .i64 (moves:Nat),.bool false] 159 (0,0))
theorem Ma.cells {w:World} {ma most moves:Nat} (h:Ma w ma most moves):w.cell? ⟨ma,2,none⟩=some (.int .i64 (most:Nat))/\w.cell? ⟨ma,3,none⟩=some (.int .i64 (moves:Nat))/\w.cell? ⟨ma,4,none⟩=some (.bool false)/\w.frozen? ⟨ma,3,none⟩=false:=by
 unfold Ma at h
 exact ⟨by simp [World.cell?,h],by simp [World.cell?,h],by simp [World.cell?,h],by simp [World.frozen?,h]⟩
theorem Ma.but {m:Nat->Prop} {w w':World} {ma most moves:Nat} (h:Ma w ma most moves) (hb:But m w w') (hm:¬ m ma):Ma w' ma most moves:=by
 unfold Ma;rw [hb.block ma (lt_of_heap h) hm];exact h
theorem Ma.below {w w':World} {ma most moves:Nat} (h:Ma w ma most moves) (hb:Below w.heap.size w w'):Ma w' ma most moves:=by
 unfold Ma;rw [hb.block ma (lt_of_heap h)];exact h
theorem Ma.drewN {w:World} {ma most moves:Nat} (h:Ma w ma most moves) (n:Nat):Ma (w.drewN n) ma most moves:=h
def GlobT (w:World):Prop:=∃ te pe,w.cell? ⟨0,0,none⟩=some (.iface te pe)
theorem GlobT.but {m:Nat->Prop} {w w':World} (h:GlobT w) (hb:But m w w') (hm:¬ m 0):GlobT w':=by
 obtain ⟨te,pe,h⟩:=h
 exact ⟨te,pe,(hb.cell (World.block_lt_of_cell? w _ h) hm).trans h⟩
theorem SrcSl.litk {w:World} {e:TypeId} {sz:Nat} (cs:Array Value) (hn:cs.size=sz) (hc:∀ u∈cs.toList,u.oneCell'=true) (g:Nat) (hg:g=w.heap.size):SrcSl sz (.slice (some ⟨g,0,none⟩) 1 1) 1 cs.toList (w.alloc (.cells cs e)):=by
 subst hg
 refine ⟨by simp [hn],hc,.inl ⟨_,_,rfl,fun j u hu=>?_⟩⟩
 unfold Addr.add
 split
 ·subst j;simp;simpa using hu
 ·simp;simpa using hu
def plcs (begun:Nat) (path:Bs):Nat->List Value
 | 0=>[]
 | n+1=>plcs begun path n++[.int .i64 (begun:Nat),str (path++dec n)]
theorem dec_decDigits (n:Nat):dec n=Lib.decDigits n:=by
 induction n using Nat.strongRecOn with
 | _ n ih =>
   by_cases h:n<10
   ·rw [dec_small h,Lib.decDigits,dif_pos h];rfl
   ·rw [dec_great h,Lib.decDigits,dif_neg h,ih (n / 10) (Nat.div_lt_self (by omega) (by omega))];rfl
theorem itoa_dec (i:Nat):Lib.itoa (i:Int)=dec i:=by
 rw [dec_decDigits,Lib.itoa,if_neg (by omega)];rfl
theorem Tryz.infoPl:(Tryz.prog.info? 148).map (fun i=>(i.zero,i.size,i.bytes))=some (some (.agg #[.int .i64 0,str []]),2,24):=by kernel_rfl
def FreshSl (w:World) (e:TypeId) (sz n:Nat) (xs:List Value) (en:Ending) (w':World):Prop :=
 ∃ a c,en=.returned (.slice a n c)/\Own w' e sz (.slice a n c) n xs/\Below w.heap.size w w'/\(∀ g,(Value.slice a n c).ownBlock=some g->w.heap.size<=g)
set_option maxRecDepth 100000 in
theorem places_any (n begun:Nat) (path:Bs) (w:World) (hg:Glob w) (hn:n<=16) (hp:path.length<=1000000) :
 Calls Tryz.prog 168 #[.int .i64 (n:Nat),.int .i64 (begun:Nat),str path] w (FreshSl w 148 2 n (plcs begun path n)):=by
 have HG:=Lib.hid hg;clear hg
 go_enter Tryz.func168,Tryz.ntmps168
 go_wp2_with fail
 go_loopw [7,10] (fun o i wr=>∃ k:Nat,k<=n/\i=.int .i64 k/\∃ a c,o=.slice a k c/\Own wr 148 2 (.slice a k c) k (plcs begun path k)/\Below w.heap.size w wr/\(∀ g,(Value.slice a k c).ownBlock=some g->w.heap.size<=g)) (fun _ i _=>n-(intOf i).toNat)
 case atStart=>exact ⟨0,Nat.zero_le _,rfl,none,0,rfl,World.ownsRow_nil _ _ _ _,Below.refl _ _,fun g h=>by simp [Value.ownBlock] at h⟩
 case round =>
  obtain ⟨k,hk,rfl,a,c,rfl,ho,hb,hf⟩:=hrel
  have HO:=Lib.hid ho;have HF:=Lib.hid hf;have HB:=Lib.hid hb
  clear ho hf hb
  by_cases hlt:k<n
  ·have hlt':(k:Int)<(n:Int):=by omega
   have hdl:(dec k).length<=2:=dec_length 1 k (by omega)
   have hadd:=fun w0=>add_str (P:=Tryz.prog) path (dec k) (by omega) w0
   have hgw:=Lib.hid (HG.out.below HB.out)
   have HI:=Lib.hid (itoa_dec k)
   go_wp2_with fail
   refine (itoa_any (k:Int) _ hgw.out (by omega) (by omega)).mono ?_
   rintro en w1 ⟨rfl,hb1⟩
   rw [HI.out]
   generalize hS:path++dec k=S at *
   have HS:=Lib.hid hS;clear hS
   have z1:=hb1.size
   have HB1:=Lib.hid hb1;clear hb1
   go_wp2_with (at_builtin;refine wpList_append_gen rfl _ _ 146 rfl 148 (.agg #[.int .i64 0,str []]) 2 24 Tryz.underlying146 Tryz.infoPl rfl (by decide) (.slice a k c) k (plcs begun path k) rfl ?c1 _ 1 [.int .i64 (begun:Nat),str S] rfl ?c2 ?c3 ?c4 ?_)
   case c1=>exact (HO.out.keep fun g o _ ho=>by rw [HB1.out.block g (lt_of_heap ho)];exact ho).alloc _
   case c2=>exact SrcSl.litk #[.int .i64 (begun:Nat),str S] rfl (by simp [str,Value.oneCell']) _ (by simp)
   case c3=>unfold maxLen;omega
   case c4=>omega
   intro a' c' w7 ho7 hb7 hg7
   have hA:Own w7 148 2 (.slice a' (k+1) c') (k+1) (plcs begun path (k+1)):=by
    rw [plcs,HS.out];exact ho7
   have hb17:Below w.heap.size w w7:=by
    have h1:=zzT HB.out HB1.out
    refine (h1.alloc h1.size _).trans (hb7.toBelow (by rw [size_alloc];have:=h1.size;omega) fun i hi e=>?_)
    have:=HF.out i e;omega
   have hf7:∀ g,(Value.slice a' (k+1) c').ownBlock=some g->w.heap.size<=g:=by
    intro g h
    rcases hg7 g h with h | h
    ·exact HF.out g h
    ·have h2:=HB.out.size
     have h3:g=w1.heap.size+1:=by simpa using h
     omega
   have HA:=Lib.hid (And.intro hA (And.intro hb17 hf7));clear hA hb17 hf7 ho7 hb7 hg7
   go_wp2_with fail
   go_roundw
   case rel=>exact ⟨k+1,by omega,by go_num,a',c',rfl,HA.out.1,HA.out.2.1,HA.out.2.2⟩
   case measure=>simp [intOf];omega
  ·obtain rfl:k=n:=by omega
   go_wp2_with fail
   go_ret
   exact ⟨a,c,rfl,HO.out,HB.out,HF.out⟩
theorem Own.at {w:World} {e:TypeId} {sz n:Nat} {xs:List Value} {v:Value} (h:Own w e sz v n xs) {j:Nat} {u:Value} (hj:xs[j]? = some u):∃ g c,v=.slice (some ⟨g,0,none⟩) n c/\w.cell? ⟨g,j,none⟩=some u:=by
 have hlt:=(List.getElem?_eq_some_iff.1 hj).1
 rcases h.2 with ⟨_,h0⟩ | ⟨g,cap,cur,rfl,_,hg,hnc,_,hcs,ht⟩
 ·have:=h.1;rw [h0,Nat.zero_mul] at this;omega
 ·refine ⟨g,cap,rfl,?_⟩
  rw [<- ht] at hj
  rw [List.getElem?_take] at hj
  split at hj
  ·simp only [World.cell?,hg];simpa using hj
  ·simp at hj
theorem Own.short {w:World} {e:TypeId} {sz n m:Nat} {xs:List Value} {a:Option Addr} {c:Nat} (h:Own w e sz (.slice a n c) n xs) (hm:m<=n) (ha:a≠none):Own w e sz (.slice a m c) m (xs.take (m*sz)):=by
 have hl:=h.1
 have hms:m*sz<=n*sz:=Nat.mul_le_mul_right _ hm
 rcases h.2 with ⟨h0,_⟩ | ⟨g,cap,cur,e1,hb,hg,hnc,hmx,hcs,ht⟩
 ·simp only [Value.slice.injEq] at h0;exact absurd h0.1 ha
 ·simp only [Value.slice.injEq,true_and] at e1
  obtain ⟨rfl,rfl⟩:=e1
  refine ⟨by rw [List.length_take,hl];omega,.inr ⟨g,c,cur,rfl,hb,hg,by omega,hmx,hcs,?_⟩⟩
  rw [<- ht,List.take_take,Nat.min_eq_left hms]


def logM (log:List (Bs×Int)):List Value:=log.map fun x=>str x.1
def logP (log:List (Bs×Int)):List Value:=log.map fun x=>Value.int .i64 x.2
theorem logM_snoc (log:List (Bs×Int)) (s:Bs) (p:Int):logM (log++[(s,p)])=logM log++[str s]:=by simp [logM]
theorem logP_snoc (log:List (Bs×Int)) (s:Bs) (p:Int):logP (log++[(s,p)])=logP log++[.int .i64 p]:=by simp [logP]
structure MS (keeps:Bool) (most ma:Nat) (log:List (Bs×Int)) (mv pt:Value) (w:World):Prop where
 blk:w.heap[ma]? = some (.cells #[mv,pt,.int .i64 (most:Nat),.int .i64 (log.length:Nat),.bool keeps] 159 (0,0))
 rows:keeps=true->Own w 9 1 mv log.length (logM log)/\Own w 3 1 pt log.length (logP log)
 nil:keeps=false->mv=.slice none 0 0/\pt=.slice none 0 0
 neM:∀ g,mv.ownBlock=some g->g≠ma/\pt.ownBlock≠some g
 neP:∀ g,pt.ownBlock=some g->g≠ma
def MBk (ma:Nat) (mv pt:Value) (b:Nat):Prop:=b=ma\/mv.ownBlock=some b\/pt.ownBlock=some b
theorem MS.but {keeps:Bool} {most ma:Nat} {log:List (Bs×Int)} {mv pt:Value} {m:Nat->Prop} {w w':World} (h:MS keeps most ma log mv pt w) (hb:But m w w') (hm:∀ b,MBk ma mv pt b->¬ m b):MS keeps most ma log mv pt w' :=
 ⟨by rw [hb.block ma (lt_of_heap h.blk) (hm ma (.inl rfl))];exact h.blk,
  fun hk=>⟨(h.rows hk).1.keep fun g o hg ho=>by rw [hb.block g (lt_of_heap ho) (hm g (.inr (.inl hg)))];exact ho,(h.rows hk).2.keep fun g o hg ho=>by rw [hb.block g (lt_of_heap ho) (hm g (.inr (.inr hg)))];exact ho⟩,
  h.nil,h.neM,h.neP⟩
theorem MS.below {keeps:Bool} {most ma:Nat} {log:List (Bs×Int)} {mv pt:Value} {w w':World} (h:MS keeps most ma log mv pt w) (hb:Below w.heap.size w w'):MS keeps most ma log mv pt w' :=
 h.but (m:=fun _=>False) (But.ofBelow hb) fun _ _ h=>h
theorem MBk.lt {keeps:Bool} {most ma:Nat} {log:List (Bs×Int)} {mv pt:Value} {w:World} (h:MS keeps most ma log mv pt w) {b:Nat} (hb:MBk ma mv pt b):b<w.heap.size:=by
 rcases hb with rfl | hb | hb
 ·exact lt_of_heap h.blk
 ·cases keeps with
  | true=>exact (h.rows rfl).1.lt hb
  | false=>rw [(h.nil rfl).1] at hb;simp [Value.ownBlock] at hb
 ·cases keeps with
  | true=>exact (h.rows rfl).2.lt hb
  | false=>rw [(h.nil rfl).2] at hb;simp [Value.ownBlock] at hb
theorem Tryz.infoInt:(Tryz.prog.info? 3).map (fun i=>(i.zero,i.size,i.bytes))=some (some (.int .i64 0),1,8):=by kernel_rfl
mutual
def nB:Bd->Prop
 | .leaf _=>True
 | .ask _ ss y n=>ss.length<=15/\nBs ss/\nB y/\nB n
def nBs:List Bd->Prop
 | []=>True
 | b::bs=>nB b/\nBs bs
end
mutual
def okC (n:Nat):Clo->Prop
 | .mk b e _ p=>nB b/\okCs n e/\e.length<=16*n/\p.length<=2*n
def okCs (n:Nat):List Clo->Prop
 | []=>True
 | c::cs=>okC n c/\okCs n cs
end
mutual
theorem okC_mono {n m:Nat} (h:n<=m):∀ c,okC n c->okC m c
 | .mk b e _ p,k=>by
   rw [okC] at *
   exact ⟨k.1,okCs_mono h e k.2.1,by have:=k.2.2.1;omega,by have:=k.2.2.2;omega⟩
theorem okCs_mono {n m:Nat} (h:n<=m):∀ cs,okCs n cs->okCs m cs
 | [],k=>by rw [okCs] at *;trivial
 | c::cs,k=>by rw [okCs] at *;exact ⟨okC_mono h c k.1,okCs_mono h cs k.2⟩
end
def Chg (ma:Nat) (mv pt:Value) (B:Nat) (sv:Value) (i:Nat):Prop:=MBk ma mv pt i\/i=B\/sv.ownBlock=some i
structure FrOk (n:Nat) (f:Fr):Prop where
 fit:frFit f
 yes:nB f.yes
 no:nB f.no
 env:okCs n f.env
 len:f.env.length<=16*n
 path:f.path.length<=2*n
theorem FrOk.mono {n m:Nat} {f:Fr} (h:FrOk n f) (k:n<=m):FrOk m f:=⟨h.fit,h.yes,h.no,okCs_mono k _ h.env,by have:=h.len;omega,by have:=h.path;omega⟩
def asInts (xs:List (Bs×Nat)):List (Bs×Int):=xs.map fun y=>(y.1,(y.2:Int))
theorem MS.drew {keeps:Bool} {most ma:Nat} {log:List (Bs×Int)} {mv pt:Value} {w:World} (h:MS keeps most ma log mv pt w):MS keeps most ma log mv pt w.drew:=h.but (m:=fun _=>False) (But.refl _ _).drew fun _ _ h=>h
theorem GlobT.drew {w:World} (h:GlobT w):GlobT w.drew:=h
structure Tri (bb B P:Nat) (v:Nat) (sl yv nv:Value) (begun:Nat) (path:Bs) (q0 q1 q2 q3:Value) (w:World):Prop where
 b:w.heap[bb]? = some (.cells #[str [],.int .i64 v,sl,yv,nv] 141 (0,0))
 g:w.heap[B]? = some (.cells #[.int .i64 (begun:Nat),str path] 148 (0,0))
 p:w.heap[P]? = some (.cells #[q0,q1,q2,q3] 229 (0,0))
theorem Tri.but {bb B P v:Nat} {sl yv nv:Value} {begun:Nat} {path:Bs} {q0 q1 q2 q3:Value} {w w':World} {m:Nat->Prop} (h:Tri bb B P v sl yv nv begun path q0 q1 q2 q3 w) (hb:But m w w') (n1:¬ m bb) (n2:¬ m B) (n3:¬ m P):Tri bb B P v sl yv nv begun path q0 q1 q2 q3 w' :=
 ⟨by rw [hb.block _ (lt_of_heap h.b) n1];exact h.b,by rw [hb.block _ (lt_of_heap h.g) n2];exact h.g,by rw [hb.block _ (lt_of_heap h.p) n3];exact h.p⟩
theorem Tri.below {bb B P v:Nat} {sl yv nv:Value} {begun:Nat} {path:Bs} {q0 q1 q2 q3:Value} {w w':World} (h:Tri bb B P v sl yv nv begun path q0 q1 q2 q3 w) (hb:Below w.heap.size w w'):Tri bb B P v sl yv nv begun path q0 q1 q2 q3 w' :=
 h.but (m:=fun _=>False) (But.ofBelow hb) (fun h=>h) (fun h=>h) (fun h=>h)
theorem Tri.drew {bb B P v:Nat} {sl yv nv:Value} {begun:Nat} {path:Bs} {q0 q1 q2 q3:Value} {w:World} (h:Tri bb B P v sl yv nv begun path q0 q1 q2 q3 w):Tri bb B P v sl yv nv begun path q0 q1 q2 q3 w.drew:=⟨h.b,h.g,h.p⟩
theorem Tri.cells {bb B P v:Nat} {sl yv nv:Value} {begun:Nat} {path:Bs} {q0 q1 q2 q3:Value} {w:World} (h:Tri bb B P v sl yv nv begun path q0 q1 q2 q3 w) :
 w.cell? ⟨bb,2,none⟩=some sl/\w.cell? ⟨bb,3,none⟩=some yv/\w.cell? ⟨bb,4,none⟩=some nv/\w.cell? ⟨B,0,none⟩=some (.int .i64 (begun:Nat))/\w.cell? ⟨B,1,none⟩=some (str path) /\
  w.cell? ⟨P,0,none⟩=some q0/\w.cell? ⟨P,1,none⟩=some q1/\w.cell? ⟨P,2,none⟩=some q2/\w.cell? ⟨P,3,none⟩=some q3/\w.frozen? ⟨B,0,none⟩=false/\w.frozen? ⟨B,1,none⟩=false/\P<w.heap.size/\B<w.heap.size/\bb<w.heap.size :=
 ⟨by simp [World.cell?,h.b],by simp [World.cell?,h.b],by simp [World.cell?,h.b],by simp [World.cell?,h.g],by simp [World.cell?,h.g],by simp [World.cell?,h.p],by simp [World.cell?,h.p],by simp [World.cell?,h.p],by simp [World.cell?,h.p],by simp [World.frozen?,h.g],by simp [World.frozen?,h.g],lt_of_heap h.p,lt_of_heap h.g,lt_of_heap h.b⟩
theorem SrcSl.ofOwn {w:World} {e:TypeId} {sz n:Nat} {v:Value} {xs:List Value} (h:Own w e sz v n xs) (hc:∀ u∈xs,u.oneCell'=true):SrcSl sz v n xs w:=by
 refine ⟨h.1,hc,?_⟩
 rcases h.2 with ⟨rfl,rfl⟩ | ⟨g,cap,cur,rfl,_,hg,_,_,_,ht⟩
 ·exact .inr ⟨rfl,rfl⟩
 ·refine .inl ⟨_,cap,rfl,fun j u hj=>?_⟩
  obtain ⟨g',c',e',hc'⟩:=h.at hj
  simp only [Value.slice.injEq,Option.some.injEq,Addr.mk.injEq,and_true,true_and] at e'
  obtain ⟨rfl,rfl⟩:=e'
  unfold Addr.add
  split
  ·subst j;exact hc'
  ·simpa using hc'
def SubsAt (w:World) (n:Nat) (us:List Value) (sa:Option Addr):Prop:=∀ k,k<n->∃ b o u,sa=some ⟨b,o,none⟩/\us[k]? = some (.pointer (some ⟨u,0,none⟩))/\w.cell? ⟨b,o+k,none⟩=some (.pointer (some ⟨u,0,none⟩))
theorem SubsAt.below {w w':World} {n:Nat} {us:List Value} {sa:Option Addr} (h:SubsAt w n us sa) (hb:Below w.heap.size w w'):SubsAt w' n us sa:=fun k hk=>by
 obtain ⟨b,o,u,e,hu,hc⟩:=h k hk
 exact ⟨b,o,u,e,hu,(hb.cell (World.block_lt_of_cell? w _ hc)).trans hc⟩


def StrsAt (w:World) (a:Option Addr) (xs:List Bs):Prop:=∀ (k:Nat) (s:Bs),xs[k]? = some s->∃ b o,a=some ⟨b,o,none⟩/\w.cell? ⟨b,o+k,none⟩=some (str s)
theorem StrsAt.below {w w':World} {a:Option Addr} {xs:List Bs} (h:StrsAt w a xs) (hb:Below w.heap.size w w'):StrsAt w' a xs:=fun k s hs=>by
 obtain ⟨b,o,e,hc⟩:=h k s hs
 exact ⟨b,o,e,(hb.cell (World.block_lt_of_cell? w _ hc)).trans hc⟩
theorem Tryz.infoStr:(Tryz.prog.info? 9).map (fun i=>(i.zero,i.size,i.bytes))=some (some (str []),1,16):=by kernel_rfl
theorem MS.slices {keeps:Bool} {most ma:Nat} {log:List (Bs×Int)} {mv pt:Value} {w:World} (h:MS keeps most ma log mv pt w):∃ a n k a' n' k',mv=.slice a n k/\pt=.slice a' n' k':=by
 cases keeps with
 | true =>
   obtain ⟨a,c,e⟩:=(h.rows rfl).1.slice
   obtain ⟨a',c',e'⟩:=(h.rows rfl).2.slice
   exact ⟨_,_,_,_,_,_,e,e'⟩
 | false=>exact ⟨_,_,_,_,_,_,(h.nil rfl).1,(h.nil rfl).2⟩
inductive SC where
 | mk (b:Bd) (t:Ty) (env:List SC) (begun arg:Nat)
def SC.body:SC->Bd | .mk b _ _ _ _=>b
def SC.kind:SC->Ty | .mk _ t _ _ _=>t
def SC.env:SC->List SC | .mk _ _ e _ _=>e
def SC.begun:SC->Nat | .mk _ _ _ n _=>n
def SC.arg:SC->Nat | .mk _ _ _ _ n=>n
structure SF where
 v:Nat
 ss:List Bd
 yes:Bd
 no:Bd
 env:List SC
 opens:Nat
mutual
def simC (keep:Bool) (log:List (Bs×Int)):SC->Clo->Prop
 | .mk b t env bg i,c=>c.body=b/\simCs keep log env c.env/\c.begun=bg/\(keep=true->∃ q p,log[bg]? = some (q,p)/\c.path=q.drop 1++dec i)
def simCs (keep:Bool) (log:List (Bs×Int)):List SC->List Clo->Prop
 | [],cs=>cs=[]
 | x::xs,cs=>∃ c cs',cs=c::cs'/\simC keep log x c/\simCs keep log xs cs'
end
mutual
theorem simC_more {keep:Bool} {log:List (Bs×Int)} (m:List (Bs×Int)):∀ (x:SC) (c:Clo),simC keep log x c->simC keep (log++m) x c
 | .mk b t env bg i,c,h=>by
   rw [simC] at *
   refine ⟨h.1,simCs_more m env _ h.2.1,h.2.2.1,fun hk=>?_⟩
   obtain ⟨q,p,h1,h2⟩:=h.2.2.2 hk
   exact ⟨q,p,by rw [List.getElem?_append_left (List.getElem?_eq_some_iff.1 h1).1];exact h1,h2⟩
theorem simCs_more {keep:Bool} {log:List (Bs×Int)} (m:List (Bs×Int)):∀ (xs:List SC) (cs:List Clo),simCs keep log xs cs->simCs keep (log++m) xs cs
 | [],cs,h=>by rw [simCs] at *;exact h
 | x::xs,cs,h=>by
   rw [simCs] at *
   obtain ⟨c,cs',rfl,h1,h2⟩:=h
   exact ⟨c,cs',rfl,simC_more m x c h1,simCs_more m xs cs' h2⟩
end
structure simF (keep:Bool) (log:List (Bs×Int)) (x:SF) (f:Fr):Prop where
 yes:f.yes=x.yes
 no:f.no=x.no
 env:simCs keep log x.env f.env
 opens:f.begun=x.opens
 path:keep=true->∃ q p,log[x.opens]? = some (q,p)/\f.path=q.drop 1
theorem simF.more {keep:Bool} {log:List (Bs×Int)} {x:SF} {f:Fr} (h:simF keep log x f) (m:List (Bs×Int)):simF keep (log++m) x f :=
 ⟨h.yes,h.no,simCs_more m _ _ h.env,h.opens,fun hk=>by
  obtain ⟨q,p,h1,h2⟩:=h.path hk
  exact ⟨q,p,by rw [List.getElem?_append_left (List.getElem?_eq_some_iff.1 h1).1];exact h1,h2⟩⟩
def SameRun (keep:Bool) (log:List (Bs×Int)) (a:Option (UInt8×List (Bs×Int))) (b:Option (UInt8×List (Bs×Nat))):Prop :=
 (b=none->a=none)/\∀ c ms,b=some (c,ms)->∃ log',a=some (c,log')/\(keep=true->log'=log++asInts ms)
theorem SameRun.step {keep:Bool} {log:List (Bs×Int)} {s:Bs} {n:Nat} {a:Option (UInt8×List (Bs×Int))} {b:Option (UInt8×List (Bs×Nat))} {s':Bs} (h:SameRun keep (log++[(s,(n:Int))]) a b) (hs:keep=true->s'=s):SameRun keep log a (b.map fun x=>(x.1,(s',n)::x.2)):=by
 constructor
 ·intro hb
  cases b with
  | none=>exact h.1 rfl
  | some x=>simp at hb
 ·intro c ms hb
  cases b with
  | none=>simp at hb
  | some x =>
    simp only [Option.map_some,Option.some.injEq,Prod.mk.injEq] at hb
    obtain ⟨rfl,rfl⟩:=hb
    obtain ⟨log',h1,h2⟩:=h.2 x.1 x.2 rfl
    exact ⟨log',h1,fun hk=>by rw [h2 hk,hs hk];simp [asInts]⟩
theorem SameRun.log {keep:Bool} {log:List (Bs×Int)} (c:UInt8):SameRun keep log (some (c,log)) (some (c,[])) :=
 ⟨fun h=>by simp at h,fun c' ms h=>by
  simp only [Option.some.injEq,Prod.mk.injEq] at h
  obtain ⟨rfl,rfl⟩:=h
  exact ⟨log,rfl,fun _=>by simp [asInts]⟩⟩
theorem SameRun.none {keep:Bool} {log:List (Bs×Int)}:SameRun keep log none none:=⟨fun _=>rfl,fun c ms h=>by simp at h⟩
mutual
def okS:SC->Prop
 | .mk b t env _ _=>wfB b/\okSs env/\fitB (env.map SC.kind++t.args) b
def okSs:List SC->Prop
 | []=>True
 | x::xs=>okS x/\okSs xs
end
structure okF (x:SF):Prop where
 yes:wfB x.yes
 no:wfB x.no
 env:okSs x.env
 node:fitB (x.env.map SC.kind) (.ask x.v x.ss x.yes x.no)
theorem okF.fits {x:SF} (h:okF x):fitB (x.env.map SC.kind) x.yes/\fitB (x.env.map SC.kind) x.no:=by
 have:=h.node
 rw [fitB] at this
 obtain ⟨t,_,_,h1,h2⟩:=this
 exact ⟨h1,h2⟩
def Rn (w:World) (ra:Nat) (mv pt:Value) (moves most:Nat) (bad:Bool):Prop:=w.heap[ra]? = some (.cells #[mv,pt,.int .i64 (moves:Nat),.int .i64 (most:Nat),.bool false,.bool bad] 103 (0,0))
theorem Rn.cells {w:World} {ra:Nat} {mv pt:Value} {moves most:Nat} {bad:Bool} (h:Rn w ra mv pt moves most bad):w.cell? ⟨ra,2,none⟩=some (.int .i64 (moves:Nat))/\w.cell? ⟨ra,3,none⟩=some (.int .i64 (most:Nat))/\w.cell? ⟨ra,4,none⟩=some (.bool false)/\w.cell? ⟨ra,5,none⟩=some (.bool bad)/\w.frozen? ⟨ra,2,none⟩=false/\w.frozen? ⟨ra,5,none⟩=false:=by
 unfold Rn at h
 exact ⟨by simp [World.cell?,h],by simp [World.cell?,h],by simp [World.cell?,h],by simp [World.cell?,h],by simp [World.frozen?,h],by simp [World.frozen?,h]⟩
theorem Rn.below {w w':World} {ra:Nat} {mv pt:Value} {moves most:Nat} {bad:Bool} (h:Rn w ra mv pt moves most bad) (hb:Below w.heap.size w w'):Rn w' ra mv pt moves most bad:=by
 unfold Rn;rw [hb.block ra (lt_of_heap h)];exact h
end Go.Proofs.YtdfkiicodfbibaaGreatDoor

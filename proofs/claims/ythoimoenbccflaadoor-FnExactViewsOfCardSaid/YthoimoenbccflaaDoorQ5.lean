/- Walks of functions that the statement reaches, and plain words. No conditions. -/
import Derived.Lib.AtoiTie
import Derived.Laws.Concat
import Derived.Test.YthoimoenbccflaaDoorQ4
set_option linter.unusedVariables false
set_option linter.unusedSimpArgs false
namespace Go.Proofs.YthoimoenbccflaaDoor
open Go.RowKit
theorem dig_iff (c:UInt8):dig c=true↔48<=c.toNat/\c.toNat<=57:=by
 simp [dig,UInt8.le_iff_toNat_le]
theorem digit_ofNat {k:Nat} (h:k<10):(UInt8.ofNat (48+k)).toNat=48+k:=by
 rw [UInt8.toNat_ofNat'];exact Nat.mod_eq_of_lt (by omega)
theorem decDigits_dig (u:Nat):∀ c∈Lib.decDigits u,dig c=true:=by
 induction u using Nat.strongRecOn with
 | _ u ih =>
   intro c hc
   rw [Lib.decDigits] at hc
   split at hc
   ·rename_i h
    rw [List.mem_singleton] at hc;subst hc
    rw [dig_iff,digit_ofNat h];omega
   ·rename_i h
    rcases List.mem_append.1 hc with hc | hc
    ·exact ih _ (by omega) c hc
    ·simp only [List.mem_singleton] at hc;subst hc
     rw [dig_iff,digit_ofNat (by omega)];omega
theorem decDigits_val (u:Nat):valOf (Lib.decDigits u)=u:=by
 induction u using Nat.strongRecOn with
 | _ u ih =>
   rw [Lib.decDigits]
   split
   ·rename_i h
    show 10*0+((UInt8.ofNat (48+u)).toNat-48)=u
    rw [digit_ofNat h];omega
   ·rename_i h
    rw [valOf_snoc,ih _ (by omega),digit_ofNat (by omega)];omega
theorem decDigits_ne (u:Nat):Lib.decDigits u≠[]:=by
 intro h
 have:=Lib.decDigits_length u
 have:=Lib.nDigits_pos u
 rw [h] at *;simp at *;omega
theorem decDigits_head (u:Nat) (h1:1<=u):(Lib.decDigits u).head?≠some 48:=by
 induction u using Nat.strongRecOn with
 | _ u ih =>
   rw [Lib.decDigits]
   split
   ·rename_i h
    intro e
    rw [List.head?_cons,Option.some.injEq] at e
    have:=digit_ofNat h
    rw [e] at this
    have h48:(48:UInt8).toNat=48:=rfl
    omega
   ·rename_i h
    rw [List.head?_append]
    have:=ih (u / 10) (by omega) (by omega)
    have hne:=decDigits_ne (u / 10)
    cases hd:Lib.decDigits (u / 10) with
    | nil=>exact absurd hd hne
    | cons x xs=>rw [hd] at this;simpa using this
theorem decDigits_short {u:Nat} (h:u<10000):(Lib.decDigits u).length<=4:=by
 rw [Lib.decDigits_length]
 by_cases h1:u<10
 ·rw [Lib.nDigits_small h1];omega
 rw [Lib.nDigits_big h1]
 by_cases h2:u / 10<10
 ·rw [Lib.nDigits_small h2];omega
 rw [Lib.nDigits_big h2]
 by_cases h3:u / 10 / 10<10
 ·rw [Lib.nDigits_small h3];omega
 rw [Lib.nDigits_big h3]
 rw [Lib.nDigits_small (by omega)];omega
theorem fold_ge (l:Bs):∀ a:Nat,a<=l.foldl (fun n c=>10*n+(c.toNat-48)) a:=by
 induction l with
 | nil=>intro a;simp
 | cons c cs ih=>intro a;simp only [List.foldl_cons];have:=ih (10*a+(c.toNat-48));omega
theorem valOf_pos {l:Bs} (hd:∀ c∈l,dig c=true) (hn:l≠[]) (h48:l.head?≠some 48):1<=valOf l:=by
 cases l with
 | nil=>exact absurd rfl hn
 | cons c cs =>
   have h1:=(dig_iff c).1 (hd c (by simp))
   have h2:c.toNat≠48:=fun e=>h48 (by simp;exact UInt8.toNat_inj.1 (by simpa using e))
   have:=fold_ge cs (10*0+(c.toNat-48))
   show 1<=cs.foldl _ (10*0+(c.toNat-48))
   omega
theorem decDigits_of (n:Nat):∀ w:Bs,w.length=n->w≠[]->(∀ c∈w,dig c=true)->(1<w.length->w.head?≠some 48)->Lib.decDigits (valOf w)=w:=by
 induction n with
 | zero=>intro w hl hn;exact absurd (List.eq_nil_of_length_eq_zero hl) hn
 | succ n ih =>
   intro w hl hn hd hh
   obtain ⟨ws,c,rfl⟩:∃ ws c,w=ws++[c]:=⟨w.dropLast,w.getLast hn,(List.dropLast_concat_getLast hn).symm⟩
   have hc:=(dig_iff c).1 (hd c (by simp))
   have hof:UInt8.ofNat (48+(c.toNat-48))=c:=by
    apply UInt8.toNat_inj.1;rw [digit_ofNat (by omega)];omega
   rw [valOf_snoc]
   by_cases hws:ws=[]
   ·subst hws
    show Lib.decDigits (10*0+(c.toNat-48))=[c]
    rw [Lib.decDigits_one (by omega),show 48+(10*0+(c.toNat-48))=48+(c.toNat-48) from by omega,hof]
   ·have hwl:1<=ws.length:=by cases ws with
     | nil=>exact absurd rfl hws
     | cons x xs=>simp
    have h48:ws.head?≠some 48:=by
     have:=hh (by simp;omega)
     rw [List.head?_append] at this
     cases ws with
     | nil=>exact absurd rfl hws
     | cons x xs=>simpa using this
    have hdw:∀ x∈ws,dig x=true:=fun x hx=>hd x (by simp [hx])
    have hp:=valOf_pos hdw hws h48
    have hi:=ih ws (by simpa using hl) hws hdw (fun _=>h48)
    rw [Lib.decDigits,dif_neg (by omega),show (10*valOf ws+(c.toNat-48)) / 10=valOf ws from by omega,show (10*valOf ws+(c.toNat-48)) % 10=c.toNat-48 from by omega,hi,hof]
theorem decFrom_of (l:Bs):∀ a:Nat,(∀ c∈l,dig c=true)->Lib.decFrom a l=some (l.foldl (fun n c=>10*n+(c.toNat-48)) a):=by
 induction l with
 | nil=>intro a _;rfl
 | cons c cs ih =>
   intro a hd
   have hc:=(dig_iff c).1 (hd c (by simp))
   simp only [Lib.decFrom,Lib.digitVal,if_pos hc,List.foldl_cons]
   rw [Nat.mul_comm a 10]
   exact ih _ fun x hx=>hd x (by simp [hx])
theorem lvl_spec {w:Bs} {n v:Nat} (h:lvl w n=some v) (hn:n<=10000):w≠[]/\w.length<=4/\(∀ c∈w,dig c=true)/\(1<w.length->w.head?≠some 48)/\valOf w=v/\v<n:=by
 obtain ⟨h1,_,h3⟩:=lvl_lt h
 have e:Lib.itoa (v:Int)=Lib.decDigits v:=by unfold Lib.itoa;rw [if_neg (by omega)];simp
 rw [e] at h3
 subst h3
 refine ⟨decDigits_ne v,decDigits_short (by omega),decDigits_dig v,fun hl=>?_,decDigits_val v,h1⟩
 refine decDigits_head v ?_
 rcases Nat.eq_zero_or_pos v with h0 | h0
 ·subst h0;rw [Lib.decDigits_one (by omega)] at hl;simp at hl
 ·exact h0
theorem spec_lvl {w:Bs} {n:Nat} (h1:w≠[]) (h2:w.length<=4) (h3:∀ c∈w,dig c=true) (h4:1<w.length->w.head?≠some 48) (h5:valOf w<n):lvl w n=some (valOf w):=by
 have ha:Lib.atoiAll w=.ok (valOf w:Int):=by
  rw [Lib.atoiAll_short w (by omega)]
  cases w with
  | nil=>exact absurd rfl h1
  | cons c cs =>
    have hc:=(dig_iff c).1 (h3 c (by simp))
    have n45:(c == 45)=false:=by rw [beq_eq_false_iff_ne];rintro rfl;have:(45:UInt8).toNat=45:=rfl;omega
    have n43:(c == 43)=false:=by rw [beq_eq_false_iff_ne];rintro rfl;have:(43:UInt8).toNat=43:=rfl;omega
    simp only [Lib.atoi,n45,n43,Bool.false_eq_true,if_false,Lib.decNat,List.isEmpty_cons]
    rw [decFrom_of _ 0 h3];rfl
 have hi:Lib.itoa (valOf w:Int)=w:=by
  have e:Lib.itoa (valOf w:Int)=Lib.decDigits (valOf w):=by unfold Lib.itoa;rw [if_neg (by omega)];simp
  rw [e,decDigits_of w.length w rfl h1 h3 h4]
 unfold lvl
 rw [ha]
 simp only
 rw [if_pos ⟨hi,by omega,by omega⟩];simp
def sepStart (l:Bs):Prop:=l=[]\/∃ c r,l=c::r/\sep c=true
theorem dig_sep {c:UInt8} (h:dig c=true):sep c=false:=by
 have:=(dig_iff c).1 h
 rw [Bool.eq_false_iff];intro hs
 simp only [sep,Bool.or_eq_true,beq_iff_eq] at hs
 rcases hs with (rfl | rfl) | rfl
 ·have:(32:UInt8).toNat=32:=rfl;omega
 ·have:(40:UInt8).toNat=40:=rfl;omega
 ·have:(41:UInt8).toNat=41:=rfl;omega
theorem word_cut (l:Bs):l=wordOf l++wordRest l:=(List.takeWhile_append_dropWhile).symm
theorem wordDrop (l:Bs):l.drop (wordOf l).length=wordRest l:=by
 have h:=word_cut l
 generalize wordOf l=a at *
 generalize wordRest l=b at *
 subst h;simp
theorem wordRest_start (l:Bs):sepStart (wordRest l):=by
 unfold wordRest
 induction l with
 | nil=>exact .inl rfl
 | cons c cs ih =>
   rw [List.dropWhile_cons]
   split
   ·exact ih
   ·rename_i h;exact .inr ⟨c,cs,rfl,by simpa using h⟩
theorem word_of {w rest:Bs} (hw:∀ c∈w,sep c=false) (hr:sepStart rest):wordOf (w++rest)=w/\wordRest (w++rest)=rest:=by
 unfold wordOf wordRest
 induction w with
 | nil =>
   rcases hr with rfl | ⟨c,r,rfl,hc⟩
   ·exact ⟨rfl,rfl⟩
   ·simp [hc]
 | cons x xs ih =>
   have hx:=hw x (by simp)
   have:=ih fun c hc=>hw c (by simp [hc])
   simp [hx,this.1,this.2]
theorem digsOf_of {w rest:Bs} (hw:∀ c∈w,dig c=true) (hl:w.length<=4) (hr:sepStart rest):digsOf (w++rest)=w:=by
 unfold digsOf
 rw [List.take_append,List.take_of_length_le hl]
 have key:(rest.take (4-w.length)).takeWhile dig=[]:=by
  rcases hr with rfl | ⟨c,r,rfl,hc⟩
  ·simp
  ·cases 4-w.length with
   | zero=>rfl
   | succ k =>
     rw [List.take_succ_cons,List.takeWhile_cons,if_neg]
     intro h;rw [dig_sep h] at hc;simp at hc
 rw [List.takeWhile_append_of_pos (fun c hc=>hw c hc),key,List.append_nil]
theorem cut_is {c:UInt8} {r:Bs}:cut [c] (c::r)=some r:=by simp [cut,List.isPrefixOf]
theorem specParts_append (rd:RdS) (hs gs:List (List Ty)):∀ {l:Bs} {bs:List Bd} {l1:Bs} {cs:List Bd} {l2:Bs},specParts rd hs l=some (bs,l1)->specParts rd gs l1=some (cs,l2)->specParts rd (hs++gs) l=some (bs++cs,l2):=by
 induction hs with
 | nil=>intro l bs l1 cs l2 h k;simp [specParts] at h;obtain ⟨rfl,rfl⟩:=h;simpa using k
 | cons h' hs ih =>
   intro l bs l1 cs l2 h k
   simp only [specParts,Option.bind_eq_bind,Option.bind_eq_some_iff,Prod.exists] at h
   obtain ⟨b,m,h1,bs',m',h2,h3⟩:=h
   simp at h3;obtain ⟨rfl,rfl⟩:=h3
   simp only [List.cons_append,specParts,Option.bind_eq_bind,h1,Option.bind_some,ih h2 k]
def RdFits (rd:Rd) (rs:RdS) (h:List Ty):Prop:=∀ (left:Nat) (l:Bs) (b:Bd) (r:Bs) (f:Nat),rd h left l=some (b,r,f)->rs h l=some (b,r)/\f+sizeB b=left/\l.length+1<=r.length+7*sizeB b
theorem parts_fit {rd:Rd} {rs:RdS} (hs:List (List Ty)) (hf:∀ h∈hs,RdFits rd rs h):∀ {left:Nat} {l:Bs} {bs:List Bd} {r:Bs} {f:Nat},rdParts rd hs left l=some (bs,r,f)->specParts rs hs l=some (bs,r)/\f+sizeBs bs=left/\l.length<=r.length+7*sizeBs bs:=by
 induction hs with
 | nil=>intro left l bs r f h;simp [rdParts] at h;obtain ⟨rfl,rfl,rfl⟩:=h;simp [specParts,sizeBs]
 | cons h' hs ih =>
   intro left l bs r f h
   simp only [rdParts,Option.bind_eq_bind,Option.bind_eq_some_iff,Prod.exists] at h
   obtain ⟨l1,h1,b,l2,f2,h2,bs',l3,f3,h3,h4⟩:=h
   simp at h4;obtain ⟨rfl,rfl,rfl⟩:=h4
   obtain ⟨a1,a2,a3⟩:=hf h' (by simp) _ _ _ _ _ h2
   obtain ⟨b1,b2,b3⟩:=ih (fun x hx=>hf x (by simp [hx])) h3
   have hc:=cut_one_len h1
   refine ⟨?_,by simp [sizeBs];omega,by subst hc;simp [sizeBs];omega⟩
   simp only [specParts,specPart,h1,Option.bind_eq_bind,Option.bind_some,a1,b1]
theorem wordOf_one {l:Bs} {c:UInt8} (h:wordOf l=[c]):l=c::wordRest l:=by
 have:=word_cut l
 rw [h] at this;simpa using this
theorem specNum_of {w rest:Bs} (h1:w≠[]) (h2:w.length<=4) (h3:∀ c∈w,dig c=true) (h4:1<w.length->w.head?≠some 48) (hr:sepStart rest):specNum (w++rest)=some (valOf w,w.length):=by
 unfold specNum
 rw [digsOf_of h3 h2 hr,if_neg]
 rintro (h | ⟨h,h'⟩)
 ·exact h1 h
 ·apply h4 h
  cases w with
  | nil=>exact absurd rfl h1
  | cons x xs=>simpa using h'
theorem rdB_fits (d:Nat):∀ levels,HandOk d levels->RdFits (rdB d) (rdN (d+1)) levels:=by
 induction d with
 | zero =>
   intro levels hh left l b r f h
   rcases left with _ | left
   ·simp [rdB] at h
   rcases cut_cases [40] l with h1 | ⟨r1,h1⟩
   ·rw [rdB_leaf 0 levels left h1.out] at h
    have key:∀ c:UInt8,(c=116\/c=102\/c=117)->wordOf l=[c]->rdN 1 levels l=some (.leaf c,wordRest l)/\left+sizeB (.leaf c)=left+1/\l.length+1<=(wordRest l).length+7*sizeB (.leaf c):=by
     intro c hc hw
     have e:=wordOf_one hw
     refine ⟨?_,rfl,?_⟩
     ·conv=>lhs;rw [e]
      simp only [rdN,if_pos hc]
     ·have:=congrArg List.length e;simp at this;simp [sizeB];omega
    split at h
    ·rename_i hw;simp at h;obtain ⟨rfl,rfl,rfl⟩:=h;exact key _ (by decide) hw
    ·split at h
     ·rename_i hw;simp at h;obtain ⟨rfl,rfl,rfl⟩:=h;exact key _ (by decide) hw
     ·split at h
      ·rename_i hw;simp at h;obtain ⟨rfl,rfl,rfl⟩:=h;exact key _ (by decide) hw
      ·simp at h
   ·rw [rdB_ask 0 levels left h1.out] at h
    cases hv:lvl (wordOf r1) levels.length with
    | none=>rw [hv] at h;simp at h
    | some v=>rw [hv] at h;simp at h
 | succ d ih =>
   intro levels hh left l b r f h
   rcases left with _ | left
   ·simp [rdB] at h
   rcases cut_cases [40] l with h1 | ⟨r1,h1⟩
   ·rw [rdB_leaf (d+1) levels left h1.out] at h
    have key:∀ c:UInt8,(c=116\/c=102\/c=117)->wordOf l=[c]->rdN (d+1+1) levels l=some (.leaf c,wordRest l)/\left+sizeB (.leaf c)=left+1/\l.length+1<=(wordRest l).length+7*sizeB (.leaf c):=by
     intro c hc hw
     have e:=wordOf_one hw
     refine ⟨?_,rfl,?_⟩
     ·conv=>lhs;rw [e]
      simp only [rdN,if_pos hc]
     ·have:=congrArg List.length e;simp at this;simp [sizeB];omega
    split at h
    ·rename_i hw;simp at h;obtain ⟨rfl,rfl,rfl⟩:=h;exact key _ (by decide) hw
    ·split at h
     ·rename_i hw;simp at h;obtain ⟨rfl,rfl,rfl⟩:=h;exact key _ (by decide) hw
     ·split at h
      ·rename_i hw;simp at h;obtain ⟨rfl,rfl,rfl⟩:=h;exact key _ (by decide) hw
      ·simp at h
   ·rw [rdB_ask (d+1) levels left h1.out] at h
    cases hv:lvl (wordOf r1) levels.length with
    | none=>rw [hv] at h;simp at h
    | some v =>
      rw [hv] at h
      simp only at h
      cases ht:levels[v]? with
      | none=>rw [ht] at h;simp at h
      | some t =>
        rw [ht] at h
        simp only [rdAsk,Option.bind_eq_bind,Option.bind_eq_some_iff,Prod.exists] at h
        obtain ⟨ss,l1,f1,h2,yn,l2,f2,h3,h4⟩:=h
        have hl:levels.length<=10000:=by have:=hh.2;omega
        obtain ⟨w1,w2,w3,w4,w5,w6⟩:=lvl_spec hv hl
        split at h4
        ·rename_i y n
         simp only [Option.bind_eq_some_iff] at h4
         obtain ⟨l3,h5,h6⟩:=h4
         simp at h6;obtain ⟨rfl,rfl,rfl⟩:=h6
         have k1:=parts_fit (rs:=rdN (d+1)) (t.args.map fun a=>levels++a.args) (fun x hx=>by
          obtain ⟨a,ha,rfl⟩:=List.mem_map.1 hx
          exact ih _ (hh.next ht ha)) h2
         have hs0:HandOk d levels:=by have:=hh.same;rwa [List.append_nil] at this
         have k2:=parts_fit (rs:=rdN (d+1)) [levels,levels] (fun x hx=>by
          have:x=levels:=by simpa using hx
          subst this;exact ih _ hs0) h3
         have hln:=(rdParts_le (rdB_le d) _ h2).2.2
         rw [List.length_map] at hln
         have hc:=cut_one_len h5
         have hc1:=cut_one_len h1.out
         have hw:=word_cut r1
         have hnum:=specNum_of (rest:=wordRest r1) w1 w2 w3 w4 (wordRest_start r1)
         rw [<- hw,w5] at hnum
         have hall:specParts (rdN (d+1)) (allHands levels t) (wordRest r1)=some (ss++[y,n],l2):=specParts_append _ _ _ k1.1 k2.1
         refine ⟨?_,?_,?_⟩
         ·conv=>lhs;rw [hc1]
          rw [rdN]
          rw [if_neg (by decide),if_neg (by decide),hnum]
          simp only [ht]
          rw [wordDrop]
          simp only [hall,Option.bind_eq_bind,Option.bind_some,h5,askOf]
          rw [List.drop_left' hln,List.take_left' hln];rfl
         ·have a1:=k1.2.1;have a2:=k2.2.1
          simp [sizeB,sizeBs] at a1 a2 ⊢;omega
         ·have a1:=k1.2.2;have a2:=k2.2.2
          have hwl:=congrArg List.length hw
          have hcl:=congrArg List.length hc
          have hc1l:=congrArg List.length hc1
          simp [sizeB,sizeBs] at a1 a2 hwl hcl hc1l ⊢;omega
        ·simp at h4
theorem specParts_start {rs:RdS} {hs:List (List Ty)} {l:Bs} {ps:List Bd} {r:Bs} (h:specParts rs hs l=some (ps,r)) (hr:sepStart r):sepStart l:=by
 cases hs with
 | nil=>simp [specParts] at h;obtain ⟨_,rfl⟩:=h;exact hr
 | cons h' hs =>
   simp only [specParts,specPart,Option.bind_eq_bind,Option.bind_eq_some_iff,Prod.exists] at h
   obtain ⟨_,_,⟨l1,h1,_⟩,_⟩:=h
   have:=cut_one_len h1
   exact .inr ⟨32,l1,this,rfl⟩
def RdBack (rd:Rd) (rs:RdS) (h:List Ty):Prop:=∀ (left:Nat) (l:Bs) (b:Bd) (r:Bs),rs h l=some (b,r)->sepStart r->sizeB b<=left->rd h left l=some (b,r,left-sizeB b)
theorem parts_back {rd:Rd} {rs:RdS} (hs:List (List Ty)) (hf:∀ h∈hs,RdBack rd rs h):∀ (left:Nat) (l:Bs) (ps:List Bd) (r:Bs),specParts rs hs l=some (ps,r)->sepStart r->sizeBs ps<=left->rdParts rd hs left l=some (ps,r,left-sizeBs ps):=by
 induction hs with
 | nil=>intro left l ps r h _ _;simp [specParts] at h;obtain ⟨rfl,rfl⟩:=h;simp [rdParts,sizeBs]
 | cons h' hs ih =>
   intro left l ps r h hr hsz
   simp only [specParts,specPart,Option.bind_eq_bind,Option.bind_eq_some_iff,Prod.exists] at h
   obtain ⟨b,l2,⟨l1,h1,h2⟩,bs,l3,h3,h4⟩:=h
   simp at h4;obtain ⟨rfl,rfl⟩:=h4
   simp [sizeBs] at hsz
   have hb:=hf h' (by simp) left l1 b l2 h2 (specParts_start h3 hr) (by omega)
   have hbs:=ih (fun x hx=>hf x (by simp [hx])) (left-sizeB b) l2 bs l3 h3 hr (by omega)
   simp only [rdParts,h1,Option.bind_eq_bind,Option.bind_some,hb,hbs]
   simp [sizeBs];omega
theorem specParts_split (rs:RdS) (hs gs:List (List Ty)):∀ {l:Bs} {ps:List Bd} {r:Bs},specParts rs (hs++gs) l=some (ps,r)->∃ bs l1 cs,ps=bs++cs/\specParts rs hs l=some (bs,l1)/\specParts rs gs l1=some (cs,r):=by
 induction hs with
 | nil=>intro l ps r h;exact ⟨[],l,ps,rfl,rfl,h⟩
 | cons h' hs ih =>
   intro l ps r h
   simp only [List.cons_append,specParts,Option.bind_eq_bind,Option.bind_eq_some_iff,Prod.exists] at h
   obtain ⟨b,m,h1,bs',m',h2,h3⟩:=h
   simp at h3;obtain ⟨rfl,rfl⟩:=h3
   obtain ⟨bs,l1,cs,rfl,a1,a2⟩:=ih h2
   refine ⟨b::bs,l1,cs,rfl,?_,a2⟩
   simp only [specParts,Option.bind_eq_bind,h1,Option.bind_some,a1]
theorem specNum_some {m:Bs} {v k:Nat} (h:specNum m=some (v,k)):digsOf m≠[]/\v=valOf (digsOf m)/\k=(digsOf m).length/\(1<(digsOf m).length->(digsOf m).head?≠some 48):=by
 unfold specNum at h
 split at h
 ·simp at h
 ·rename_i hc
  simp at h
  refine ⟨fun e=>hc (.inl e),h.1.symm,h.2.symm,fun h1 h2=>hc (.inr ⟨h1,?_⟩)⟩
  have hp:=digsOf_prefix m
  obtain ⟨x,hx⟩:=hp
  cases hd:digsOf m with
  | nil=>rw [hd] at h1;simp at h1
  | cons y ys=>rw [hd] at hx h2;rw [<- hx];simpa using h2
theorem rdN_back (d:Nat):∀ levels,HandOk d levels->RdBack (rdB d) (rdN (d+1)) levels:=by
 induction d with
 | zero =>
   intro levels hh left l b r h hr hsz
   obtain ⟨left,rfl⟩:∃ x,left=x+1:=⟨left-1,by have:=sizeB_pos b;omega⟩
   cases l with
   | nil=>simp [rdN] at h
   | cons c m =>
     simp only [rdN] at h
     split at h
     ·rename_i hc
      simp at h;obtain ⟨rfl,rfl⟩:=h
      have h40:cut [40] (c::m)=none:=by
       rcases hc with rfl | rfl | rfl <;> simp [cut,List.isPrefixOf]
      have hw:=word_of (w:=[c]) (rest:=m) (fun x hx=>by
       have:x=c:=by simpa using hx
       subst this;rcases hc with rfl | rfl | rfl <;> decide) hr
      rw [List.singleton_append] at hw
      rw [rdB_leaf 0 levels left h40,hw.1,hw.2]
      rcases hc with rfl | rfl | rfl <;> simp [sizeB]
     ·split at h
      ·simp at h
      ·split at h
       ·simp at h
       ·split at h
        ·simp at h
        ·exfalso
         simp only [Option.bind_eq_bind,Option.bind_eq_some_iff,Prod.exists] at h
         obtain ⟨ps,l1,h1,_⟩:=h
         rename_i t _ _
         cases ha:allHands levels t with
         | nil=>have:=allHands_length levels t;rw [ha] at this;simp at this
         | cons x xs=>rw [ha] at h1;simp [specParts,specPart] at h1
 | succ d ih =>
   intro levels hh left l b r h hr hsz
   obtain ⟨left,rfl⟩:∃ x,left=x+1:=⟨left-1,by have:=sizeB_pos b;omega⟩
   cases l with
   | nil=>simp [rdN] at h
   | cons c m =>
     rw [rdN] at h
     simp only at h
     split at h
     ·rename_i hc
      simp at h;obtain ⟨rfl,rfl⟩:=h
      have h40:cut [40] (c::m)=none:=by
       rcases hc with rfl | rfl | rfl <;> simp [cut,List.isPrefixOf]
      have hw:=word_of (w:=[c]) (rest:=m) (fun x hx=>by
       have:x=c:=by simpa using hx
       subst this;rcases hc with rfl | rfl | rfl <;> decide) hr
      rw [List.singleton_append] at hw
      rw [rdB_leaf (d+1) levels left h40,hw.1,hw.2]
      rcases hc with rfl | rfl | rfl <;> simp [sizeB]
     ·split at h
      ·simp at h
      ·rename_i h40
       have h40:c=40:=by simpa using h40
       subst h40
       cases hn:specNum m with
       | none=>rw [hn] at h;simp at h
       | some x =>
         obtain ⟨v,k⟩:=x
         rw [hn] at h
         simp only at h
         cases ht:levels[v]? with
         | none=>rw [ht] at h;simp at h
         | some t =>
           rw [ht] at h
           simp only [Option.bind_eq_bind,Option.bind_eq_some_iff,Prod.exists] at h
           obtain ⟨ps,l2,h1,l3,h2,b',h3,h4⟩:=h
           simp at h4;obtain ⟨rfl,rfl⟩:=h4
           have hc:=cut_one_len h2
           have hsl2:sepStart l2:=.inr ⟨41,l3,hc,rfl⟩
           have hst:=specParts_start h1 hsl2
           obtain ⟨n1,n2,n3,n4⟩:=specNum_some hn
           obtain ⟨bs,l1,cs,e1,p1,p2⟩:=specParts_split _ _ _ h1
           have hbl:=specParts_length _ p1
           have hcl:=specParts_length _ p2
           have hsb:=askOf_size h3
           have hw0:m=digsOf m++m.drop k:=by
            obtain ⟨x,hx⟩:=digsOf_prefix m
            have gen:∀ (a b c:Bs),a++b=c->c.drop a.length=b:=by rintro a b c rfl;simp
            rw [n3,gen _ _ _ hx,hx]
           have hw:=word_of (w:=digsOf m) (rest:=m.drop k) (fun x hx=>dig_sep (digsOf_all m x hx)) hst
           rw [<- hw0] at hw
           have hvl:v<levels.length:=(List.getElem?_eq_some_iff.1 ht).1
           have hlv:=spec_lvl (n:=levels.length) n1 (digsOf_le m).1 (digsOf_all m) n4 (by rw [<- n2];exact hvl)
           rw [<- n2] at hlv
           have hsl1:sepStart l1:=specParts_start p2 hsl2
           have hszs:sizeBs ps=sizeBs bs+sizeBs cs:=by rw [e1,sizeBs_append]
           have hs0:HandOk d levels:=by have:=hh.same;rwa [List.append_nil] at this
           have k1:=parts_back (rd:=rdB d) (t.args.map fun a=>levels++a.args) (fun x hx=>by
            obtain ⟨a,ha,rfl⟩:=List.mem_map.1 hx
            exact ih _ (hh.next ht ha)) left (m.drop k) bs l1 p1 hsl1 (by omega)
           have k2:=parts_back (rd:=rdB d) [levels,levels] (fun x hx=>by
            have:x=levels:=by simpa using hx
            subst this;exact ih _ hs0) (left-sizeBs bs) l1 cs l2 p2 hsl2 (by omega)
           have hbl':bs.length=t.args.length:=by simpa [hands] using hbl
           obtain ⟨y,n,rfl⟩:∃ y n,cs=[y,n]:=by
            match cs,hcl with
            | [a,b],_=>exact ⟨a,b,rfl⟩
           have hb:b'=.ask v bs y n:=by
            rw [e1] at h3
            unfold askOf at h3
            rw [List.drop_left' hbl',List.take_left' hbl'] at h3
            simpa using h3.symm
           subst hb
           rw [rdB_ask (d+1) levels left (l:=40::m) cut_is,hw.1,hlv]
           simp only [ht]
           rw [hw.2]
           simp only [rdAsk,k1,k2,Option.bind_eq_bind,Option.bind_some,h2]
           simp [sizeB,sizeBs] at *;omega
theorem rdStrat_eq (t:Ty) (ht:atomsT t<=15) (l:Bs):rdStrat t l=(if 2000<l.length then none else match rdN 101 t.args l with
 | none=>none
 | some (b,rest)=>if rest=[]/\sizeB b<=200 then some b else none):=by
 have hh:=handOk_of ht
 cases hq:rdStrat t l with
 | some b =>
   have h1:∃ f,rdB 100 t.args 200 l=some (b,[],f):=by
    unfold rdStrat at hq
    split at hq
    ·rename_i b' f he
     simp at hq;subst hq;exact ⟨f,he⟩
    ·simp at hq
   obtain ⟨f,h1⟩:=h1
   obtain ⟨a1,a2,a3⟩:=rdB_fits 100 t.args hh _ _ _ _ _ h1
   have:¬ 2000<l.length:=by simp at a3;omega
   rw [if_neg this,a1]
   simp only
   rw [if_pos ⟨by trivial,by omega⟩]
 | none =>
   symm
   split
   ·rfl
   ·cases hn:rdN 101 t.args l with
    | none=>rfl
    | some x =>
      obtain ⟨b,rest⟩:=x
      simp only
      split
      ·rename_i hc
       obtain ⟨rfl,hc⟩:=hc
       have:=rdN_back 100 t.args hh 200 l b [] hn (.inl rfl) hc
       unfold rdStrat at hq
       rw [this] at hq;simp at hq
      ·rfl
theorem rdTS_eq (s l:Bs):rdTS s l=(specStrat s l).map fun b=>((specType s).1,b):=by
 unfold rdTS specStrat
 rw [specType_eq]
 cases hok:(specType s).2 with
 | false=>simp
 | true =>
   have h15:=specType_ok hok
   simp only [if_true,Option.bind_eq_bind,Option.bind_some]
   rw [rdStrat_eq _ h15]
   by_cases h2:2000<l.length
   ·simp [h2]
   ·simp only [h2,if_false,Bool.true_eq_false,false_or]
    cases rdN 101 (specType s).1.args l with
    | none=>rfl
    | some x =>
      obtain ⟨b,rest⟩:=x
      simp only
      split <;> rfl
theorem specStrat_size {s text:Bs} {b:Bd} (hq:specStrat s text=some b):sizeB b<=200:=by
 unfold specStrat at hq
 split at hq
 ·simp at hq
 ·split at hq
  ·simp at hq
  ·split at hq
   ·rename_i h;simp at hq;subst hq;exact h.2
   ·simp at hq
theorem rdTS_size {s text:Bs} {t:Ty} {b:Bd} (hq:rdTS s text=some (t,b)):sizeB b<=200:=by
 rw [rdTS_eq,Option.map_eq_some_iff] at hq
 obtain ⟨b',h,e⟩:=hq
 simp at e;rw [<- e.2];exact specStrat_size h
mutual
def fitB:List Ty->Bd->Prop
 | _,.leaf _=>True
 | hand,.ask v ss y n=>∃ t,hand[v]? = some t/\fitBs (hands hand t.args) ss/\fitB hand y/\fitB hand n
def fitBs:List (List Ty)->List Bd->Prop
 | hs,[]=>hs=[]
 | hs,b::bs=>∃ h hs',hs=h::hs'/\fitB h b/\fitBs hs' bs
end
mutual
def belowB:Bd->Bd->Bool
 | .leaf c,.leaf d=>c == 117 || c == d
 | .leaf c,.ask _ _ _ _=>c == 117
 | .ask _ _ _ _,.leaf _=>false
 | .ask v ss y n,.ask v' ss' y' n'=>v == v' && (belowBs ss ss' && (belowB y y' && belowB n n'))
def belowBs:List Bd->List Bd->Bool
 | a::xs,b::bs=>belowB a b && belowBs xs bs
 | [],_=>true
 | _::_,[]=>false
end
theorem hands_length (levels ts:List Ty):(hands levels ts).length=ts.length:=by simp [hands]
theorem fitBs_append:∀ (xs:List Bd) (bs:List Bd) (hs ks:List (List Ty)),fitBs hs xs->fitBs ks bs->fitBs (hs++ks) (xs++bs)
 | [],bs,hs,ks,h1,h2=>by rw [fitBs] at h1;subst h1;simpa using h2
 | a::xs,bs,hs,ks,h1,h2=>by
   rw [fitBs] at h1
   obtain ⟨h,hs',rfl,e1,e2⟩:=h1
   exact ⟨h,hs'++ks,rfl,e1,fitBs_append xs bs hs' ks e2 h2⟩
theorem fitBs_length:∀ (xs:List Bd) (hs:List (List Ty)),fitBs hs xs->hs.length=xs.length
 | [],hs,h=>by rw [fitBs] at h;simp [h]
 | a::xs,hs,h=>by
   rw [fitBs] at h
   obtain ⟨h',hs',rfl,e1,e2⟩:=h
   simp [fitBs_length xs hs' e2]
theorem fitBs_at:∀ (xs:List Bd) (hs:List (List Ty)),fitBs hs xs->∀ (k:Nat) (a:Bd),xs[k]? = some a->∃ h,hs[k]? = some h/\fitB h a
 | [],hs,h,k,a,ha=>by simp at ha
 | a::xs,hs,h,k,a',ha=>by
   rw [fitBs] at h
   obtain ⟨h',hs',rfl,e1,e2⟩:=h
   cases k with
   | zero=>simp at ha;subst ha;exact ⟨h',rfl,e1⟩
   | succ k=>simp at ha;simpa using fitBs_at xs hs' e2 k a' ha
theorem fitBs_pair (h k:List Ty) (y n:Bd):fitBs [h,k] [y,n]↔fitB h y/\fitB k n:=by
 constructor
 ·intro hf
  rw [fitBs] at hf
  obtain ⟨a,as',e,h1,h2⟩:=hf
  simp only [List.cons.injEq] at e
  obtain ⟨rfl,rfl⟩:=e
  rw [fitBs] at h2
  obtain ⟨a,as',e,h3,h4⟩:=h2
  simp only [List.cons.injEq] at e
  obtain ⟨rfl,rfl⟩:=e
  exact ⟨h1,h3⟩
 ·rintro ⟨h1,h2⟩
  exact ⟨h,[k],rfl,h1,k,[],rfl,h2,by rw [fitBs]⟩
theorem fit_parts {hand:List Ty} {v:Nat} {ss:List Bd} {y n:Bd} (h:fitB hand (.ask v ss y n)):∃ t,hand[v]? = some t/\fitBs (allHands hand t) (partsOf (.ask v ss y n))/\ss.length=t.args.length:=by
 rw [fitB] at h
 obtain ⟨t,h1,h2,h3,h4⟩:=h
 refine ⟨t,h1,fitBs_append _ _ _ _ h2 ((fitBs_pair _ _ _ _).2 ⟨h3,h4⟩),?_⟩
 have:=fitBs_length _ _ h2
 rw [hands_length] at this;exact this.symm
theorem fitBs_split:∀ (hs:List (List Ty)) (ks:List (List Ty)) (ps:List Bd),fitBs (hs++ks) ps->fitBs hs (ps.take hs.length)/\fitBs ks (ps.drop hs.length)
 | [],ks,ps,h=>by
   constructor
   ·simp [fitBs]
   ·simpa using h
 | x::hs,ks,[],h=>by simp [fitBs] at h
 | x::hs,ks,p::ps,h=>by
   simp only [List.cons_append] at h
   rw [fitBs] at h
   obtain ⟨h',hs',e,e1,e2⟩:=h
   simp only [List.cons.injEq] at e
   obtain ⟨rfl,rfl⟩:=e
   have:=fitBs_split hs ks ps e2
   simp only [List.length_cons,List.take_succ_cons,List.drop_succ_cons]
   exact ⟨⟨x,hs,rfl,e1,this.1⟩,this.2⟩
theorem specParts_fit {rd:RdS} (hrd:∀ {h l b r},rd h l=some (b,r)->fitB h b) (hs:List (List Ty)):∀ {l r:Bs} {ps:List Bd},specParts rd hs l=some (ps,r)->fitBs hs ps:=by
 induction hs with
 | nil=>intro l r ps h;simp [specParts] at h;obtain ⟨rfl,rfl⟩:=h;simp [fitBs]
 | cons h' hs ih =>
   intro l r ps h
   simp only [specParts,Option.bind_eq_bind,Option.bind_eq_some_iff,Prod.exists] at h
   obtain ⟨b,l1,h1,bs,l2,h2,h3⟩:=h
   simp at h3;obtain ⟨rfl,rfl⟩:=h3
   unfold specPart at h1
   simp only [Option.bind_eq_bind,Option.bind_eq_some_iff] at h1
   obtain ⟨l3,_,h4⟩:=h1
   exact ⟨h',hs,rfl,hrd h4,ih h2⟩
theorem rdN_fit (e:Nat):∀ {h:List Ty} {l:Bs} {b:Bd} {r:Bs},rdN e h l=some (b,r)->fitB h b:=by
 induction e with
 | zero=>intro h l b r hq;simp [rdN] at hq
 | succ e ih =>
   intro h l b r hq
   cases l with
   | nil=>simp [rdN] at hq
   | cons c m =>
     simp only [rdN] at hq
     split at hq
     ·simp at hq;obtain ⟨rfl,rfl⟩:=hq;simp [fitB]
     ·split at hq
      ·simp at hq
      ·split at hq
       ·simp at hq
       ·rename_i v k hsn
        split at hq
        ·simp at hq
        ·rename_i t ht
         simp only [Option.bind_eq_bind,Option.bind_eq_some_iff,Prod.exists] at hq
         obtain ⟨ps,l1,h1,l2,h2,b',h3,h4⟩:=hq
         simp at h4;obtain ⟨rfl,rfl⟩:=h4
         have k1:=specParts_fit ih _ h1
         have k2:=fitBs_split _ _ _ k1
         rw [hands_length] at k2
         unfold askOf at h3
         split at h3
         ·rename_i y no hd
          simp at h3;subst h3
          rw [hd,fitBs_pair] at k2
          rw [fitB]
          exact ⟨t,ht,k2.1,k2.2.1,k2.2.2⟩
         ·simp at h3
theorem specStrat_fit {s text:Bs} {b:Bd} (hq:specStrat s text=some b):fitB (specType s).1.args b:=by
 unfold specStrat at hq
 split at hq
 ·simp at hq
 ·split at hq
  ·simp at hq
  ·rename_i b' rest h
   split at hq
   ·simp at hq;subst hq;exact rdN_fit _ h
   ·simp at hq
theorem belowBs_true:∀ (xs bs:List Bd),xs.length=bs.length->(belowBs xs bs=true↔∀ (k:Nat) (a b:Bd),xs[k]? = some a->bs[k]? = some b->belowB a b=true)
 | [],[],_=>by simp [belowBs]
 | a::xs,b::bs,h=>by
   simp only [belowBs,Bool.and_eq_true]
   rw [belowBs_true xs bs (by simpa using h)]
   constructor
   ·rintro ⟨h1,h2⟩ k a' b' ha hb
    cases k with
    | zero=>simp at ha hb;subst ha;subst hb;exact h1
    | succ k=>simp at ha hb;exact h2 k a' b' ha hb
   ·intro h
    exact ⟨h 0 a b rfl rfl,fun k a' b' ha hb=>h (k+1) a' b' (by simpa using ha) (by simpa using hb)⟩
def BelowTo (xs bs:List Bd) (k:Nat):Prop:=∀ (j:Nat) (a b:Bd),j<k->xs[j]? = some a->bs[j]? = some b->belowB a b=true
theorem BelowTo.zero (xs bs:List Bd):BelowTo xs bs 0:=fun j a b h=>by omega
theorem BelowTo.next {xs bs:List Bd} {k:Nat} (h:BelowTo xs bs k) {a b:Bd} (ha:xs[k]? = some a) (hb:bs[k]? = some b) (hab:belowB a b=true):BelowTo xs bs (k+1):=by
 intro j a' b' hj h1 h2
 rcases Nat.lt_or_ge j k with h' | h'
 ·exact h j a' b' h' h1 h2
 ·obtain rfl:j=k:=by omega
  rw [ha] at h1;rw [hb] at h2;simp at h1 h2;subst h1;subst h2;exact hab
theorem BelowTo.all {xs bs:List Bd} (hl:xs.length=bs.length) (h:BelowTo xs bs xs.length):belowBs xs bs=true :=
 (belowBs_true xs bs hl).2 fun k a b ha hb=>h k a b (List.getElem?_eq_some_iff.1 ha).1 ha hb
def lvOf:Bd->Nat
 | .leaf _=>0
 | .ask v _ _ _=>v
theorem encN_lv {F:Nat->Prop} {w:World} {b:Bd} {s v k y:Value} (h:Reps F w (encN b) [s,v,k,y]):v=.int .i64 (lvOf b:Nat):=by
 cases b with
 | leaf c =>
   rw [encN] at h
   obtain ⟨_,_,e,h0,h⟩:=Reps_cons.1 h
   simp only [List.cons.injEq] at e;obtain ⟨rfl,rfl⟩:=e
   obtain ⟨_,_,e,h1,h⟩:=Reps_cons.1 h
   simp only [List.cons.injEq] at e;obtain ⟨rfl,rfl⟩:=e
   exact Rep_val.1 h1
 | ask lv ss yb nb =>
   rw [encN] at h
   obtain ⟨_,_,e,h0,h⟩:=Reps_cons.1 h
   simp only [List.cons.injEq] at e;obtain ⟨rfl,rfl⟩:=e
   obtain ⟨_,_,e,h1,h⟩:=Reps_cons.1 h
   simp only [List.cons.injEq] at e;obtain ⟨rfl,rfl⟩:=e
   exact Rep_val.1 h1
theorem tmod_nat (a b:Nat):((a:Int).tmod (b:Int))=((a % b:Nat):Int):=rfl
theorem tdiv_nat (a b:Nat):((a:Int).tdiv (b:Int))=((a / b:Nat):Int):=rfl
theorem wrap_nat (n:Nat) (h:n<9223372036854775808):IntKind.i64.wrap (n:Int)=(n:Int):=by
 simp [IntKind.wrap,IntKind.bits,IntKind.signed];omega
def digit (r:Nat):UInt8:=UInt8.ofNat (48+r)
def dec (n:Nat):Bs:=if n<10 then [digit n] else dec (n / 10)++[digit (n % 10)]
theorem dec_small {n:Nat} (h:n<10):dec n=[digit n]:=by rw [dec,if_pos h]
theorem dec_great {n:Nat} (h:¬ n<10):dec n=dec (n / 10)++[digit (n % 10)]:=by rw [dec,if_neg h]
theorem dec_length (k:Nat):∀ n,n<10 ^ (k+1)->(dec n).length<=k+1:=by
 induction k with
 | zero=>intro n h;rw [dec_small (by simpa using h)];simp
 | succ k ih =>
   intro n h
   by_cases h10:n<10
   ·rw [dec_small h10];simp
   ·rw [dec_great h10]
    have:=ih (n / 10) (by rw [Nat.div_lt_iff_lt_mul (by omega),<- Nat.pow_succ];exact h)
    simp;omega
theorem str_add (a b:Bs):(⟨a.toArray⟩:ByteArray)++(⟨b.toArray⟩:ByteArray)=⟨(a++b).toArray⟩:=by
 have h:((⟨a.toArray⟩:ByteArray)++(⟨b.toArray⟩:ByteArray)).data=(a++b).toArray:=by
  rw [ByteArray.data_append];simp
 cases hx:(⟨a.toArray⟩:ByteArray)++(⟨b.toArray⟩:ByteArray) with
 | mk d=>rw [hx] at h;simp at h;rw [h]
theorem add_str {P:Program} (a b:Bs) (h:a.length+b.length<=9223372036854775807) (w:World):(Op.stringOp .add ⟨a.toArray⟩ ⟨b.toArray⟩).run P w=.ok (str (a++b)) w:=by
 rw [run_string_add_sum w _ _ (by rw [size_str,size_str];exact h),str_add]
mutual
def textB:Bd->Bs
 | .leaf c=>[c]
 | .ask v ss y n=>(((([40]++dec v++textBs ss++[32])++textB y)++[32])++textB n)++[41]
def textBs:List Bd->Bs
 | []=>[]
 | b::bs=>[32]++textB b++textBs bs
end
theorem textBs_append:∀ (xs ys:List Bd),textBs (xs++ys)=textBs xs++textBs ys
 | [],ys=>by simp [textBs]
 | x::xs,ys=>by simp [textBs,textBs_append xs ys]
inductive Clo where
 | mk (b:Bd) (env:List Clo) (begun:Nat) (path:Bs)
def Clo.body:Clo->Bd | .mk b _ _ _=>b
def Clo.env:Clo->List Clo | .mk _ e _ _=>e
def Clo.begun:Clo->Nat | .mk _ _ n _=>n
def Clo.path:Clo->Bs | .mk _ _ _ p=>p
mutual
def cloFit:Clo->Ty->Prop
 | .mk b e _ _,t=>∃ h,envFit e h/\fitB (h++t.args) b
def envFit:List Clo->List Ty->Prop
 | [],h=>h=[]
 | c::cs,h=>∃ t ts,h=t::ts/\cloFit c t/\envFit cs ts
end
def atT (t:Ty):Bs->Option Ty
 | []=>some t
 | c::p=>if 48<=c.toNat then (match t.args[c.toNat-48]? with | some a=>atT a p | none=>none) else none
theorem atT_nil (t:Ty):atT t []=some t:=by cases t;rfl
theorem atT_cons (t:Ty) (c:UInt8) (p:Bs):atT t (c::p)=if 48<=c.toNat then (match t.args[c.toNat-48]? with | some a=>atT a p | none=>none) else none:=by rw [atT]
theorem atT_append:∀ (p q:Bs) (t:Ty),atT t (p++q)=(atT t p).bind fun a=>atT a q
 | [],q,t=>by rw [atT_nil];rfl
 | c::p,q,t=>by
   rw [List.cons_append,atT_cons,atT_cons]
   split
   ·cases h:t.args[c.toNat-48]? with
    | none=>rfl
    | some a=>exact atT_append p q a
   ·rfl
theorem digit_nat {j:Nat} (h:j<10):(digit j).toNat=48+j:=digit_ofNat h
theorem atT_digit (t:Ty) {j:Nat} (h:j<10):atT t [digit j]=t.args[j]?:=by
 rw [atT_cons,digit_nat h,if_pos (by omega),show 48+j-48=j from by omega]
 cases t.args[j]? with
 | none=>rfl
 | some a=>exact atT_nil a
theorem atomsT_arg {t a:Ty} {j:Nat} (h:t.args[j]? = some a):atomsT a+2<=atomsT t:=by
 have h1:=atomsTs_take h
 have h2:=atomsTs_take_le t.args (j+1)
 rw [atomsT_mk t]
 omega
theorem args_len (t:Ty):2*t.args.length+1<=atomsT t:=by
 rw [atomsT_mk t]
 have:∀ ts:List Ty,2*ts.length<=atomsTs ts:=by
  intro ts
  induction ts with
  | nil=>simp
  | cons u us ih =>
    have:=atomsT_pos u
    rw [show u::us=[u]++us from rfl,atomsTs_append]
    have e:atomsTs [u]=1+atomsT u:=by simp [atomsTs]
    rw [e,List.length_append,List.length_singleton];omega
 have:=this t.args
 omega
theorem atT_len:∀ (p:Bs) (t a:Ty),atT t p=some a->2*p.length+atomsT a<=atomsT t
 | [],t,a,h=>by rw [atT_nil] at h;obtain rfl:=Option.some.inj h;simp
 | c::p,t,a,h=>by
   rw [atT_cons] at h
   split at h
   ·cases hq:t.args[c.toNat-48]? with
    | none=>rw [hq] at h;simp at h
    | some b =>
      rw [hq] at h
      have h1:=atT_len p b a h
      have h2:=atomsT_arg hq
      rw [List.length_cons];omega
   ·simp at h
def joinO {α:Type}:List (Option (List α))->Option (List α)
 | []=>some []
 | o::os=>o.bind fun a=>(joinO os).map (a ++ ·)
theorem joinO_append {α:Type}:∀ (xs ys:List (Option (List α))),joinO (xs++ys)=(joinO xs).bind fun a=>(joinO ys).map (a ++ ·)
 | [],ys=>by
   simp only [List.nil_append,joinO,Option.bind_some]
   cases joinO ys <;> simp
 | o::os,ys=>by
   simp only [List.cons_append,joinO,joinO_append os ys]
   cases o with
   | none=>rfl
   | some a =>
     cases joinO os with
     | none=>rfl
     | some b =>
       cases joinO ys with
       | none=>rfl
       | some c=>simp
theorem joinO_one {α:Type} (o:Option (List α)):joinO [o]=o:=by
 simp only [joinO]
 cases o <;> simp
theorem joinO_next {α:Type} {xs:List (Option (List α))} {k:Nat} {o:Option (List α)} (h:xs[k]? = some o):joinO (xs.take (k+1))=(joinO (xs.take k)).bind fun a=>o.map (a ++ ·):=by
 rw [List.take_add_one,h,Option.toList_some,joinO_append,joinO_one]
theorem joinO_take_none {α:Type} {xs:List (Option (List α))} (k:Nat) (h:joinO (xs.take k)=none):joinO xs=none:=by
 rw [<- List.take_append_drop k xs,joinO_append,h];rfl
abbrev Pl:=List (Bs×Int)
abbrev Place:=Nat×Bs
def placesOf (many begin:Nat) (path:Bs):List Place:=(List.range many).map fun i=>(begin,path++dec i)
theorem placesOf_length (m b:Nat) (p:Bs):(placesOf m b p).length=m:=by simp [placesOf]
theorem placesOf_at {m b j:Nat} {p:Bs} (h:j<m):(placesOf m b p)[j]? = some (b,p++dec j):=by simp [placesOf,h]
theorem placesOf_succ (m b:Nat) (p:Bs):placesOf (m+1) b p=placesOf m b p++[(b,p++dec m)]:=by simp [placesOf,List.range_succ]
def argsAt (t:Ty) (p:Bs):Nat:=match atT t p with | some a=>a.args.length | none=>0
def withQ (c:UInt8) (v:Pl) (path:Bs) (n:Nat):Pl:=v++[(c::path,(n:Int))]
theorem withQ_length (c:UInt8) (v:Pl) (path:Bs) (n:Nat):(withQ c v path n).length=v.length+1:=by simp [withQ]
mutual
def viewsB (t:Ty):Bd->List Place->Place->Pl->Option (List Pl)
 | .leaf c,_,bg,v=>if c=117 then some [] else if 60<=v.length then none else some [withQ c v bg.2 bg.1]
 | .ask l ss y n,lv,bg,v=>if 59<=v.length then none else
  (joinO (viewsKs t ss 0 (lv.getD l (0,[])).2 v.length lv (withQ 113 v (lv.getD l (0,[])).2 (lv.getD l (0,[])).1) ++
   [viewsB t y lv bg (withQ 116 (withQ 113 v (lv.getD l (0,[])).2 (lv.getD l (0,[])).1) (lv.getD l (0,[])).2 v.length),
    viewsB t n lv bg (withQ 102 (withQ 113 v (lv.getD l (0,[])).2 (lv.getD l (0,[])).1) (lv.getD l (0,[])).2 v.length)])).map
   (withQ 113 v (lv.getD l (0,[])).2 (lv.getD l (0,[])).1 :: ·)
def viewsKs (t:Ty):List Bd->Nat->Bs->Nat->List Place->Pl->List (Option (List Pl))
 | [],_,_,_,_,_=>[]
 | s::ss,j,path,k,lv,asked =>
   viewsB t s (lv++placesOf (argsAt t (path++dec j)) (k+1) (path++dec j)) (k+1,path++dec j) (withQ 113 asked (path++dec j) k)::viewsKs t ss (j+1) path k lv asked
end
theorem viewsKs_length (t:Ty):∀ (ss:List Bd) (j:Nat) (path:Bs) (k:Nat) (lv:List Place) (asked:Pl),(viewsKs t ss j path k lv asked).length=ss.length
 | [],_,_,_,_,_=>by rw [viewsKs];rfl
 | s::ss,j,path,k,lv,asked=>by rw [viewsKs,List.length_cons,viewsKs_length t ss];rfl
theorem viewsKs_at (t:Ty):∀ (ss:List Bd) (j:Nat) (path:Bs) (k:Nat) (lv:List Place) (asked:Pl) (i:Nat) (s:Bd),ss[i]? = some s ->
 (viewsKs t ss j path k lv asked)[i]? = some (viewsB t s (lv++placesOf (argsAt t (path++dec (j+i))) (k+1) (path++dec (j+i))) (k+1,path++dec (j+i)) (withQ 113 asked (path++dec (j+i)) k))
 | [],_,_,_,_,_,i,s,h=>by simp at h
 | s::ss,j,path,k,lv,asked,0,s',h=>by
   obtain rfl:s=s':=by simpa using h
   rw [viewsKs,List.getElem?_cons_zero];rfl
 | s::ss,j,path,k,lv,asked,i+1,s',h=>by
   rw [List.getElem?_cons_succ] at h
   rw [viewsKs,List.getElem?_cons_succ,viewsKs_at t ss (j+1) path k lv asked i s' h,show j+1+i=j+(i+1) from by omega]
mutual
theorem viewsB_count (t:Ty):∀ (b:Bd) (lv:List Place) (bg:Place) (v:Pl) (out:List Pl),viewsB t b lv bg v=some out->out.length<=sizeB b
 | .leaf c,lv,bg,v,out,h=>by
   rw [viewsB] at h
   split at h
   ·obtain rfl:=Option.some.inj h;simp
   ·split at h
    ·simp at h
    ·obtain rfl:=Option.some.inj h;simp [sizeB]
 | .ask l ss y n,lv,bg,v,out,h=>by
   rw [viewsB] at h
   split at h
   ·simp at h
   ·rw [joinO_append] at h
    simp only [joinO,Option.map_eq_some_iff,Option.bind_eq_some_iff] at h
    obtain ⟨_,⟨a,ha,_,⟨b,hb,_,⟨c,hc,_,h0,rfl⟩,rfl⟩,rfl⟩,rfl⟩:=h
    obtain rfl:=Option.some.inj h0
    have h1:=viewsKs_count t ss _ _ _ _ _ a ha
    have h2:=viewsB_count t y _ _ _ b hb
    have h3:=viewsB_count t n _ _ _ c hc
    rw [sizeB]
    simp only [List.length_cons,List.length_append,List.length_nil];omega
theorem viewsKs_count (t:Ty):∀ (ss:List Bd) (j:Nat) (path:Bs) (k:Nat) (lv:List Place) (asked:Pl) (out:List Pl),joinO (viewsKs t ss j path k lv asked)=some out->out.length<=sizeBs ss
 | [],_,_,_,_,_,out,h=>by rw [viewsKs,joinO] at h;obtain rfl:=Option.some.inj h;simp
 | s::ss,j,path,k,lv,asked,out,h=>by
   rw [viewsKs,joinO] at h
   simp only [Option.map_eq_some_iff,Option.bind_eq_some_iff] at h
   obtain ⟨a,ha,b,hb,rfl⟩:=h
   have h1:=viewsB_count t s _ _ _ a ha
   have h2:=viewsKs_count t ss _ _ _ _ _ b hb
   rw [sizeBs,List.length_append];omega
end
structure PlFit (t:Ty) (lv:List Place) (hand:List Ty) (n:Nat):Prop where
 len:lv.length=hand.length
 each:∀ (i:Nat) (a:Ty),hand[i]? = some a->∃ pl,lv[i]? = some pl/\atT t pl.2=some a/\pl.1<n
theorem PlFit.kid {t:Ty} {lv:List Place} {hand:List Ty} {n m k:Nat} (h:PlFit t lv hand n) (hnm:n<=m) (hk:k<m) {p:Bs} {a:Ty} (ha:atT t p=some a) (h10:a.args.length<=10) :
 PlFit t (lv++placesOf a.args.length k p) (hand++a.args) m:=by
 refine ⟨by rw [List.length_append,List.length_append,placesOf_length,h.len],fun i b hb=>?_⟩
 rcases Nat.lt_or_ge i hand.length with hi | hi
 ·rw [List.getElem?_append_left hi] at hb
  obtain ⟨pl,h1,h2,h3⟩:=h.each i b hb
  exact ⟨pl,by rw [List.getElem?_append_left (by rw [h.len];exact hi)];exact h1,h2,by omega⟩
 ·rw [List.getElem?_append_right hi] at hb
  have hlt:=(List.getElem?_eq_some_iff.1 hb).1
  refine ⟨(k,p++dec (i-hand.length)),?_,?_,hk⟩
  ·rw [List.getElem?_append_right (by rw [h.len];exact hi),h.len,placesOf_at hlt]
  ·show atT t (p++dec (i-hand.length))=some b
   rw [atT_append,ha,Option.bind_some,dec_small (by omega),atT_digit _ (by omega)];exact hb
theorem PlFit.mono {t:Ty} {lv:List Place} {hand:List Ty} {n m:Nat} (h:PlFit t lv hand n) (hnm:n<=m):PlFit t lv hand m :=
 ⟨h.len,fun i a ha=>by obtain ⟨pl,h1,h2,h3⟩:=h.each i a ha;exact ⟨pl,h1,h2,by omega⟩⟩
structure SpecPl (lv:List Place) (bg:Place) (v:Pl) (begun args:List Nat) (opens:Nat):Prop where
 lb:begun.length=lv.length
 la:args.length=lv.length
 each:∀ (i:Nat) (pl:Place),lv[i]? = some pl->∃ j m z,begun[i]? = some pl.1/\args[i]? = some j/\v[pl.1]? = some (113::m,z)/\pl.2=m++dec j/\j<10
 bg:bg.1=opens/\∃ c z,v[opens]? = some (c::bg.2,z)
theorem SpecPl.more {lv:List Place} {bg:Place} {v:Pl} {begun args:List Nat} {opens:Nat} (h:SpecPl lv bg v begun args opens) (xs:Pl):SpecPl lv bg (v++xs) begun args opens:=by
 have key:∀ (i:Nat) (x:Bs×Int),v[i]? = some x->(v++xs)[i]? = some x:=fun i x hx=>by
  rw [List.getElem?_append_left (List.getElem?_eq_some_iff.1 hx).1];exact hx
 refine ⟨h.lb,h.la,fun i pl hi=>?_,h.bg.1,?_⟩
 ·obtain ⟨j,m,z,h1,h2,h3,h4⟩:=h.each i pl hi
  exact ⟨j,m,z,h1,h2,key _ _ h3,h4⟩
 ·obtain ⟨c,z,hc⟩:=h.bg.2
  exact ⟨c,z,key _ _ hc⟩
theorem SpecPl.kid {lv:List Place} {bg:Place} {v:Pl} {begun args:List Nat} {opens:Nat} (h:SpecPl lv bg v begun args opens) (many k:Nat) (p:Bs) (h10:many<=10) {z:Int} (hk:v[k]? = some (113::p,z)) :
 SpecPl (lv++placesOf many k p) (k,p) v (begun++List.replicate many k) (args++List.range many) k:=by
 refine ⟨by simp [h.lb,placesOf_length],by simp [h.la,placesOf_length],fun i pl hi=>?_,rfl,113,z,hk⟩
 rcases Nat.lt_or_ge i lv.length with hlt | hge
 ·rw [List.getElem?_append_left hlt] at hi
  obtain ⟨j,m,z',h1,h2,h3,h4⟩:=h.each i pl hi
  exact ⟨j,m,z',by rw [List.getElem?_append_left (by rw [h.lb];exact hlt)];exact h1,by rw [List.getElem?_append_left (by rw [h.la];exact hlt)];exact h2,h3,h4⟩
 ·rw [List.getElem?_append_right hge] at hi
  have hl:=(List.getElem?_eq_some_iff.1 hi).1
  rw [placesOf_length] at hl
  rw [placesOf_at hl] at hi
  obtain rfl:=Option.some.inj hi
  refine ⟨i-lv.length,p,z,?_,?_,hk,rfl,by omega⟩
  ·rw [List.getElem?_append_right (by rw [h.lb];exact hge),h.lb];simp [hl]
  ·rw [List.getElem?_append_right (by rw [h.la];exact hge),h.la];simp [hl]
structure Fr where
 yes:Bd
 no:Bd
 env:List Clo
 begun:Nat
 path:Bs
def frFit (fr:Fr):Prop:=∃ hand,envFit fr.env hand/\fitB hand fr.yes/\fitB hand fr.no
inductive Mn where
 | op (o:Nat) (t:Ty)
 | bd (t:Ty) (b:Bd) (env:List Mn)
structure Gf where
 yes:Bd
 no:Bd
 env:List Mn
def opens:Nat->List Ty->List Mn
 | _,[]=>[]
 | n,t::ts=>.op n t::opens (n+1) ts
def owns (env:List Mn):List Ty->List Bd->List Mn
 | t::ts,s::ss=>.bd t s env::owns env ts ss
 | _,_=>[]
def evSubs (ev:Nat->Bd->List Mn->Nat->List Gf->Option (Bd×Nat)) (env:List Mn) (n:Nat):Nat->List Ty->List Bd->Option (List Bd×Nat)
 | l,t::ts,s::ss=>do
   let (x,l1)<-ev l s (env++opens n t.args) (n+t.args.length) []
   let (xs,l2)<-evSubs ev env n l1 ts ss
   some (x::xs,l2)
 | l,_,_=>some ([],l)
def ev:Nat->Nat->Bd->List Mn->Nat->List Gf->Option (Bd×Nat)
 | 0,_,_,_,_,_=>none
 | d+1,l,b,env,n,st=>match l with
   | 0=>none
   | l+1=>match b with
     | .leaf c=>if c=117 then some (.leaf c,l) else match st with
       | []=>some (.leaf c,l)
       | f::st'=>ev d l (if c=116 then f.yes else f.no) f.env n st'
     | .ask v ss y no=>match env[v]? with
       | none=>none
       | some (.bd t b' e)=>ev d l b' (e++owns env t.args ss) n (⟨y,no,env⟩::st)
       | some (.op o t)=>do
         let (xs,l1)<-evSubs (ev d) env n l t.args ss
         let (x,l2)<-ev d l1 y env n st
         let (z,l3)<-ev d l2 no env n st
         some (.ask o xs x z,l3)
def evSubsN (ev:Nat->Nat->Bd->List Mn->Nat->List Gf->Option (Bd×Nat×Nat)) (env:List Mn) (n:Nat):Nat->Nat->List Ty->List Bd->Option (List Bd×Nat×Nat)
 | k,l,t::ts,s::ss=>do
   let (x,k1,l1)<-ev k l s (env++opens n t.args) (n+t.args.length) []
   let (xs,k2,l2)<-evSubsN ev env n k1 l1 ts ss
   some (x::xs,k2,l2)
 | k,l,_,_=>some ([],k,l)
def evN:Nat->Nat->Nat->Bd->List Mn->Nat->List Gf->Option (Bd×Nat×Nat)
 | 0,_,_,_,_,_,_=>none
 | d+1,k,l,b,env,n,st=>match l with
   | 0=>none
   | l+1=>match k with
     | 0=>none
     | k+1=>match b with
       | .leaf c=>if c=117 then some (.leaf c,k,l) else match st with
         | []=>some (.leaf c,k,l)
         | f::st'=>evN d (k+1) l (if c=116 then f.yes else f.no) f.env n st'
       | .ask v ss y no=>match env[v]? with
         | none=>none
         | some (.bd t b' e)=>evN d (k+1) l b' (e++owns env t.args ss) n (⟨y,no,env⟩::st)
         | some (.op o t)=>do
           let (xs,k1,l1)<-evSubsN (evN d) env n k l t.args ss
           let (x,k2,l2)<-evN d k1 l1 y env n st
           let (z,k3,l3)<-evN d k2 l2 no env n st
           some (.ask o xs x z,k3,l3)
mutual
def mnFit (H:List Ty):Mn->Ty->Prop
 | .op o t,t'=>t=t'/\H[o]? = some t
 | .bd t b e,t'=>t=t'/\∃ h,mnFits H e h/\fitB (h++t.args) b
def mnFits (H:List Ty):List Mn->List Ty->Prop
 | [],h=>h=[]
 | m::ms,h=>∃ t ts,h=t::ts/\mnFit H m t/\mnFits H ms ts
end
theorem mnFits_at {H:List Ty}:∀ (cs:List Mn) (h:List Ty),mnFits H cs h->∀ (i:Nat) (t:Ty),h[i]? = some t->∃ c,cs[i]? = some c/\mnFit H c t
 | [],h,k,i,c,hc=>by rw [mnFits] at k;subst k;simp at hc
 | c::cs,h,k,i,t',hc=>by
   rw [mnFits] at k
   obtain ⟨t,ts,rfl,k1,k2⟩:=k
   cases i with
   | zero=>simp at hc;subst hc;exact ⟨c,rfl,k1⟩
   | succ i=>simp at hc;simpa using mnFits_at cs ts k2 i t' hc
theorem mnFits_append {H:List Ty}:∀ (xs bs:List Mn) (h k:List Ty),mnFits H xs h->mnFits H bs k->mnFits H (xs++bs) (h++k)
 | [],bs,h,k,h1,h2=>by rw [mnFits] at h1;subst h1;simpa using h2
 | a::xs,bs,h,k,h1,h2=>by
   rw [mnFits] at h1
   obtain ⟨t,ts,rfl,k1,k2⟩:=h1
   simp only [List.cons_append]
   rw [mnFits]
   exact ⟨t,ts++k,rfl,k1,mnFits_append xs bs ts k k2 h2⟩
mutual
theorem mnFit_more {H X:List Ty}:∀ (m:Mn) (t:Ty),mnFit H m t->mnFit (H++X) m t
 | .op o t,t',h=>by
   rw [mnFit] at *
   exact ⟨h.1,by rw [List.getElem?_append_left (List.getElem?_eq_some_iff.1 h.2).1];exact h.2⟩
 | .bd t b e,t',h=>by
   rw [mnFit] at *
   obtain ⟨h1,k,h2,h3⟩:=h
   exact ⟨h1,k,mnFits_more e k h2,h3⟩
theorem mnFits_more {H X:List Ty}:∀ (ms:List Mn) (h:List Ty),mnFits H ms h->mnFits (H++X) ms h
 | [],h,k=>by rw [mnFits] at *;exact k
 | m::ms,h,k=>by
   rw [mnFits] at *
   obtain ⟨t,ts,rfl,k1,k2⟩:=k
   exact ⟨t,ts,rfl,mnFit_more m t k1,mnFits_more ms ts k2⟩
end
theorem opens_fit {H:List Ty}:∀ (ts:List Ty) (n:Nat),(∀ i t,ts[i]? = some t->H[n+i]? = some t)->mnFits H (opens n ts) ts
 | [],n,h=>by rw [opens,mnFits]
 | t::ts,n,h=>by
   rw [opens,mnFits]
   refine ⟨t,ts,rfl,?_,opens_fit ts (n+1) fun i t' hi=>?_⟩
   ·rw [mnFit];exact ⟨rfl,by have:=h 0 t rfl;simpa using this⟩
   ·have:=h (i+1) t' (by simpa using hi)
    rw [show n+1+i=n+(i+1) from by omega];exact this
theorem opens_fit_end (H:List Ty) (ts:List Ty):mnFits (H++ts) (opens H.length ts) ts :=
 opens_fit ts H.length fun i t h=>by rw [List.getElem?_append_right (by omega),Nat.add_sub_cancel_left];exact h
theorem owns_fit {H h:List Ty} {env:List Mn} (he:mnFits H env h):∀ (ts:List Ty) (ss:List Bd),fitBs (hands h ts) ss->mnFits H (owns env ts ss) ts
 | [],ss,hf=>by
   rw [owns]
   ·rw [mnFits]
   ·intros;contradiction
 | t::ts,[],hf=>by
   rw [fitBs] at hf;simp [hands] at hf
 | t::ts,s::ss,hf=>by
   rw [fitBs] at hf
   obtain ⟨h',hs',e,h1,h2⟩:=hf
   simp only [hands,List.map_cons,List.cons.injEq] at e
   obtain ⟨rfl,rfl⟩:=e
   rw [owns,mnFits]
   refine ⟨t,ts,rfl,?_,owns_fit he ts ss h2⟩
   rw [mnFit]
   exact ⟨rfl,h,he,h1⟩
def gfFit (H:List Ty) (f:Gf):Prop:=∃ h,mnFits H f.env h/\fitB h f.yes/\fitB h f.no
structure EvFit (H:List Ty) (b:Bd) (env:List Mn) (st:List Gf):Prop where
 fit:∃ h,mnFits H env h/\fitB h b
 frames:∀ f∈st,gfFit H f
theorem EvFit.ask {H:List Ty} {v:Nat} {ss:List Bd} {y no:Bd} {env:List Mn} {st:List Gf} (h:EvFit H (.ask v ss y no) env st) :
 ∃ m t hh,env[v]? = some m/\mnFit H m t/\mnFits H env hh/\fitBs (hands hh t.args) ss/\fitB hh y/\fitB hh no:=by
 obtain ⟨⟨hh,h1,h2⟩,_⟩:=h
 rw [fitB] at h2
 obtain ⟨t,k1,k2,k3,k4⟩:=h2
 obtain ⟨m,m1,m2⟩:=mnFits_at _ _ h1 v t k1
 exact ⟨m,t,hh,m1,m2,h1,k2,k3,k4⟩
theorem EvFit.call {H:List Ty} {v:Nat} {ss:List Bd} {y no:Bd} {env:List Mn} {st:List Gf} (h:EvFit H (.ask v ss y no) env st) {t:Ty} {b':Bd} {e:List Mn} (he:env[v]? = some (.bd t b' e)) :
 ss.length=t.args.length/\EvFit H b' (e++owns env t.args ss) (⟨y,no,env⟩::st):=by
 obtain ⟨m,t',hh,m1,m2,m3,m4,m5,m6⟩:=h.ask
 rw [he] at m1;simp at m1;subst m1
 rw [mnFit] at m2
 obtain ⟨rfl,k,k1,k2⟩:=m2
 refine ⟨?_,⟨k++t.args,mnFits_append _ _ _ _ k1 (owns_fit m3 _ _ m4),k2⟩,fun f hf=>?_⟩
 ·have:=fitBs_length _ _ m4;rw [hands_length] at this;exact this.symm
 ·rcases List.mem_cons.1 hf with rfl | hf
  ·exact ⟨hh,m3,m5,m6⟩
  ·exact h.frames f hf
theorem EvFit.keep {H:List Ty} {v:Nat} {ss:List Bd} {y no:Bd} {env:List Mn} {st:List Gf} (h:EvFit H (.ask v ss y no) env st) {t:Ty} {o:Nat} (he:env[v]? = some (.op o t)) :
 ss.length=t.args.length/\H[o]? = some t/\(∀ (k:Nat) (a:Ty) (s:Bd),t.args[k]? = some a->ss[k]? = some s->EvFit (H++a.args) s (env++opens H.length a.args) [])/\EvFit H y env st/\EvFit H no env st:=by
 obtain ⟨m,t',hh,m1,m2,m3,m4,m5,m6⟩:=h.ask
 rw [he] at m1;simp at m1;subst m1
 rw [mnFit] at m2
 obtain ⟨rfl,k1⟩:=m2
 have hl:=fitBs_length _ _ m4
 rw [hands_length] at hl
 refine ⟨hl.symm,k1,fun k a s ha hs=>?_,⟨⟨hh,m3,m5⟩,h.frames⟩,⟨⟨hh,m3,m6⟩,h.frames⟩⟩
 obtain ⟨x,hx,hf⟩:=fitBs_at _ _ m4 k s hs
 have hx':x=hh++a.args:=by simp [hands,ha] at hx;exact hx.symm
 subst hx'
 exact ⟨⟨hh++a.args,mnFits_append _ _ _ _ (mnFits_more _ _ m3) (opens_fit_end H a.args),hf⟩,by simp⟩
mutual
def wfB:Bd->Prop
 | .leaf c=>c=116\/c=102\/c=117
 | .ask _ ss y n=>wfBs ss/\wfB y/\wfB n
def wfBs:List Bd->Prop
 | []=>True
 | b::bs=>wfB b/\wfBs bs
end
theorem wfBs_at:∀ (xs:List Bd),wfBs xs->∀ (k:Nat) (b:Bd),xs[k]? = some b->wfB b
 | [],_,k,b,h=>by simp at h
 | x::xs,hw,k,b,h=>by
   rw [wfBs] at hw
   cases k with
   | zero=>simp at h;subst h;exact hw.1
   | succ k=>exact wfBs_at xs hw.2 k b (by simpa using h)
theorem textB_ask (v:Nat) (ss:List Bd) (y n:Bd):textB (.ask v ss y n)=40::(dec v++(textBs (ss++[y,n])++[41])):=by
 rw [textB,textBs_append];simp [textBs]
theorem specParts_each {rd:RdS} {P:Bd->Prop} (h:∀ hand l b r,rd hand l=some (b,r)->P b):∀ (hs:List (List Ty)) (l:Bs) (ps:List Bd) (r:Bs),specParts rd hs l=some (ps,r)->∀ p∈ps,P p
 | [],l,ps,r,hx=>by simp [specParts] at hx;obtain ⟨rfl,_⟩:=hx;simp
 | a::hs,l,ps,r,hx=>by
   simp only [specParts,specPart,Option.bind_eq_bind,Option.bind_eq_some_iff,Prod.exists] at hx
   obtain ⟨b,l1,⟨l0,h0,h1⟩,bs,l2,h2,h3⟩:=hx
   simp at h3;obtain ⟨rfl,rfl⟩:=h3
   intro p hp
   rcases List.mem_cons.1 hp with rfl | hp
   ·exact h _ _ _ _ h1
   ·exact specParts_each h hs l1 bs l2 h2 p hp
theorem askOf_some {v n:Nat} {ps:List Bd} {b:Bd} (h:askOf v n ps=some b):∃ ss y no,b=.ask v ss y no/\ps=ss++[y,no]:=by
 unfold askOf at h
 split at h
 ·rename_i y no hd
  simp at h;subst h
  exact ⟨_,_,_,rfl,by rw [<- hd,List.take_append_drop]⟩
 ·simp at h
theorem wfBs_of:∀ (ps:List Bd),(∀ p∈ps,wfB p)->wfBs ps
 | [],_=>trivial
 | p::ps,h=>⟨h p (by simp),wfBs_of ps fun q hq=>h q (by simp [hq])⟩
theorem wfBs_split:∀ (xs ys:List Bd),wfBs (xs++ys)->wfBs xs/\wfBs ys
 | [],ys,h=>⟨trivial,h⟩
 | x::xs,ys,h=>by
   simp only [List.cons_append] at h;rw [wfBs] at h
   have:=wfBs_split xs ys h.2
   exact ⟨⟨h.1,this.1⟩,this.2⟩
theorem rdN_wf (e:Nat):∀ (hand:List Ty) (l:Bs) (b:Bd) (r:Bs),rdN e hand l=some (b,r)->wfB b/\depthB b<e:=by
 induction e with
 | zero=>intro hand l b r h;simp [rdN] at h
 | succ e ih =>
   intro hand l b r h
   cases l with
   | nil=>simp [rdN] at h
   | cons c m =>
     simp only [rdN] at h
     split at h
     ·rename_i hc;simp at h;obtain ⟨rfl,_⟩:=h;exact ⟨hc,by simp [depthB]⟩
     ·split at h
      ·simp at h
      ·split at h
       ·simp at h
       ·split at h
        ·simp at h
        ·simp only [Option.bind_eq_bind,Option.bind_eq_some_iff,Prod.exists] at h
         obtain ⟨ps,l1,h1,l2,h2,b',h3,h4⟩:=h
         simp at h4;obtain ⟨rfl,_⟩:=h4
         obtain ⟨ss,y,no,rfl,rfl⟩:=askOf_some h3
         have k1:=specParts_each (P:=fun b=>wfB b/\depthB b<e) (fun hand l b r h=>ih hand l b r h) _ _ _ _ h1
         have k2:=wfBs_split _ _ (wfBs_of _ fun p hp=>(k1 p hp).1)
         refine ⟨⟨k2.1,k2.2.1,k2.2.2.1⟩,?_⟩
         rw [depthB_parts]
         have key:∀ (qs:List Bd),(∀ q∈qs,depthB q<e)->depthBs qs<=e:=by
          intro qs
          induction qs with
          | nil=>intro _;simp [depthBs]
          | cons q qs ihq =>
            intro hq
            have h1:=hq q (by simp)
            have h2:=ihq fun x hx=>hq x (by simp [hx])
            simp only [depthBs];omega
         exact Nat.lt_succ_of_le (key _ fun q hq=>(k1 q hq).2)
theorem cut_eq {p l r:Bs} (h:cut p l=some r):l=p++r:=by
 unfold cut at h
 split at h
 ·rename_i hp
  simp at h
  obtain ⟨q,hq⟩:=List.isPrefixOf_iff_prefix.1 hp
  subst hq
  simp at h;rw [h]
 ·simp at h
theorem dec_dd (n:Nat):dec n=Lib.decDigits n:=by
 induction n using Nat.strongRecOn with
 | _ n ih =>
   by_cases h:n<10
   ·rw [dec_small h,Lib.decDigits,dif_pos h];rfl
   ·rw [dec_great h,Lib.decDigits,dif_neg h,ih (n / 10) (Nat.div_lt_self (by omega) (by omega))];rfl
theorem specNum_text {m:Bs} {v k:Nat} (h:specNum m=some (v,k)):m=dec v++m.drop k:=by
 obtain ⟨h1,h2,h3,h4⟩:=specNum_some h
 have hd:dec v=digsOf m:=by
  rw [dec_dd,h2]
  exact decDigits_of _ _ rfl h1 (digsOf_all m) h4
 obtain ⟨q,hq⟩:=digsOf_prefix m
 rw [hd,h3]
 conv=>lhs;rw [<- hq]
 conv=>rhs;rw [<- hq]
 have:digsOf (digsOf m++q)=digsOf m:=by rw [hq]
 rw [this,List.drop_left]
theorem specParts_canon {rd:RdS} (ih:∀ hand l b r,rd hand l=some (b,r)->l=textB b++r):∀ (hs:List (List Ty)) (l:Bs) (ps:List Bd) (r:Bs),specParts rd hs l=some (ps,r)->l=textBs ps++r
 | [],l,ps,r,h=>by simp [specParts] at h;obtain ⟨rfl,rfl⟩:=h;simp [textBs]
 | a::hs,l,ps,r,hx=>by
   simp only [specParts,specPart,Option.bind_eq_bind,Option.bind_eq_some_iff,Prod.exists] at hx
   obtain ⟨b,l1,⟨l0,h0,h1⟩,bs,l2,h2,h3⟩:=hx
   simp at h3;obtain ⟨rfl,rfl⟩:=h3
   rw [cut_eq h0,ih _ _ _ _ h1,specParts_canon ih hs l1 bs l2 h2]
   simp [textBs]
theorem rdN_canon (e:Nat):∀ (hand:List Ty) (l:Bs) (b:Bd) (r:Bs),rdN e hand l=some (b,r)->l=textB b++r:=by
 induction e with
 | zero=>intro hand l b r h;simp [rdN] at h
 | succ e ih =>
   intro hand l b r h
   cases l with
   | nil=>simp [rdN] at h
   | cons c m =>
     simp only [rdN] at h
     split at h
     ·simp at h;obtain ⟨rfl,rfl⟩:=h;simp [textB]
     ·split at h
      ·simp at h
      ·rename_i h40
       have h40:c=40:=by simpa using h40
       subst h40
       split at h
       ·simp at h
       ·rename_i v k hn
        split at h
        ·simp at h
        ·simp only [Option.bind_eq_bind,Option.bind_eq_some_iff,Prod.exists] at h
         obtain ⟨ps,l1,h1,l2,h2,b',h3,h4⟩:=h
         simp at h4;obtain ⟨rfl,rfl⟩:=h4
         obtain ⟨ss,y,no,rfl,rfl⟩:=askOf_some h3
         rw [textB_ask]
         conv=>lhs;rw [specNum_text hn,specParts_canon ih _ _ _ _ h1,cut_eq h2]
         simp
theorem specStrat_some {s text:Bs} {b:Bd} (h:specStrat s text=some b):(specType s).2=true/\rdN 101 (specType s).1.args text=some (b,[])/\sizeB b<=200:=by
 unfold specStrat at h
 split at h
 ·simp at h
 ·rename_i h0
  split at h
  ·simp at h
  ·rename_i b' rest hq
   split at h
   ·rename_i hc
    simp at h;subst h
    obtain ⟨rfl,h2⟩:=hc
    exact ⟨by simpa using (not_or.1 h0).1,hq,h2⟩
   ·simp at h
structure Good (t:Ty) (b:Bd):Prop where
 atoms:atomsT t<=15
 fit:fitB t.args b
 wf:wfB b
 size:sizeB b<=200
 depth:depthB b<=100
theorem specStrat_good {s text:Bs} {b:Bd} (h:specStrat s text=some b):Good (specType s).1 b/\text=textB b:=by
 obtain ⟨h1,h2,h3⟩:=specStrat_some h
 have hw:=rdN_wf _ _ _ _ _ h2
 refine ⟨⟨specType_ok h1,rdN_fit _ h2,hw.1,h3,by have:=hw.2;omega⟩,?_⟩
 have:=rdN_canon _ _ _ _ _ h2
 rwa [List.append_nil] at this
def become (b:Bd) (env:List Mn) (n:Nat):Option Bd:=match ev 20000 20000 b env n [] with
 | some (out,_)=>if sizeB out<=200/\depthB out<=100 then some out else none
 | none=>none
def writes (b:Bd) (env:List Mn) (n:Nat):Option Bd:=(evN 20000 200 20000 b env n []).map (·.1)

inductive Tr where
 | am (a:Bs)
 | ls (ps:List Tr)
def trT:Ty->Tr
 | .mk ts=>trTs ts
where trTs:List Ty->Tr
 | []=>.am [98]
 | t::ts=>.ls [.am [62],trT t,trTs ts]




def ansL (m:Nat) (p:Bs):List Bs:=(List.range m).map fun i=>113::(p++dec i)
theorem ansL_length (m:Nat) (p:Bs):(ansL m p).length=m:=by simp [ansL]
theorem ansL_at {m j:Nat} {p:Bs} (h:j<m):(ansL m p)[j]? = some (113::(p++dec j)):=by simp [ansL,h]
theorem ansL_succ (m:Nat) (p:Bs):ansL (m+1) p=ansL m p++[113::(p++dec m)]:=by simp [ansL,List.range_succ]
def ansAll (m:Nat) (p:Bs):List Bs:=ansL m p++[116::p,102::p]
def viewsAll (t:Ty) (ss:List Bd) (y n:Bd) (p:Bs) (k:Nat) (lv:List Place) (bg:Place) (asked:Pl):List (Option (List Pl)) :=
 viewsKs t ss 0 p k lv asked++[viewsB t y lv bg (withQ 116 asked p k),viewsB t n lv bg (withQ 102 asked p k)]
theorem viewsAll_length (t:Ty) (ss:List Bd) (y n:Bd) (p:Bs) (k:Nat) (lv:List Place) (bg:Place) (asked:Pl):(viewsAll t ss y n p k lv bg asked).length=ss.length+2:=by
 simp [viewsAll,viewsKs_length]
theorem viewsB_ask {t:Ty} {l:Nat} {ss:List Bd} {y n:Bd} {lv:List Place} {bg pl:Place} {v:Pl} (h:¬ 59<=v.length) (hl:lv[l]? = some pl) :
 viewsB t (.ask l ss y n) lv bg v=(joinO (viewsAll t ss y n pl.2 v.length lv bg (v++[(113::pl.2,(pl.1:Int))]))).map ((v++[(113::pl.2,(pl.1:Int))]) :: ·):=by
 have hd:lv.getD l (0,[])=pl:=by rw [List.getD_eq_getElem?_getD,hl];rfl
 rw [viewsB,if_neg h,hd];rfl
inductive AnsAt (t:Ty) (ss:List Bd) (y n:Bd) (p:Bs) (k:Nat) (lv:List Place) (bg:Place) (asked:Pl) (j:Nat):Bs->Option (List Pl)->Prop
 | kid (s:Bd) (h:ss[j]? = some s):AnsAt t ss y n p k lv bg asked j (113::(p++dec j)) (viewsB t s (lv++placesOf (argsAt t (p++dec j)) (k+1) (p++dec j)) (k+1,p++dec j) (asked++[(113::(p++dec j),(k:Int))]))
 | yes (h:j=ss.length):AnsAt t ss y n p k lv bg asked j (116::p) (viewsB t y lv bg (asked++[(116::p,(k:Int))]))
 | no (h:j=ss.length+1):AnsAt t ss y n p k lv bg asked j (102::p) (viewsB t n lv bg (asked++[(102::p,(k:Int))]))
theorem ans_at (t:Ty) (ss:List Bd) (y n:Bd) (p:Bs) (k:Nat) (lv:List Place) (bg:Place) (asked:Pl) (j:Nat) (h:j<ss.length+2) :
 ∃ M o,(ansAll ss.length p)[j]? = some M/\(viewsAll t ss y n p k lv bg asked)[j]? = some o/\AnsAt t ss y n p k lv bg asked j M o:=by
 rcases Nat.lt_or_ge j ss.length with hj | hj
 ·have hs:ss[j]? = some ss[j]:=List.getElem?_eq_getElem hj
  refine ⟨_,_,?_,?_,.kid ss[j] hs⟩
  ·rw [ansAll,List.getElem?_append_left (by rw [ansL_length];exact hj)];exact ansL_at hj
  ·rw [viewsAll,List.getElem?_append_left (by rw [viewsKs_length];exact hj),viewsKs_at t ss 0 p k lv asked j _ hs,Nat.zero_add];rfl
 ·rcases Nat.lt_or_ge ss.length j with hj2 | hj2
  ·obtain rfl:j=ss.length+1:=by omega
   refine ⟨_,_,?_,?_,.no rfl⟩
   ·rw [ansAll,List.getElem?_append_right (by rw [ansL_length];omega),ansL_length,Nat.add_sub_cancel_left];rfl
   ·rw [viewsAll,List.getElem?_append_right (by rw [viewsKs_length];omega),viewsKs_length,Nat.add_sub_cancel_left];rfl
  ·obtain rfl:j=ss.length:=by omega
   refine ⟨_,_,?_,?_,.yes rfl⟩
   ·rw [ansAll,List.getElem?_append_right (by rw [ansL_length];omega),ansL_length,Nat.sub_self];rfl
   ·rw [viewsAll,List.getElem?_append_right (by rw [viewsKs_length];omega),viewsKs_length,Nat.sub_self];rfl
def szAll (ss:List Bd) (y n:Bd):List Nat:=ss.map sizeB++[sizeB y,sizeB n]
theorem sizeBs_sum:∀ ss:List Bd,sizeBs ss=(ss.map sizeB).sum
 | []=>by rw [sizeBs];rfl
 | s::ss=>by rw [sizeBs,sizeBs_sum ss];rfl
theorem szAll_sum (ss:List Bd) (y n:Bd) (l:Nat):(szAll ss y n).sum+1=sizeB (.ask l ss y n):=by
 rw [sizeB,szAll,List.sum_append,<- sizeBs_sum];simp;omega
theorem AnsAt.size {t:Ty} {ss:List Bd} {y n:Bd} {p:Bs} {k:Nat} {lv:List Place} {bg:Place} {asked:Pl} {j:Nat} {M:Bs} {o:Option (List Pl)} (h:AnsAt t ss y n p k lv bg asked j M o) :
 ∃ z,(szAll ss y n)[j]? = some z/\∀ out,o=some out->out.length<=z:=by
 cases h with
 | kid s h =>
   have hj:=(List.getElem?_eq_some_iff.1 h).1
   refine ⟨sizeB s,?_,fun out ho=>viewsB_count t s _ _ _ out ho⟩
   rw [szAll,List.getElem?_append_left (by rw [List.length_map];exact hj),List.getElem?_map,h];rfl
 | yes h =>
   subst h
   refine ⟨sizeB y,?_,fun out ho=>viewsB_count t y _ _ _ out ho⟩
   rw [szAll,List.getElem?_append_right (by rw [List.length_map];omega),List.length_map,Nat.sub_self];rfl
 | no h =>
   subst h
   refine ⟨sizeB n,?_,fun out ho=>viewsB_count t n _ _ _ out ho⟩
   rw [szAll,List.getElem?_append_right (by rw [List.length_map];omega),List.length_map,Nat.add_sub_cancel_left];rfl
theorem sum_take_succ {z:List Nat} {j x:Nat} (h:z[j]? = some x):(z.take (j+1)).sum=(z.take j).sum+x:=by
 rw [List.take_add_one,h];simp
theorem sum_take_le (z:List Nat) (j:Nat):(z.take j).sum<=z.sum:=by
 have:(z.take j).sum+(z.drop j).sum=z.sum:=by rw [<- List.sum_append,List.take_append_drop]
 omega
theorem views_next {t:Ty} {ss:List Bd} {y n:Bd} {p:Bs} {k:Nat} {lv:List Place} {bg:Place} {asked:Pl} {j:Nat} {o:Option (List Pl)} {a:List Pl}
 (ho:(viewsAll t ss y n p k lv bg asked)[j]? = some o) (ha:joinO ((viewsAll t ss y n p k lv bg asked).take j)=some a) :
 joinO ((viewsAll t ss y n p k lv bg asked).take (j+1))=o.map (a ++ ·):=by
 rw [joinO_next ho,ha];rfl
theorem views_fail {t:Ty} {ss:List Bd} {y n:Bd} {p:Bs} {k:Nat} {lv:List Place} {bg:Place} {asked:Pl} {j:Nat} {a:List Pl}
 (ho:(viewsAll t ss y n p k lv bg asked)[j]? = some none) (ha:joinO ((viewsAll t ss y n p k lv bg asked).take j)=some a):joinO (viewsAll t ss y n p k lv bg asked)=none :=
 joinO_take_none (j+1) (by rw [joinO_next ho,ha];rfl)
theorem views_done {t:Ty} {ss:List Bd} {y n:Bd} {p:Bs} {k:Nat} {lv:List Place} {bg:Place} {asked:Pl} {a:List Pl}
 (ha:joinO ((viewsAll t ss y n p k lv bg asked).take (ss.length+2))=some a):joinO (viewsAll t ss y n p k lv bg asked)=some a:=by
 rwa [List.take_of_length_le (by rw [viewsAll_length];exact Nat.le_refl _)] at ha
end Go.Proofs.YthoimoenbccflaaDoor

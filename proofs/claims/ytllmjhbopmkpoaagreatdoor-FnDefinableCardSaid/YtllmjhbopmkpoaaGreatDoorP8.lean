import Derived.Test.YtllmjhbopmkpoaaGreatDoorS9
import Derived.Lib.AtoiTie
import Derived.Laws.Concat
/- The plain law: both readers of strategies read the same. -/
namespace Go.Proofs.YtllmjhbopmkpoaaGreatDoor
open Go.RowKit
theorem dig_iff (c:UInt8):dig c=true↔48≤c.toNat∧c.toNat≤57:=by
 simp [dig,UInt8.le_iff_toNat_le]
theorem digit_ofNat {k:Nat} (h:k<10):(UInt8.ofNat (48+k)).toNat=48+k:=by
 rw [UInt8.toNat_ofNat'];exact Nat.mod_eq_of_lt (by omega)
theorem decDigits_dig (u:Nat):∀ c∈Lib.decDigits u,dig c=true:=by
 induction u using Nat.strongRecOn with
 | _ u ih =>
   intro c hc
   rw [Lib.decDigits] at hc
   split at hc
   ·rename_i h
    rw [List.mem_singleton] at hc;subst hc
    rw [dig_iff,digit_ofNat h];omega
   ·rename_i h
    rcases List.mem_append.1 hc with hc | hc
    ·exact ih _ (by omega) c hc
    ·simp only [List.mem_singleton] at hc;subst hc
     rw [dig_iff,digit_ofNat (by omega)];omega
theorem decDigits_val (u:Nat):valOf (Lib.decDigits u)=u:=by
 induction u using Nat.strongRecOn with
 | _ u ih =>
   rw [Lib.decDigits]
   split
   ·rename_i h
    show 10*0+((UInt8.ofNat (48+u)).toNat-48)=u
    rw [digit_ofNat h];omega
   ·rename_i h
    rw [valOf_snoc,ih _ (by omega),digit_ofNat (by omega)];omega
theorem decDigits_ne (u:Nat):Lib.decDigits u≠[]:=by
 intro h
 have:=Lib.decDigits_length u
 have:=Lib.nDigits_pos u
 rw [h] at *;simp at *;omega
theorem decDigits_head (u:Nat) (h1:1≤u):(Lib.decDigits u).head?≠some 48:=by
 induction u using Nat.strongRecOn with
 | _ u ih =>
   rw [Lib.decDigits]
   split
   ·rename_i h
    intro e
    rw [List.head?_cons,Option.some.injEq] at e
    have:=digit_ofNat h
    rw [e] at this
    have h48:(48:UInt8).toNat=48:=rfl
    omega
   ·rename_i h
    rw [List.head?_append]
    have:=ih (u / 10) (by omega) (by omega)
    have hne:=decDigits_ne (u / 10)
    cases hd:Lib.decDigits (u / 10) with
    | nil=>exact absurd hd hne
    | cons x xs=>rw [hd] at this;simpa using this
theorem decDigits_short {u:Nat} (h:u<10000):(Lib.decDigits u).length≤4:=by
 rw [Lib.decDigits_length]
 by_cases h1:u<10
 ·rw [Lib.nDigits_small h1];omega
 rw [Lib.nDigits_big h1]
 by_cases h2:u / 10<10
 ·rw [Lib.nDigits_small h2];omega
 rw [Lib.nDigits_big h2]
 by_cases h3:u / 10 / 10<10
 ·rw [Lib.nDigits_small h3];omega
 rw [Lib.nDigits_big h3]
 rw [Lib.nDigits_small (by omega)];omega
theorem fold_ge (l:Bs):∀ a:Nat,a≤l.foldl (fun n c=>10*n+(c.toNat-48)) a:=by
 induction l with
 | nil=>intro a;simp
 | cons c cs ih=>intro a;simp only [List.foldl_cons];have:=ih (10*a+(c.toNat-48));omega
theorem valOf_pos {l:Bs} (hd:∀ c∈l,dig c=true) (hn:l≠[]) (h48:l.head?≠some 48):1≤valOf l:=by
 cases l with
 | nil=>exact absurd rfl hn
 | cons c cs =>
   have h1:=(dig_iff c).1 (hd c (by simp))
   have h2:c.toNat≠48:=fun e=>h48 (by simp;exact UInt8.toNat_inj.1 (by simpa using e))
   have:=fold_ge cs (10*0+(c.toNat-48))
   show 1≤cs.foldl _ (10*0+(c.toNat-48))
   omega
theorem decDigits_of (n:Nat):∀ w:Bs,w.length=n→w≠[]→(∀ c∈w,dig c=true)→(1<w.length→w.head?≠some 48)→Lib.decDigits (valOf w)=w:=by
 induction n with
 | zero=>intro w hl hn;exact absurd (List.eq_nil_of_length_eq_zero hl) hn
 | succ n ih =>
   intro w hl hn hd hh
   obtain ⟨ws,c,rfl⟩:∃ ws c,w=ws++[c]:=⟨w.dropLast,w.getLast hn,(List.dropLast_concat_getLast hn).symm⟩
   have hc:=(dig_iff c).1 (hd c (by simp))
   have hof:UInt8.ofNat (48+(c.toNat-48))=c:=by
    apply UInt8.toNat_inj.1;rw [digit_ofNat (by omega)];omega
   rw [valOf_snoc]
   by_cases hws:ws=[]
   ·subst hws
    show Lib.decDigits (10*0+(c.toNat-48))=[c]
    rw [Lib.decDigits_one (by omega),show 48+(10*0+(c.toNat-48))=48+(c.toNat-48) from by omega,hof]
   ·have hwl:1≤ws.length:=by cases ws with
     | nil=>exact absurd rfl hws
     | cons x xs=>simp
    have h48:ws.head?≠some 48:=by
     have:=hh (by simp;omega)
     rw [List.head?_append] at this
     cases ws with
     | nil=>exact absurd rfl hws
     | cons x xs=>simpa using this
    have hdw:∀ x∈ws,dig x=true:=fun x hx=>hd x (by simp [hx])
    have hp:=valOf_pos hdw hws h48
    have hi:=ih ws (by simpa using hl) hws hdw (fun _=>h48)
    rw [Lib.decDigits,dif_neg (by omega),show (10*valOf ws+(c.toNat-48)) / 10=valOf ws from by omega,show (10*valOf ws+(c.toNat-48)) % 10=c.toNat-48 from by omega,hi,hof]
theorem decFrom_of (l:Bs):∀ a:Nat,(∀ c∈l,dig c=true)→Lib.decFrom a l=some (l.foldl (fun n c=>10*n+(c.toNat-48)) a):=by
 induction l with
 | nil=>intro a _;rfl
 | cons c cs ih =>
   intro a hd
   have hc:=(dig_iff c).1 (hd c (by simp))
   simp only [Lib.decFrom,Lib.digitVal,if_pos hc,List.foldl_cons]
   rw [Nat.mul_comm a 10]
   exact ih _ fun x hx=>hd x (by simp [hx])
theorem lvl_spec {w:Bs} {n v:Nat} (h:lvl w n=some v) (hn:n≤10000):w≠[]∧w.length≤4∧(∀ c∈w,dig c=true)∧(1<w.length→w.head?≠some 48)∧valOf w=v∧v<n:=by
 obtain ⟨h1,_,h3⟩:=lvl_lt h
 have e:Lib.itoa (v:Int)=Lib.decDigits v:=by unfold Lib.itoa;rw [if_neg (by omega)];simp
 rw [e] at h3
 subst h3
 refine ⟨decDigits_ne v,decDigits_short (by omega),decDigits_dig v,fun hl=>?_,decDigits_val v,h1⟩
 refine decDigits_head v ?_
 rcases Nat.eq_zero_or_pos v with h0 | h0
 ·subst h0;rw [Lib.decDigits_one (by omega)] at hl;simp at hl
 ·exact h0
theorem spec_lvl {w:Bs} {n:Nat} (h1:w≠[]) (h2:w.length≤4) (h3:∀ c∈w,dig c=true) (h4:1<w.length→w.head?≠some 48) (h5:valOf w<n):lvl w n=some (valOf w):=by
 have ha:Lib.atoiAll w=.ok (valOf w:Int):=by
  rw [Lib.atoiAll_short w (by omega)]
  cases w with
  | nil=>exact absurd rfl h1
  | cons c cs =>
    have hc:=(dig_iff c).1 (h3 c (by simp))
    have n45:(c == 45)=false:=by rw [beq_eq_false_iff_ne];rintro rfl;have:(45:UInt8).toNat=45:=rfl;omega
    have n43:(c == 43)=false:=by rw [beq_eq_false_iff_ne];rintro rfl;have:(43:UInt8).toNat=43:=rfl;omega
    simp only [Lib.atoi,n45,n43,Bool.false_eq_true,if_false,Lib.decNat,List.isEmpty_cons]
    rw [decFrom_of _ 0 h3];rfl
 have hi:Lib.itoa (valOf w:Int)=w:=by
  have e:Lib.itoa (valOf w:Int)=Lib.decDigits (valOf w):=by unfold Lib.itoa;rw [if_neg (by omega)];simp
  rw [e,decDigits_of w.length w rfl h1 h3 h4]
 unfold lvl
 rw [ha]
 simp only
 rw [if_pos ⟨hi,by omega,by omega⟩];simp
def sepStart (l:Bs):Prop:=l=[]∨∃ c r,l=c::r∧sep c=true
theorem dig_sep {c:UInt8} (h:dig c=true):sep c=false:=by
 have:=(dig_iff c).1 h
 rw [Bool.eq_false_iff];intro hs
 simp only [sep,Bool.or_eq_true,beq_iff_eq] at hs
 rcases hs with (rfl | rfl) | rfl
 ·have:(32:UInt8).toNat=32:=rfl;omega
 ·have:(40:UInt8).toNat=40:=rfl;omega
 ·have:(41:UInt8).toNat=41:=rfl;omega
theorem word_cut (l:Bs):l=wordOf l++wordRest l:=(List.takeWhile_append_dropWhile).symm
theorem wordDrop (l:Bs):l.drop (wordOf l).length=wordRest l:=by
 have h:=word_cut l
 generalize wordOf l=a at *
 generalize wordRest l=b at *
 subst h;simp
theorem wordRest_start (l:Bs):sepStart (wordRest l):=by
 unfold wordRest
 induction l with
 | nil=>exact .inl rfl
 | cons c cs ih =>
   rw [List.dropWhile_cons]
   split
   ·exact ih
   ·rename_i h;exact .inr ⟨c,cs,rfl,by simpa using h⟩
theorem word_of {w rest:Bs} (hw:∀ c∈w,sep c=false) (hr:sepStart rest):wordOf (w++rest)=w∧wordRest (w++rest)=rest:=by
 unfold wordOf wordRest
 induction w with
 | nil =>
   rcases hr with rfl | ⟨c,r,rfl,hc⟩
   ·exact ⟨rfl,rfl⟩
   ·simp [hc]
 | cons x xs ih =>
   have hx:=hw x (by simp)
   have:=ih fun c hc=>hw c (by simp [hc])
   simp [hx,this.1,this.2]
theorem digsOf_of {w rest:Bs} (hw:∀ c∈w,dig c=true) (hl:w.length≤4) (hr:sepStart rest):digsOf (w++rest)=w:=by
 unfold digsOf
 rw [List.take_append,List.take_of_length_le hl]
 have key:(rest.take (4-w.length)).takeWhile dig=[]:=by
  rcases hr with rfl | ⟨c,r,rfl,hc⟩
  ·simp
  ·cases 4-w.length with
   | zero=>rfl
   | succ k =>
     rw [List.take_succ_cons,List.takeWhile_cons,if_neg]
     intro h;rw [dig_sep h] at hc;simp at hc
 rw [List.takeWhile_append_of_pos (fun c hc=>hw c hc),key,List.append_nil]
theorem cut_is {c:UInt8} {r:Bs}:cut [c] (c::r)=some r:=by simp [cut,List.isPrefixOf]
theorem specParts_append (rd:RdS) (hs gs:List (List Ty)):∀ {l:Bs} {bs:List Bd} {l1:Bs} {cs:List Bd} {l2:Bs},specParts rd hs l=some (bs,l1)→specParts rd gs l1=some (cs,l2)→specParts rd (hs++gs) l=some (bs++cs,l2):=by
 induction hs with
 | nil=>intro l bs l1 cs l2 h k;simp [specParts] at h;obtain ⟨rfl,rfl⟩:=h;simpa using k
 | cons h' hs ih =>
   intro l bs l1 cs l2 h k
   simp only [specParts,Option.bind_eq_bind,Option.bind_eq_some_iff,Prod.exists] at h
   obtain ⟨b,m,h1,bs',m',h2,h3⟩:=h
   simp at h3;obtain ⟨rfl,rfl⟩:=h3
   simp only [List.cons_append,specParts,Option.bind_eq_bind,h1,Option.bind_some,ih h2 k]
def RdFits (rd:Rd) (rs:RdS) (h:List Ty):Prop:=∀ (left:Nat) (l:Bs) (b:Bd) (r:Bs) (f:Nat),rd h left l=some (b,r,f)→rs h l=some (b,r)∧f+sizeB b=left∧l.length+1≤r.length+7*sizeB b
theorem parts_fit {rd:Rd} {rs:RdS} (hs:List (List Ty)) (hf:∀ h∈hs,RdFits rd rs h):∀ {left:Nat} {l:Bs} {bs:List Bd} {r:Bs} {f:Nat},rdParts rd hs left l=some (bs,r,f)→specParts rs hs l=some (bs,r)∧f+sizeBs bs=left∧l.length≤r.length+7*sizeBs bs:=by
 induction hs with
 | nil=>intro left l bs r f h;simp [rdParts] at h;obtain ⟨rfl,rfl,rfl⟩:=h;simp [specParts,sizeBs]
 | cons h' hs ih =>
   intro left l bs r f h
   simp only [rdParts,Option.bind_eq_bind,Option.bind_eq_some_iff,Prod.exists] at h
   obtain ⟨l1,h1,b,l2,f2,h2,bs',l3,f3,h3,h4⟩:=h
   simp at h4;obtain ⟨rfl,rfl,rfl⟩:=h4
   obtain ⟨a1,a2,a3⟩:=hf h' (by simp) _ _ _ _ _ h2
   obtain ⟨b1,b2,b3⟩:=ih (fun x hx=>hf x (by simp [hx])) h3
   have hc:=cut_one_len h1
   refine ⟨?_,by simp [sizeBs];omega,by subst hc;simp [sizeBs];omega⟩
   simp only [specParts,specPart,h1,Option.bind_eq_bind,Option.bind_some,a1,b1]
theorem wordOf_one {l:Bs} {c:UInt8} (h:wordOf l=[c]):l=c::wordRest l:=by
 have:=word_cut l
 rw [h] at this;simpa using this
theorem specNum_of {w rest:Bs} (h1:w≠[]) (h2:w.length≤4) (h3:∀ c∈w,dig c=true) (h4:1<w.length→w.head?≠some 48) (hr:sepStart rest):specNum (w++rest)=some (valOf w,w.length):=by
 unfold specNum
 rw [digsOf_of h3 h2 hr,if_neg]
 rintro (h | ⟨h,h'⟩)
 ·exact h1 h
 ·apply h4 h
  cases w with
  | nil=>exact absurd rfl h1
  | cons x xs=>simpa using h'
theorem rdB_fits (d:Nat):∀ levels,HandOk d levels→RdFits (rdB d) (rdN (d+1)) levels:=by
 induction d with
 | zero =>
   intro levels hh left l b r f h
   rcases left with _ | left
   ·simp [rdB] at h
   rcases cut_cases [40] l with h1 | ⟨r1,h1⟩
   ·rw [rdB_leaf 0 levels left h1.out] at h
    have key:∀ c:UInt8,(c=116∨c=102∨c=117)→wordOf l=[c]→rdN 1 levels l=some (.leaf c,wordRest l)∧left+sizeB (.leaf c)=left+1∧l.length+1≤(wordRest l).length+7*sizeB (.leaf c):=by
     intro c hc hw
     have e:=wordOf_one hw
     refine ⟨?_,rfl,?_⟩
     ·conv=>lhs;rw [e]
      simp only [rdN,if_pos hc]
     ·have:=congrArg List.length e;simp at this;simp [sizeB];omega
    split at h
    ·rename_i hw;simp at h;obtain ⟨rfl,rfl,rfl⟩:=h;exact key _ (by decide) hw
    ·split at h
     ·rename_i hw;simp at h;obtain ⟨rfl,rfl,rfl⟩:=h;exact key _ (by decide) hw
     ·split at h
      ·rename_i hw;simp at h;obtain ⟨rfl,rfl,rfl⟩:=h;exact key _ (by decide) hw
      ·simp at h
   ·rw [rdB_ask 0 levels left h1.out] at h
    cases hv:lvl (wordOf r1) levels.length with
    | none=>rw [hv] at h;simp at h
    | some v=>rw [hv] at h;simp at h
 | succ d ih =>
   intro levels hh left l b r f h
   rcases left with _ | left
   ·simp [rdB] at h
   rcases cut_cases [40] l with h1 | ⟨r1,h1⟩
   ·rw [rdB_leaf (d+1) levels left h1.out] at h
    have key:∀ c:UInt8,(c=116∨c=102∨c=117)→wordOf l=[c]→rdN (d+1+1) levels l=some (.leaf c,wordRest l)∧left+sizeB (.leaf c)=left+1∧l.length+1≤(wordRest l).length+7*sizeB (.leaf c):=by
     intro c hc hw
     have e:=wordOf_one hw
     refine ⟨?_,rfl,?_⟩
     ·conv=>lhs;rw [e]
      simp only [rdN,if_pos hc]
     ·have:=congrArg List.length e;simp at this;simp [sizeB];omega
    split at h
    ·rename_i hw;simp at h;obtain ⟨rfl,rfl,rfl⟩:=h;exact key _ (by decide) hw
    ·split at h
     ·rename_i hw;simp at h;obtain ⟨rfl,rfl,rfl⟩:=h;exact key _ (by decide) hw
     ·split at h
      ·rename_i hw;simp at h;obtain ⟨rfl,rfl,rfl⟩:=h;exact key _ (by decide) hw
      ·simp at h
   ·rw [rdB_ask (d+1) levels left h1.out] at h
    cases hv:lvl (wordOf r1) levels.length with
    | none=>rw [hv] at h;simp at h
    | some v =>
      rw [hv] at h
      simp only at h
      cases ht:levels[v]? with
      | none=>rw [ht] at h;simp at h
      | some t =>
        rw [ht] at h
        simp only [rdAsk,Option.bind_eq_bind,Option.bind_eq_some_iff,Prod.exists] at h
        obtain ⟨ss,l1,f1,h2,yn,l2,f2,h3,h4⟩:=h
        have hl:levels.length≤10000:=by have:=hh.2;omega
        obtain ⟨w1,w2,w3,w4,w5,w6⟩:=lvl_spec hv hl
        split at h4
        ·rename_i y n
         simp only [Option.bind_eq_some_iff] at h4
         obtain ⟨l3,h5,h6⟩:=h4
         simp at h6;obtain ⟨rfl,rfl,rfl⟩:=h6
         have k1:=parts_fit (rs:=rdN (d+1)) (t.args.map fun a=>levels++a.args) (fun x hx=>by
          obtain ⟨a,ha,rfl⟩:=List.mem_map.1 hx
          exact ih _ (hh.next ht ha)) h2
         have hs0:HandOk d levels:=by have:=hh.same;rwa [List.append_nil] at this
         have k2:=parts_fit (rs:=rdN (d+1)) [levels,levels] (fun x hx=>by
          have:x=levels:=by simpa using hx
          subst this;exact ih _ hs0) h3
         have hln:=(rdParts_le (rdB_le d) _ h2).2.2
         rw [List.length_map] at hln
         have hc:=cut_one_len h5
         have hc1:=cut_one_len h1.out
         have hw:=word_cut r1
         have hnum:=specNum_of (rest:=wordRest r1) w1 w2 w3 w4 (wordRest_start r1)
         rw [← hw,w5] at hnum
         have hall:specParts (rdN (d+1)) (allHands levels t) (wordRest r1)=some (ss++[y,n],l2):=specParts_append _ _ _ k1.1 k2.1
         refine ⟨?_,?_,?_⟩
         ·conv=>lhs;rw [hc1]
          rw [rdN]
          rw [if_neg (by decide),if_neg (by decide),hnum]
          simp only [ht]
          rw [wordDrop]
          simp only [hall,Option.bind_eq_bind,Option.bind_some,h5,askOf]
          rw [List.drop_left' hln,List.take_left' hln];rfl
         ·have a1:=k1.2.1;have a2:=k2.2.1
          simp [sizeB,sizeBs] at a1 a2 ⊢;omega
         ·have a1:=k1.2.2;have a2:=k2.2.2
          have hwl:=congrArg List.length hw
          have hcl:=congrArg List.length hc
          have hc1l:=congrArg List.length hc1
          simp [sizeB,sizeBs] at a1 a2 hwl hcl hc1l ⊢;omega
        ·simp at h4
theorem specParts_start {rs:RdS} {hs:List (List Ty)} {l:Bs} {ps:List Bd} {r:Bs} (h:specParts rs hs l=some (ps,r)) (hr:sepStart r):sepStart l:=by
 cases hs with
 | nil=>simp [specParts] at h;obtain ⟨_,rfl⟩:=h;exact hr
 | cons h' hs =>
   simp only [specParts,specPart,Option.bind_eq_bind,Option.bind_eq_some_iff,Prod.exists] at h
   obtain ⟨_,_,⟨l1,h1,_⟩,_⟩:=h
   have:=cut_one_len h1
   exact .inr ⟨32,l1,this,rfl⟩
def RdBack (rd:Rd) (rs:RdS) (h:List Ty):Prop:=∀ (left:Nat) (l:Bs) (b:Bd) (r:Bs),rs h l=some (b,r)→sepStart r→sizeB b≤left→rd h left l=some (b,r,left-sizeB b)
theorem parts_back {rd:Rd} {rs:RdS} (hs:List (List Ty)) (hf:∀ h∈hs,RdBack rd rs h):∀ (left:Nat) (l:Bs) (ps:List Bd) (r:Bs),specParts rs hs l=some (ps,r)→sepStart r→sizeBs ps≤left→rdParts rd hs left l=some (ps,r,left-sizeBs ps):=by
 induction hs with
 | nil=>intro left l ps r h _ _;simp [specParts] at h;obtain ⟨rfl,rfl⟩:=h;simp [rdParts,sizeBs]
 | cons h' hs ih =>
   intro left l ps r h hr hsz
   simp only [specParts,specPart,Option.bind_eq_bind,Option.bind_eq_some_iff,Prod.exists] at h
   obtain ⟨b,l2,⟨l1,h1,h2⟩,bs,l3,h3,h4⟩:=h
   simp at h4;obtain ⟨rfl,rfl⟩:=h4
   simp [sizeBs] at hsz
   have hb:=hf h' (by simp) left l1 b l2 h2 (specParts_start h3 hr) (by omega)
   have hbs:=ih (fun x hx=>hf x (by simp [hx])) (left-sizeB b) l2 bs l3 h3 hr (by omega)
   simp only [rdParts,h1,Option.bind_eq_bind,Option.bind_some,hb,hbs]
   simp [sizeBs];omega
theorem specParts_split (rs:RdS) (hs gs:List (List Ty)):∀ {l:Bs} {ps:List Bd} {r:Bs},specParts rs (hs++gs) l=some (ps,r)→∃ bs l1 cs,ps=bs++cs∧specParts rs hs l=some (bs,l1)∧specParts rs gs l1=some (cs,r):=by
 induction hs with
 | nil=>intro l ps r h;exact ⟨[],l,ps,rfl,rfl,h⟩
 | cons h' hs ih =>
   intro l ps r h
   simp only [List.cons_append,specParts,Option.bind_eq_bind,Option.bind_eq_some_iff,Prod.exists] at h
   obtain ⟨b,m,h1,bs',m',h2,h3⟩:=h
   simp at h3;obtain ⟨rfl,rfl⟩:=h3
   obtain ⟨bs,l1,cs,rfl,a1,a2⟩:=ih h2
   refine ⟨b::bs,l1,cs,rfl,?_,a2⟩
   simp only [specParts,Option.bind_eq_bind,h1,Option.bind_some,a1]
theorem specNum_some {m:Bs} {v k:Nat} (h:specNum m=some (v,k)):digsOf m≠[]∧v=valOf (digsOf m)∧k=(digsOf m).length∧(1<(digsOf m).length→(digsOf m).head?≠some 48):=by
 unfold specNum at h
 split at h
 ·simp at h
 ·rename_i hc
  simp at h
  refine ⟨fun e=>hc (.inl e),h.1.symm,h.2.symm,fun h1 h2=>hc (.inr ⟨h1,?_⟩)⟩
  have hp:=digsOf_prefix m
  obtain ⟨x,hx⟩:=hp
  cases hd:digsOf m with
  | nil=>rw [hd] at h1;simp at h1
  | cons y ys=>rw [hd] at hx h2;rw [← hx];simpa using h2
theorem rdN_back (d:Nat):∀ levels,HandOk d levels→RdBack (rdB d) (rdN (d+1)) levels:=by
 induction d with
 | zero =>
   intro levels hh left l b r h hr hsz
   obtain ⟨left,rfl⟩:∃ x,left=x+1:=⟨left-1,by have:=sizeB_pos b;omega⟩
   cases l with
   | nil=>simp [rdN] at h
   | cons c m =>
     simp only [rdN] at h
     split at h
     ·rename_i hc
      simp at h;obtain ⟨rfl,rfl⟩:=h
      have h40:cut [40] (c::m)=none:=by
       rcases hc with rfl | rfl | rfl <;> simp [cut,List.isPrefixOf]
      have hw:=word_of (w:=[c]) (rest:=m) (fun x hx=>by
       have:x=c:=by simpa using hx
       subst this;rcases hc with rfl | rfl | rfl <;> decide) hr
      rw [List.singleton_append] at hw
      rw [rdB_leaf 0 levels left h40,hw.1,hw.2]
      rcases hc with rfl | rfl | rfl <;> simp [sizeB]
     ·split at h
      ·simp at h
      ·split at h
       ·simp at h
       ·split at h
        ·simp at h
        ·exfalso
         simp only [Option.bind_eq_bind,Option.bind_eq_some_iff,Prod.exists] at h
         obtain ⟨ps,l1,h1,_⟩:=h
         rename_i t _ _
         cases ha:allHands levels t with
         | nil=>have:=allHands_length levels t;rw [ha] at this;simp at this
         | cons x xs=>rw [ha] at h1;simp [specParts,specPart] at h1
 | succ d ih =>
   intro levels hh left l b r h hr hsz
   obtain ⟨left,rfl⟩:∃ x,left=x+1:=⟨left-1,by have:=sizeB_pos b;omega⟩
   cases l with
   | nil=>simp [rdN] at h
   | cons c m =>
     rw [rdN] at h
     simp only at h
     split at h
     ·rename_i hc
      simp at h;obtain ⟨rfl,rfl⟩:=h
      have h40:cut [40] (c::m)=none:=by
       rcases hc with rfl | rfl | rfl <;> simp [cut,List.isPrefixOf]
      have hw:=word_of (w:=[c]) (rest:=m) (fun x hx=>by
       have:x=c:=by simpa using hx
       subst this;rcases hc with rfl | rfl | rfl <;> decide) hr
      rw [List.singleton_append] at hw
      rw [rdB_leaf (d+1) levels left h40,hw.1,hw.2]
      rcases hc with rfl | rfl | rfl <;> simp [sizeB]
     ·split at h
      ·simp at h
      ·rename_i h40
       have h40:c=40:=by simpa using h40
       subst h40
       cases hn:specNum m with
       | none=>rw [hn] at h;simp at h
       | some x =>
         obtain ⟨v,k⟩:=x
         rw [hn] at h
         simp only at h
         cases ht:levels[v]? with
         | none=>rw [ht] at h;simp at h
         | some t =>
           rw [ht] at h
           simp only [Option.bind_eq_bind,Option.bind_eq_some_iff,Prod.exists] at h
           obtain ⟨ps,l2,h1,l3,h2,b',h3,h4⟩:=h
           simp at h4;obtain ⟨rfl,rfl⟩:=h4
           have hc:=cut_one_len h2
           have hsl2:sepStart l2:=.inr ⟨41,l3,hc,rfl⟩
           have hst:=specParts_start h1 hsl2
           obtain ⟨n1,n2,n3,n4⟩:=specNum_some hn
           obtain ⟨bs,l1,cs,e1,p1,p2⟩:=specParts_split _ _ _ h1
           have hbl:=specParts_length _ p1
           have hcl:=specParts_length _ p2
           have hsb:=askOf_size h3
           have hw0:m=digsOf m++m.drop k:=by
            obtain ⟨x,hx⟩:=digsOf_prefix m
            have gen:∀ (a b c:Bs),a++b=c→c.drop a.length=b:=by rintro a b c rfl;simp
            rw [n3,gen _ _ _ hx,hx]
           have hw:=word_of (w:=digsOf m) (rest:=m.drop k) (fun x hx=>dig_sep (digsOf_all m x hx)) hst
           rw [← hw0] at hw
           have hvl:v<levels.length:=(List.getElem?_eq_some_iff.1 ht).1
           have hlv:=spec_lvl (n:=levels.length) n1 (digsOf_le m).1 (digsOf_all m) n4 (by rw [← n2];exact hvl)
           rw [← n2] at hlv
           have hsl1:sepStart l1:=specParts_start p2 hsl2
           have hszs:sizeBs ps=sizeBs bs+sizeBs cs:=by rw [e1,sizeBs_append]
           have hs0:HandOk d levels:=by have:=hh.same;rwa [List.append_nil] at this
           have k1:=parts_back (rd:=rdB d) (t.args.map fun a=>levels++a.args) (fun x hx=>by
            obtain ⟨a,ha,rfl⟩:=List.mem_map.1 hx
            exact ih _ (hh.next ht ha)) left (m.drop k) bs l1 p1 hsl1 (by omega)
           have k2:=parts_back (rd:=rdB d) [levels,levels] (fun x hx=>by
            have:x=levels:=by simpa using hx
            subst this;exact ih _ hs0) (left-sizeBs bs) l1 cs l2 p2 hsl2 (by omega)
           have hbl':bs.length=t.args.length:=by simpa [hands] using hbl
           obtain ⟨y,n,rfl⟩:∃ y n,cs=[y,n]:=by
            match cs,hcl with
            | [a,b],_=>exact ⟨a,b,rfl⟩
           have hb:b'=.ask v bs y n:=by
            rw [e1] at h3
            unfold askOf at h3
            rw [List.drop_left' hbl',List.take_left' hbl'] at h3
            simpa using h3.symm
           subst hb
           rw [rdB_ask (d+1) levels left (l:=40::m) cut_is,hw.1,hlv]
           simp only [ht]
           rw [hw.2]
           simp only [rdAsk,k1,k2,Option.bind_eq_bind,Option.bind_some,h2]
           simp [sizeB,sizeBs] at *;omega
theorem rdStrat_eq (t:Ty) (ht:atomsT t≤15) (l:Bs):rdStrat t l=(if 2000<l.length then none else match rdN 101 t.args l with
 | none=>none
 | some (b,rest)=>if rest=[]∧sizeB b≤200 then some b else none):=by
 have hh:=handOk_of ht
 cases hq:rdStrat t l with
 | some b =>
   have h1:∃ f,rdB 100 t.args 200 l=some (b,[],f):=by
    unfold rdStrat at hq
    split at hq
    ·rename_i b' f he
     simp at hq;subst hq;exact ⟨f,he⟩
    ·simp at hq
   obtain ⟨f,h1⟩:=h1
   obtain ⟨a1,a2,a3⟩:=rdB_fits 100 t.args hh _ _ _ _ _ h1
   have:¬ 2000<l.length:=by simp at a3;omega
   rw [if_neg this,a1]
   simp only
   rw [if_pos ⟨by trivial,by omega⟩]
 | none =>
   symm
   split
   ·rfl
   ·cases hn:rdN 101 t.args l with
    | none=>rfl
    | some x =>
      obtain ⟨b,rest⟩:=x
      simp only
      split
      ·rename_i hc
       obtain ⟨rfl,hc⟩:=hc
       have:=rdN_back 100 t.args hh 200 l b [] hn (.inl rfl) hc
       unfold rdStrat at hq
       rw [this] at hq;simp at hq
      ·rfl
theorem rdTS_eq (s l:Bs):rdTS s l=(specStrat s l).map fun b=>((specType s).1,b):=by
 unfold rdTS specStrat
 rw [specType_eq]
 cases hok:(specType s).2 with
 | false=>simp
 | true =>
   have h15:=specType_ok hok
   simp only [if_true,Option.bind_eq_bind,Option.bind_some]
   rw [rdStrat_eq _ h15]
   by_cases h2:2000<l.length
   ·simp [h2]
   ·simp only [h2,if_false,Bool.true_eq_false,false_or]
    cases rdN 101 (specType s).1.args l with
    | none=>rfl
    | some x =>
      obtain ⟨b,rest⟩:=x
      simp only
      split <;> rfl
end Go.Proofs.YtllmjhbopmkpoaaGreatDoor
namespace Go.Proofs.YtllmjhbopmkpoaaGreatDoor
open Go.RowKit
mutual
def fitB:List Ty→Bd→Prop
 | _,.leaf _=>True
 | hand,.ask v ss y n=>∃ t,hand[v]? = some t∧fitBs (hands hand t.args) ss∧fitB hand y∧fitB hand n
def fitBs:List (List Ty)→List Bd→Prop
 | hs,[]=>hs=[]
 | hs,b::bs=>∃ h hs',hs=h::hs'∧fitB h b∧fitBs hs' bs
end
mutual
def belowB:Bd→Bd→Bool
 | .leaf c,.leaf d=>c == 117 || c == d
 | .leaf c,.ask _ _ _ _=>c == 117
 | .ask _ _ _ _,.leaf _=>false
 | .ask v ss y n,.ask v' ss' y' n'=>v == v' && (belowBs ss ss' && (belowB y y' && belowB n n'))
def belowBs:List Bd→List Bd→Bool
 | a::xs,b::bs=>belowB a b && belowBs xs bs
 | [],_=>true
 | _::_,[]=>false
end
theorem hands_length (levels ts:List Ty):(hands levels ts).length=ts.length:=by simp [hands]
theorem fitBs_append:∀ (xs:List Bd) (bs:List Bd) (hs ks:List (List Ty)),fitBs hs xs→fitBs ks bs→fitBs (hs++ks) (xs++bs)
 | [],bs,hs,ks,h1,h2=>by rw [fitBs] at h1;subst h1;simpa using h2
 | a::xs,bs,hs,ks,h1,h2=>by
   rw [fitBs] at h1
   obtain ⟨h,hs',rfl,e1,e2⟩:=h1
   exact ⟨h,hs'++ks,rfl,e1,fitBs_append xs bs hs' ks e2 h2⟩
theorem fitBs_length:∀ (xs:List Bd) (hs:List (List Ty)),fitBs hs xs→hs.length=xs.length
 | [],hs,h=>by rw [fitBs] at h;simp [h]
 | a::xs,hs,h=>by
   rw [fitBs] at h
   obtain ⟨h',hs',rfl,e1,e2⟩:=h
   simp [fitBs_length xs hs' e2]
theorem fitBs_at:∀ (xs:List Bd) (hs:List (List Ty)),fitBs hs xs→∀ (k:Nat) (a:Bd),xs[k]? = some a→∃ h,hs[k]? = some h∧fitB h a
 | [],hs,h,k,a,ha=>by simp at ha
 | a::xs,hs,h,k,a',ha=>by
   rw [fitBs] at h
   obtain ⟨h',hs',rfl,e1,e2⟩:=h
   cases k with
   | zero=>simp at ha;subst ha;exact ⟨h',rfl,e1⟩
   | succ k=>simp at ha;simpa using fitBs_at xs hs' e2 k a' ha
theorem fitBs_pair (h k:List Ty) (y n:Bd):fitBs [h,k] [y,n]↔fitB h y∧fitB k n:=by
 constructor
 ·intro hf
  rw [fitBs] at hf
  obtain ⟨a,as',e,h1,h2⟩:=hf
  simp only [List.cons.injEq] at e
  obtain ⟨rfl,rfl⟩:=e
  rw [fitBs] at h2
  obtain ⟨a,as',e,h3,h4⟩:=h2
  simp only [List.cons.injEq] at e
  obtain ⟨rfl,rfl⟩:=e
  exact ⟨h1,h3⟩
 ·rintro ⟨h1,h2⟩
  exact ⟨h,[k],rfl,h1,k,[],rfl,h2,by rw [fitBs]⟩
theorem fit_parts {hand:List Ty} {v:Nat} {ss:List Bd} {y n:Bd} (h:fitB hand (.ask v ss y n)):∃ t,hand[v]? = some t∧fitBs (allHands hand t) (partsOf (.ask v ss y n))∧ss.length=t.args.length:=by
 rw [fitB] at h
 obtain ⟨t,h1,h2,h3,h4⟩:=h
 refine ⟨t,h1,fitBs_append _ _ _ _ h2 ((fitBs_pair _ _ _ _).2 ⟨h3,h4⟩),?_⟩
 have:=fitBs_length _ _ h2
 rw [hands_length] at this;exact this.symm
theorem fitBs_split:∀ (hs:List (List Ty)) (ks:List (List Ty)) (ps:List Bd),fitBs (hs++ks) ps→fitBs hs (ps.take hs.length)∧fitBs ks (ps.drop hs.length)
 | [],ks,ps,h=>by
   constructor
   ·simp [fitBs]
   ·simpa using h
 | x::hs,ks,[],h=>by simp [fitBs] at h
 | x::hs,ks,p::ps,h=>by
   simp only [List.cons_append] at h
   rw [fitBs] at h
   obtain ⟨h',hs',e,e1,e2⟩:=h
   simp only [List.cons.injEq] at e
   obtain ⟨rfl,rfl⟩:=e
   have:=fitBs_split hs ks ps e2
   simp only [List.length_cons,List.take_succ_cons,List.drop_succ_cons]
   exact ⟨⟨x,hs,rfl,e1,this.1⟩,this.2⟩
theorem specParts_fit {rd:RdS} (hrd:∀ {h l b r},rd h l=some (b,r)→fitB h b) (hs:List (List Ty)):∀ {l r:Bs} {ps:List Bd},specParts rd hs l=some (ps,r)→fitBs hs ps:=by
 induction hs with
 | nil=>intro l r ps h;simp [specParts] at h;obtain ⟨rfl,rfl⟩:=h;simp [fitBs]
 | cons h' hs ih =>
   intro l r ps h
   simp only [specParts,Option.bind_eq_bind,Option.bind_eq_some_iff,Prod.exists] at h
   obtain ⟨b,l1,h1,bs,l2,h2,h3⟩:=h
   simp at h3;obtain ⟨rfl,rfl⟩:=h3
   unfold specPart at h1
   simp only [Option.bind_eq_bind,Option.bind_eq_some_iff] at h1
   obtain ⟨l3,_,h4⟩:=h1
   exact ⟨h',hs,rfl,hrd h4,ih h2⟩
theorem rdN_fit (e:Nat):∀ {h:List Ty} {l:Bs} {b:Bd} {r:Bs},rdN e h l=some (b,r)→fitB h b:=by
 induction e with
 | zero=>intro h l b r hq;simp [rdN] at hq
 | succ e ih =>
   intro h l b r hq
   cases l with
   | nil=>simp [rdN] at hq
   | cons c m =>
     simp only [rdN] at hq
     split at hq
     ·simp at hq;obtain ⟨rfl,rfl⟩:=hq;simp [fitB]
     ·split at hq
      ·simp at hq
      ·split at hq
       ·simp at hq
       ·rename_i v k hsn
        split at hq
        ·simp at hq
        ·rename_i t ht
         simp only [Option.bind_eq_bind,Option.bind_eq_some_iff,Prod.exists] at hq
         obtain ⟨ps,l1,h1,l2,h2,b',h3,h4⟩:=hq
         simp at h4;obtain ⟨rfl,rfl⟩:=h4
         have k1:=specParts_fit ih _ h1
         have k2:=fitBs_split _ _ _ k1
         rw [hands_length] at k2
         unfold askOf at h3
         split at h3
         ·rename_i y no hd
          simp at h3;subst h3
          rw [hd,fitBs_pair] at k2
          rw [fitB]
          exact ⟨t,ht,k2.1,k2.2.1,k2.2.2⟩
         ·simp at h3
theorem belowBs_true:∀ (xs bs:List Bd),xs.length=bs.length→(belowBs xs bs=true↔∀ (k:Nat) (a b:Bd),xs[k]? = some a→bs[k]? = some b→belowB a b=true)
 | [],[],_=>by simp [belowBs]
 | a::xs,b::bs,h=>by
   simp only [belowBs,Bool.and_eq_true]
   rw [belowBs_true xs bs (by simpa using h)]
   constructor
   ·rintro ⟨h1,h2⟩ k a' b' ha hb
    cases k with
    | zero=>simp at ha hb;subst ha;subst hb;exact h1
    | succ k=>simp at ha hb;exact h2 k a' b' ha hb
   ·intro h
    exact ⟨h 0 a b rfl rfl,fun k a' b' ha hb=>h (k+1) a' b' (by simpa using ha) (by simpa using hb)⟩
def BelowTo (xs bs:List Bd) (k:Nat):Prop:=∀ (j:Nat) (a b:Bd),j<k→xs[j]? = some a→bs[j]? = some b→belowB a b=true
theorem BelowTo.zero (xs bs:List Bd):BelowTo xs bs 0:=fun j a b h=>by omega
theorem BelowTo.next {xs bs:List Bd} {k:Nat} (h:BelowTo xs bs k) {a b:Bd} (ha:xs[k]? = some a) (hb:bs[k]? = some b) (hab:belowB a b=true):BelowTo xs bs (k+1):=by
 intro j a' b' hj h1 h2
 rcases Nat.lt_or_ge j k with h' | h'
 ·exact h j a' b' h' h1 h2
 ·obtain rfl:j=k:=by omega
  rw [ha] at h1;rw [hb] at h2;simp at h1 h2;subst h1;subst h2;exact hab
theorem BelowTo.all {xs bs:List Bd} (hl:xs.length=bs.length) (h:BelowTo xs bs xs.length):belowBs xs bs=true :=
 (belowBs_true xs bs hl).2 fun k a b ha hb=>h k a b (List.getElem?_eq_some_iff.1 ha).1 ha hb
def lvOf:Bd→Nat
 | .leaf _=>0
 | .ask v _ _ _=>v
theorem encN_lv {F:Nat→Prop} {w:World} {b:Bd} {s v k y:Value} (h:Reps F w (encN b) [s,v,k,y]):v=.int .i64 (lvOf b:Nat):=by
 cases b with
 | leaf c =>
   rw [encN] at h
   obtain ⟨_,_,e,h0,h⟩:=Reps_cons.1 h
   simp only [List.cons.injEq] at e;obtain ⟨rfl,rfl⟩:=e
   obtain ⟨_,_,e,h1,h⟩:=Reps_cons.1 h
   simp only [List.cons.injEq] at e;obtain ⟨rfl,rfl⟩:=e
   exact Rep_val.1 h1
 | ask lv ss yb nb =>
   rw [encN] at h
   obtain ⟨_,_,e,h0,h⟩:=Reps_cons.1 h
   simp only [List.cons.injEq] at e;obtain ⟨rfl,rfl⟩:=e
   obtain ⟨_,_,e,h1,h⟩:=Reps_cons.1 h
   simp only [List.cons.injEq] at e;obtain ⟨rfl,rfl⟩:=e
   exact Rep_val.1 h1
end Go.Proofs.YtllmjhbopmkpoaaGreatDoor
namespace Go.Proofs.YtllmjhbopmkpoaaGreatDoor
open Go.RowKit
theorem tmod_nat (a b:Nat):((a:Int).tmod (b:Int))=((a % b:Nat):Int):=rfl
theorem tdiv_nat (a b:Nat):((a:Int).tdiv (b:Int))=((a / b:Nat):Int):=rfl
theorem wrap_nat (n:Nat) (h:n<9223372036854775808):IntKind.i64.wrap (n:Int)=(n:Int):=by
 simp [IntKind.wrap,IntKind.bits,IntKind.signed];omega
def digit (r:Nat):UInt8:=UInt8.ofNat (48+r)
def dec (n:Nat):Bs:=if n<10 then [digit n] else dec (n / 10)++[digit (n % 10)]
theorem dec_small {n:Nat} (h:n<10):dec n=[digit n]:=by rw [dec,if_pos h]
theorem dec_great {n:Nat} (h:¬ n<10):dec n=dec (n / 10)++[digit (n % 10)]:=by rw [dec,if_neg h]
theorem dec_length (k:Nat):∀ n,n<10 ^ (k+1)→(dec n).length≤k+1:=by
 induction k with
 | zero=>intro n h;rw [dec_small (by simpa using h)];simp
 | succ k ih =>
   intro n h
   by_cases h10:n<10
   ·rw [dec_small h10];simp
   ·rw [dec_great h10]
    have:=ih (n / 10) (by rw [Nat.div_lt_iff_lt_mul (by omega),← Nat.pow_succ];exact h)
    simp;omega
theorem str_add (a b:Bs):(⟨a.toArray⟩:ByteArray)++(⟨b.toArray⟩:ByteArray)=⟨(a++b).toArray⟩:=by
 have h:((⟨a.toArray⟩:ByteArray)++(⟨b.toArray⟩:ByteArray)).data=(a++b).toArray:=by
  rw [ByteArray.data_append];simp
 cases hx:(⟨a.toArray⟩:ByteArray)++(⟨b.toArray⟩:ByteArray) with
 | mk d=>rw [hx] at h;simp at h;rw [h]
theorem add_str {P:Program} (a b:Bs) (h:a.length+b.length≤9223372036854775807) (w:World):(Op.stringOp .add ⟨a.toArray⟩ ⟨b.toArray⟩).run P w=.ok (str (a++b)) w:=by
 rw [run_string_add_sum w _ _ (by rw [size_str,size_str];exact h),str_add]
mutual
def textB:Bd→Bs
 | .leaf c=>[c]
 | .ask v ss y n=>(((([40]++dec v++textBs ss++[32])++textB y)++[32])++textB n)++[41]
def textBs:List Bd→Bs
 | []=>[]
 | b::bs=>[32]++textB b++textBs bs
end
mutual
def lvB:Bd→Prop
 | .leaf _=>True
 | .ask v ss y n=>v≤10000∧lvBs ss∧lvB y∧lvB n
def lvBs:List Bd→Prop
 | []=>True
 | b::bs=>lvB b∧lvBs bs
end
theorem textBs_append:∀ (xs ys:List Bd),textBs (xs++ys)=textBs xs++textBs ys
 | [],ys=>by simp [textBs]
 | x::xs,ys=>by simp [textBs,textBs_append xs ys]
theorem textBs_take {ts:List Bd} {k:Nat} {t:Bd} (h:ts[k]? = some t):textBs (ts.take (k+1))=textBs (ts.take k)++[32]++textB t:=by
 rw [List.take_add_one,h,textBs_append];simp [textBs]
theorem lvBs_at:∀ (xs:List Bd),lvBs xs→∀ (k:Nat) (t:Bd),xs[k]? = some t→lvB t
 | [],_,k,t,h=>by simp at h
 | x::xs,hl,k,t,h=>by
   rw [lvBs] at hl
   cases k with
   | zero=>simp at h;subst h;exact hl.1
   | succ k=>simp at h;exact lvBs_at xs hl.2 k t h
mutual
theorem textB_length:∀ (b:Bd),lvB b→(textB b).length+1≤12*sizeB b
 | .leaf c,_=>by simp [textB,sizeB]
 | .ask v ss y n,h=>by
   rw [lvB] at h
   have h1:=textBs_length ss h.2.1
   have h2:=textB_length y h.2.2.1
   have h3:=textB_length n h.2.2.2
   have h4:(dec v).length≤5:=dec_length 4 v (by have:=h.1;omega)
   simp only [textB,sizeB,List.length_append,List.length_cons,List.length_nil]
   omega
theorem textBs_length:∀ (bs:List Bd),lvBs bs→(textBs bs).length≤12*sizeBs bs
 | [],_=>by simp [textBs]
 | b::bs,h=>by
   rw [lvBs] at h
   have h1:=textB_length b h.1
   have h2:=textBs_length bs h.2
   simp only [textBs,sizeBs,List.length_append,List.length_cons,List.length_nil]
   omega
end
theorem textBs_take_len (xs:List Bd) (k:Nat):(textBs (xs.take k)).length≤(textBs xs).length:=by
 have:=congrArg List.length (textBs_append (xs.take k) (xs.drop k))
 rw [List.take_append_drop,List.length_append] at this
 omega
end Go.Proofs.YtllmjhbopmkpoaaGreatDoor
namespace Go.Proofs.YtllmjhbopmkpoaaGreatDoor
open Go.RowKit
mutual
def textT:Ty→Bs
 | .mk ts=>textTs ts
def textTs:List Ty→Bs
 | []=>[98]
 | a::ts=>[40,62,32]++(textT a++([32]++(textTs ts++[41])))
end
theorem textT_nil:textT (.mk [])=[98]:=by rw [textT,textTs]
theorem textT_cons (a:Ty) (ts:List Ty):textT (.mk (a::ts))=[40,62,32]++(textT a++([32]++(textT (.mk ts)++[41]))):=by
 rw [textT,textTs,textT]
theorem atomsT_cons (a:Ty) (ts:List Ty):atomsT (.mk (a::ts))=1+atomsT a+atomsT (.mk ts):=by
 simp only [atomsT,atomsTs];omega
theorem cut_app (p r:Bs):cut p (p++r)=some r:=by
 unfold cut
 have h:p.isPrefixOf (p++r)=true:=List.isPrefixOf_iff_prefix.2 (List.prefix_append _ _)
 rw [if_pos h];simp
theorem noCut_b (r:Bs):NoCut [98] ([40,62,32]++r):=by
 show cut [98] ([40,62,32]++r)=none
 rfl
theorem rdK_text (d:Nat):∀ (t:Ty) (r:Bs),atomsT t≤2*d+1→rdK d (textT t++r)=some (t,r):=by
 have hb:∀ (d:Nat) (r:Bs),rdK d (textT (.mk [])++r)=some (.mk [],r):=fun d r=>by
  rw [textT_nil];exact rdK_b (cut_app [98] r)
 induction d with
 | zero =>
   intro t r h
   obtain ⟨ts⟩:=t
   cases ts with
   | nil=>exact hb 0 r
   | cons a ts=>rw [atomsT_cons] at h;have:=atomsT_pos a;have:=atomsT_pos (.mk ts);omega
 | succ d ih =>
   intro t r h
   obtain ⟨ts⟩:=t
   cases ts with
   | nil=>exact hb _ r
   | cons a ts =>
     rw [atomsT_cons] at h
     have h1:=atomsT_pos a;have h2:=atomsT_pos (.mk ts)
     rw [textT_cons]
     have e:([40,62,32]++(textT a++([32]++(textT (.mk ts)++[41]))))++r=[40,62,32]++(textT a++([32]++(textT (.mk ts)++([41]++r)))):=by simp
     rw [e,rdK_succ (noCut_b _)]
     simp only [cut_app,Option.bind_eq_bind,Option.bind_some,ih a _ (by omega:atomsT a≤2*d+1),ih (.mk ts) _ (by omega:atomsT (.mk ts)≤2*d+1)]
     rfl
theorem textT_length:∀ (n:Nat) (t:Ty),atomsT t≤n→(textT t).length+2=3*atomsT t:=by
 intro n
 induction n with
 | zero=>intro t h;have:=atomsT_pos t;omega
 | succ n ih =>
   intro t h
   obtain ⟨ts⟩:=t
   cases ts with
   | nil=>rw [textT_nil];simp [atomsT,atomsTs]
   | cons a ts =>
     rw [atomsT_cons] at h ⊢
     have h1:=atomsT_pos a;have h2:=atomsT_pos (.mk ts)
     have k1:=ih a (by omega)
     have k2:=ih (.mk ts) (by omega)
     rw [textT_cons]
     simp only [List.length_append,List.length_cons,List.length_nil]
     omega
theorem specType_text {t:Ty} (h:atomsT t≤15):specType (textT t)=(t,true):=by
 have hl:=textT_length 15 t h
 unfold specType
 rw [if_neg (by omega)]
 have:=rdK_text 20 t [] (by omega)
 rw [List.append_nil] at this
 have h2:rdS 21 (textT t)=some (t,[]):=this
 rw [h2]
 simp [h]
inductive Clo where
 | mk (b:Bd) (env:List Clo) (begun:Nat) (path:Bs)
def Clo.body:Clo→Bd | .mk b _ _ _=>b
def Clo.env:Clo→List Clo | .mk _ e _ _=>e
def Clo.begun:Clo→Nat | .mk _ _ n _=>n
def Clo.path:Clo→Bs | .mk _ _ _ p=>p
end Go.Proofs.YtllmjhbopmkpoaaGreatDoor

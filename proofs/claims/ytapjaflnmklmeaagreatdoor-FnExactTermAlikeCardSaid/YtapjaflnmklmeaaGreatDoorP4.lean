import Derived.Test.YtapjaflnmklmeaaGreatDoorP1
import Derived.Lib.AtoiAll
import Derived.Lib.ItoaNum
/- Plain words: bodies of strategies, and how they are read. -/
namespace Go.Proofs.YtapjaflnmklmeaaGreatDoor
open Go.RowKit
inductive Bd where
 | leaf (c:UInt8)
 | ask (v:Nat) (subs:List Bd) (yes no:Bd)
mutual
def encB:Bd→DV
 | .leaf c=>.ptr 72 [.val (str [c]),.val (.int .i64 (0:Nat)),.sl 44 1 0 [],.val (.pointer none),.val (.pointer none)]
 | .ask v ss y n=>.ptr 72 [.val (str []),.val (.int .i64 v),.sl 44 1 ss.length (encBs ss),encB y,encB n]
def encBs:List Bd→List DV
 | []=>[]
 | b::bs=>encB b::encBs bs
end
def sep (c:UInt8):Bool:=c == 32 || c == 40 || c == 41
def wordOf (l:Bs):Bs:=l.takeWhile (fun c=>!sep c)
def wordRest (l:Bs):Bs:=l.dropWhile (fun c=>!sep c)
def lvl (w:Bs) (n:Nat):Option Nat :=
 match Lib.atoiAll w with
 | .ok v=>if Lib.itoa v=w∧0≤v∧v<n then some v.toNat else none
 | _=>none
def hands (levels ts:List Ty):List (List Ty):=ts.map fun a=>levels++a.args
def partsOf:Bd→List Bd
 | .leaf _=>[]
 | .ask _ ss y n=>ss++[y,n]
mutual
def sizeB:Bd→Nat
 | .leaf _=>1
 | .ask _ ss y n=>1+(sizeBs ss+(sizeB y+sizeB n))
def sizeBs:List Bd→Nat
 | []=>0
 | b::bs=>sizeB b+sizeBs bs
end
mutual
def depthB:Bd→Nat
 | .leaf _=>0
 | .ask _ ss y n=>max (depthBs ss) (max (1+depthB y) (1+depthB n))
def depthBs:List Bd→Nat
 | []=>0
 | b::bs=>max (1+depthB b) (depthBs bs)
end
theorem sizeBs_append (a b:List Bd):sizeBs (a++b)=sizeBs a+sizeBs b:=by
 induction a with
 | nil=>simp [sizeBs]
 | cons t ts ih=>simp [sizeBs,ih];omega
theorem depthBs_append (a b:List Bd):depthBs (a++b)=max (depthBs a) (depthBs b):=by
 induction a with
 | nil=>simp [depthBs]
 | cons t ts ih=>simp only [List.cons_append,depthBs,ih];omega
theorem sizeB_parts (b:Bd):sizeB b=1+sizeBs (partsOf b):=by
 cases b with
 | leaf c=>simp [sizeB,partsOf,sizeBs]
 | ask v ss y n=>simp [sizeB,partsOf,sizeBs_append,sizeBs]
theorem depthB_parts (b:Bd):depthB b=depthBs (partsOf b):=by
 cases b with
 | leaf c=>simp [depthB,partsOf,depthBs]
 | ask v ss y n=>simp only [depthB,partsOf,depthBs_append,depthBs];omega
theorem sizeBs_take {ts:List Bd} {k:Nat} {t:Bd} (h:ts[k]? = some t):sizeBs (ts.take (k+1))=sizeBs (ts.take k)+sizeB t:=by
 rw [List.take_add_one,h,sizeBs_append];simp [sizeBs]
theorem depthBs_take {ts:List Bd} {k:Nat} {t:Bd} (h:ts[k]? = some t):depthBs (ts.take (k+1))=max (depthBs (ts.take k)) (1+depthB t):=by
 rw [List.take_add_one,h,depthBs_append];simp [depthBs]
theorem sizeBs_take_le (ts:List Bd) (k:Nat):sizeBs (ts.take k)≤sizeBs ts:=by
 have:=sizeBs_append (ts.take k) (ts.drop k);rw [List.take_append_drop] at this;omega
theorem sizeB_pos (b:Bd):1≤sizeB b:=by rw [sizeB_parts];omega
theorem length_le_sizeBs (ts:List Bd):ts.length≤sizeBs ts:=by
 induction ts with
 | nil=>simp
 | cons t ts ih=>simp [sizeBs];have:=sizeB_pos t;omega
theorem depthBs_lt {ts:List Bd} (h:∀ t∈ts,depthB t<sizeB t):depthBs ts≤sizeBs ts:=by
 induction ts with
 | nil=>simp [depthBs]
 | cons t ts ih =>
   have h1:=h t (by simp)
   have h2:=ih (fun x hx=>h x (by simp [hx]))
   simp only [depthBs,sizeBs];omega
theorem mem_sizeBs {ts:List Bd} {t:Bd} (h:t∈ts):sizeB t≤sizeBs ts:=by
 induction ts with
 | nil=>simp at h
 | cons x xs ih =>
   rcases List.mem_cons.1 h with rfl | h
   ·simp [sizeBs]
   ·have:=ih h;simp [sizeBs];omega
theorem depthB_lt:∀ (n:Nat) (b:Bd),sizeB b≤n→depthB b<sizeB b:=by
 intro n
 induction n with
 | zero=>intro b h;have:=sizeB_pos b;omega
 | succ n ih =>
   intro b h
   have h1:=sizeB_parts b
   rw [depthB_parts,h1]
   have:=depthBs_lt (ts:=partsOf b) (fun t ht=>ih t (by have:=mem_sizeBs ht;omega))
   omega
end Go.Proofs.YtapjaflnmklmeaaGreatDoor
namespace Go.Proofs.YtapjaflnmklmeaaGreatDoor
open Go.RowKit
theorem tw_all {α:Type} (p:α→Bool) (l:List α):∀ c∈l.takeWhile p,p c=true:=by
 induction l with
 | nil=>simp
 | cons x xs ih =>
   intro c hc
   rw [List.takeWhile_cons] at hc
   split at hc
   ·rename_i hx
    rcases List.mem_cons.1 hc with rfl | hc
    ·exact hx
    ·exact ih c hc
   ·simp at hc
theorem tw_end {α:Type} (p:α→Bool) (l:List α):∀ h:(l.takeWhile p).length<l.length,p l[(l.takeWhile p).length]=false:=by
 induction l with
 | nil=>intro h;simp at h
 | cons x xs ih =>
   intro h
   by_cases hx:p x=true
   ·have e:(x::xs).takeWhile p=x::xs.takeWhile p:=by rw [List.takeWhile_cons,if_pos hx]
    have h':(xs.takeWhile p).length<xs.length:=by rw [e] at h;simpa using h
    have:=ih h'
    simp only [e,List.length_cons,List.getElem_cons_succ];exact this
   ·have e:(x::xs).takeWhile p=[]:=by rw [List.takeWhile_cons,if_neg hx]
    simp only [e,List.length_nil,List.getElem_cons_zero];simpa using hx
def dig (c:UInt8):Bool:=48≤c && c≤57
def digsOf (m:Bs):Bs:=(m.take 4).takeWhile dig
def valOf (ds:Bs):Nat:=ds.foldl (fun n c=>10*n+(c.toNat-48)) 0
def specNum (m:Bs):Option (Nat×Nat) :=
 if digsOf m=[]∨(1<(digsOf m).length∧m.head? = some 48) then none else some (valOf (digsOf m),(digsOf m).length)
theorem digsOf_le (m:Bs):(digsOf m).length≤4∧(digsOf m).length≤m.length:=by
 have h1:(digsOf m).length≤(m.take 4).length:=(List.takeWhile_sublist _).length_le
 simp at h1;omega
theorem digsOf_prefix (m:Bs):digsOf m <+: m:=(List.takeWhile_prefix _).trans (List.take_prefix _ _)
theorem digsOf_all (m:Bs):∀ c∈digsOf m,dig c=true:=by
 exact tw_all dig _
theorem digsOf_at {m:Bs} {j:Nat} (h:j<(digsOf m).length):∃ hm:j<m.length,m[j]=(digsOf m)[j]∧dig m[j]=true:=by
 have hp:=digsOf_prefix m
 have hl:=hp.length_le
 refine ⟨by omega,(hp.getElem h).symm,?_⟩
 rw [← hp.getElem h]
 exact digsOf_all m _ (List.getElem_mem h)
theorem digsOf_end {m:Bs}:(digsOf m).length=4∨m.length≤(digsOf m).length∨∃ h:(digsOf m).length<m.length,dig m[(digsOf m).length]=false:=by
 by_cases h4:(digsOf m).length=4
 ·exact .inl h4
 by_cases hl:m.length≤(digsOf m).length
 ·exact .inr (.inl hl)
 have hle:=digsOf_le m
 refine .inr (.inr ⟨by omega,?_⟩)
 have hlt:(digsOf m).length<(m.take 4).length:=by simp;omega
 have h2:dig ((m.take 4)[(digsOf m).length])=false:=tw_end dig (m.take 4) hlt
 rw [List.getElem_take] at h2;exact h2
theorem valOf_snoc (ds:Bs) (c:UInt8):valOf (ds++[c])=10*valOf ds+(c.toNat-48):=by
 unfold valOf;rw [List.foldl_append];rfl
theorem valOf_take {ds:Bs} {j:Nat} (h:j<ds.length):valOf (ds.take (j+1))=10*valOf (ds.take j)+(ds[j].toNat-48):=by
 rw [List.take_add_one,List.getElem?_eq_getElem h];exact valOf_snoc _ _
theorem valOf_lt (ds:Bs) (hd:∀ c∈ds,dig c=true):valOf ds<10 ^ ds.length:=by
 have key:∀ (ds:Bs) (a:Nat),(∀ c∈ds,dig c=true)→ds.foldl (fun n c=>10*n+(c.toNat-48)) a<(a+1)*10 ^ ds.length:=by
  intro ds
  induction ds with
  | nil=>intro a _;simp
  | cons c cs ih =>
    intro a h
    have hc:=h c (by simp)
    simp [dig,UInt8.le_iff_toNat_le] at hc
    have:=ih (10*a+(c.toNat-48)) (fun x hx=>h x (by simp [hx]))
    simp only [List.foldl_cons,List.length_cons,Nat.pow_succ]
    refine Nat.lt_of_lt_of_le this ?_
    rw [show (a+1)*(10 ^ cs.length*10)=(10*(a+1))*10 ^ cs.length from by rw [Nat.mul_comm (10 ^ cs.length) 10,← Nat.mul_assoc,Nat.mul_comm (a+1) 10]]
    exact Nat.mul_le_mul_right _ (by omega)
 simpa [valOf] using key ds 0 hd
abbrev RdS:=List Ty→Bs→Option (Bd×Bs)
def specPart (rd:RdS) (h:List Ty) (l:Bs):Option (Bd×Bs):=do
 let l1←cut [32] l
 rd h l1
def specParts (rd:RdS):List (List Ty)→Bs→Option (List Bd×Bs)
 | [],l=>some ([],l)
 | h::hs,l=>do
   let (b,l1)←specPart rd h l
   let (bs,l2)←specParts rd hs l1
   some (b::bs,l2)
def allHands (hand:List Ty) (t:Ty):List (List Ty):=hands hand t.args++[hand,hand]
def askOf (v n:Nat) (ps:List Bd):Option Bd:=match ps.drop n with
 | [y,no]=>some (.ask v (ps.take n) y no)
 | _=>none
def rdN:Nat→RdS
 | 0,_,_=>none
 | e+1,hand,l=>match l with
   | []=>none
   | c::r=>if c=116∨c=102∨c=117 then some (.leaf c,r) else if c≠40 then none else
     match specNum r with
     | none=>none
     | some (v,k)=>match hand[v]? with
       | none=>none
       | some t=>do
         let (ps,l1)←specParts (rdN e) (allHands hand t) (r.drop k)
         let l2←cut [41] l1
         let b←askOf v t.args.length ps
         some (b,l2)
theorem specParts_snoc (rd:RdS) (hs:List (List Ty)) (h:List Ty):∀ (l:Bs),specParts rd (hs++[h]) l=(do
 let (bs,l1)←specParts rd hs l
 let (b,l2)←specPart rd h l1
 some (bs++[b],l2)):=by
 induction hs with
 | nil =>
   intro l
   simp only [List.nil_append,specParts,Option.bind_eq_bind,Option.bind_some]
   done
 | cons h' hs ih =>
   intro l
   simp only [List.cons_append,specParts,Option.bind_eq_bind]
   cases hp:specPart rd h' l with
   | none=>simp
   | some x =>
     obtain ⟨b,l1⟩:=x
     simp only [Option.bind_some,ih,Option.bind_eq_bind]
     cases hq:specParts rd hs l1 with
     | none=>simp
     | some y =>
       obtain ⟨bs,l2⟩:=y
       simp only [Option.bind_some]
       cases hr:specPart rd h l2 with
       | none=>simp
       | some z=>simp
theorem specParts_append_none (rd:RdS) (hs gs:List (List Ty)):∀ (l:Bs),specParts rd hs l=none→specParts rd (hs++gs) l=none:=by
 induction hs with
 | nil=>intro l h;simp [specParts] at h
 | cons h' hs ih =>
   intro l h
   simp only [List.cons_append,specParts,Option.bind_eq_bind] at *
   cases hp:specPart rd h' l with
   | none=>simp
   | some x =>
     obtain ⟨b,l1⟩:=x
     rw [hp] at h
     simp only [Option.bind_some] at *
     cases hq:specParts rd hs l1 with
     | none=>rw [ih _ hq];simp
     | some y=>rw [hq] at h;simp at h
theorem specParts_take_none {rd:RdS} {hs:List (List Ty)} {l:Bs} (k:Nat) (h:specParts rd (hs.take k) l=none):specParts rd hs l=none:=by
 have:=specParts_append_none rd (hs.take k) (hs.drop k) l h
 rwa [List.take_append_drop] at this
theorem specParts_next {rd:RdS} {hs:List (List Ty)} {l:Bs} {k:Nat} {h:List Ty} {ps:List Bd} {lk:Bs} (hk:hs[k]? = some h) (hp:specParts rd (hs.take k) l=some (ps,lk)) :
 specParts rd (hs.take (k+1)) l=(specPart rd h lk).map fun x=>(ps++[x.1],x.2):=by
 rw [List.take_add_one,hk]
 show specParts rd (hs.take k++[h]) l=_
 rw [specParts_snoc,hp]
 simp only [Option.bind_eq_bind,Option.bind_some]
 cases specPart rd h lk with
 | none=>rfl
 | some x=>rfl
theorem allHands_kid {hand:List Ty} {t a:Ty} {k:Nat} (h:t.args[k]? = some a):(allHands hand t)[k]? = some (hand++a.args):=by
 have hl:k<t.args.length:=(List.getElem?_eq_some_iff.1 h).1
 unfold allHands
 rw [List.getElem?_append_left (by simpa [hands] using hl)]
 simp [hands,h]
theorem allHands_yes {hand:List Ty} {t:Ty} {k:Nat} (h1:t.args.length≤k) (h2:k<t.args.length+2):(allHands hand t)[k]? = some hand:=by
 unfold allHands
 rw [List.getElem?_append_right (by simpa [hands] using h1)]
 simp only [hands,List.length_map]
 rcases (by omega:k-t.args.length=0∨k-t.args.length=1) with h | h <;> simp [h]
theorem allHands_length (hand:List Ty) (t:Ty):(allHands hand t).length=t.args.length+2:=by simp [allHands,hands]
theorem specPart_suffix {rd:RdS} (hrd:∀ {h l b r},rd h l=some (b,r)→r <:+ l) {h:List Ty} {l r:Bs} {b:Bd} (hp:specPart rd h l=some (b,r)):r <:+ l:=by
 unfold specPart at hp
 simp only [Option.bind_eq_bind,Option.bind_eq_some_iff] at hp
 obtain ⟨l1,h1,h2⟩:=hp
 refine (hrd h2).trans ?_
 unfold cut at h1;split at h1
 ·simp at h1;subst h1;first | exact List.tail_suffix _ | exact List.drop_suffix _ _
 ·simp at h1
theorem specParts_suffix {rd:RdS} (hrd:∀ {h l b r},rd h l=some (b,r)→r <:+ l) (hs:List (List Ty)):∀ {l r:Bs} {ps:List Bd},specParts rd hs l=some (ps,r)→r <:+ l:=by
 induction hs with
 | nil=>intro l r ps h;simp [specParts] at h;obtain ⟨rfl,rfl⟩:=h;exact List.suffix_refl _
 | cons h' hs ih =>
   intro l r ps h
   simp only [specParts,Option.bind_eq_bind,Option.bind_eq_some_iff,Prod.exists] at h
   obtain ⟨b,l1,h1,bs,l2,h2,h3⟩:=h
   simp at h3;obtain ⟨rfl,rfl⟩:=h3
   exact (ih h2).trans (specPart_suffix hrd h1)
theorem rdN_suffix (e:Nat):∀ {h:List Ty} {l:Bs} {b:Bd} {r:Bs},rdN e h l=some (b,r)→r <:+ l:=by
 induction e with
 | zero=>intro h l b r hq;simp [rdN] at hq
 | succ e ih =>
   intro h l b r hq
   cases l with
   | nil=>simp [rdN] at hq
   | cons c m =>
     simp only [rdN] at hq
     split at hq
     ·simp at hq;obtain ⟨_,rfl⟩:=hq;exact List.suffix_cons _ _
     ·split at hq
      ·simp at hq
      ·split at hq
       ·simp at hq
       ·split at hq
        ·simp at hq
        ·simp only [Option.bind_eq_bind,Option.bind_eq_some_iff,Prod.exists] at hq
         obtain ⟨ps,l1,h1,l2,h2,b',h3,h4⟩:=hq
         simp at h4;obtain ⟨_,rfl⟩:=h4
         have k1:=specParts_suffix ih _ h1
         have k2:l2 <:+ l1:=by
          unfold cut at h2;split at h2
          ·simp at h2;subst h2;first | exact List.tail_suffix _ | exact List.drop_suffix _ _
          ·simp at h2
         exact ((k2.trans k1).trans (List.drop_suffix _ _)).trans (List.suffix_cons _ _)
end Go.Proofs.YtapjaflnmklmeaaGreatDoor
namespace Go.Proofs.YtapjaflnmklmeaaGreatDoor
open Go.RowKit
theorem cut_one_len {c:UInt8} {l r:Bs} (h:cut [c] l=some r):l=c::r:=by
 unfold cut at h
 split at h
 ·rename_i hp
  cases l with
  | nil=>simp [List.isPrefixOf] at hp
  | cons x xs =>
    simp [List.isPrefixOf] at hp h
    rw [hp,h]
 ·simp at h
theorem askOf_size {v n:Nat} {ps:List Bd} {b:Bd} (h:askOf v n ps=some b):sizeB b=1+sizeBs ps:=by
 unfold askOf at h
 split at h
 ·rename_i y no hd
  simp at h;subst h
  have h1:sizeBs ps=sizeBs (ps.take n)+sizeBs (ps.drop n):=by rw [← sizeBs_append,List.take_append_drop]
  rw [hd] at h1
  simp [sizeB,sizeBs] at h1 ⊢;omega
 ·simp at h
theorem specPart_size {rd:RdS} (hrd:∀ {h l b r},rd h l=some (b,r)→sizeB b+r.length≤l.length) {h:List Ty} {l r:Bs} {b:Bd} (hp:specPart rd h l=some (b,r)):sizeB b+r.length≤l.length:=by
 unfold specPart at hp
 simp only [Option.bind_eq_bind,Option.bind_eq_some_iff] at hp
 obtain ⟨l1,h1,h2⟩:=hp
 have:=hrd h2
 have:=cut_one_len h1
 subst this;simp;omega
theorem specParts_size {rd:RdS} (hrd:∀ {h l b r},rd h l=some (b,r)→sizeB b+r.length≤l.length) (hs:List (List Ty)):∀ {l r:Bs} {ps:List Bd},specParts rd hs l=some (ps,r)→sizeBs ps+r.length≤l.length:=by
 induction hs with
 | nil=>intro l r ps h;simp [specParts] at h;obtain ⟨rfl,rfl⟩:=h;simp [sizeBs]
 | cons h' hs ih =>
   intro l r ps h
   simp only [specParts,Option.bind_eq_bind,Option.bind_eq_some_iff,Prod.exists] at h
   obtain ⟨b,l1,h1,bs,l2,h2,h3⟩:=h
   simp at h3;obtain ⟨rfl,rfl⟩:=h3
   have:=ih h2;have:=specPart_size hrd h1
   simp [sizeBs];omega
theorem rdN_size (e:Nat):∀ {h:List Ty} {l:Bs} {b:Bd} {r:Bs},rdN e h l=some (b,r)→sizeB b+r.length≤l.length:=by
 induction e with
 | zero=>intro h l b r hq;simp [rdN] at hq
 | succ e ih =>
   intro h l b r hq
   cases l with
   | nil=>simp [rdN] at hq
   | cons c m =>
     simp only [rdN] at hq
     split at hq
     ·simp at hq;obtain ⟨rfl,rfl⟩:=hq;simp [sizeB];omega
     ·split at hq
      ·simp at hq
      ·split at hq
       ·simp at hq
       ·split at hq
        ·simp at hq
        ·simp only [Option.bind_eq_bind,Option.bind_eq_some_iff,Prod.exists] at hq
         obtain ⟨ps,l1,h1,l2,h2,b',h3,h4⟩:=hq
         simp at h4;obtain ⟨rfl,rfl⟩:=h4
         have k1:=specParts_size ih _ h1
         have k2:=cut_one_len h2
         have k3:=askOf_size h3
         subst k2
         simp at k1 ⊢;omega
end Go.Proofs.YtapjaflnmklmeaaGreatDoor

/- Plain words: types, and how they are read. -/
import Derived.Test.YtapjaflnmklmeaaGreatDoorBase
namespace Go.Proofs.YtapjaflnmklmeaaGreatDoor
open Go.RowKit
abbrev Bs:=List UInt8
abbrev str (l:Bs):Value:=.string ⟨l.toArray⟩
inductive Ty where
 | mk (args:List Ty)
def Ty.args:Ty→List Ty | .mk a=>a
def cut (p l:Bs):Option Bs:=if p.isPrefixOf l then some (l.drop p.length) else none
def arrowT (a b:Ty):Ty:=.mk (a::b.args)
def rdK:Nat→Bs→Option (Ty×Bs)
 | d,l=>match cut [98] l with
   | some r=>some (.mk [],r)
   | none=>match d with
     | 0=>none
     | d+1=>do
       let r1←cut [40,62,32] l
       let (a,r2)←rdK d r1
       let r3←cut [32] r2
       let (b,r4)←rdK d r3
       let r5←cut [41] r4
       some (arrowT a b,r5)
def Cut (p l r:Bs):Prop:=cut p l=some r
def NoCut (p l:Bs):Prop:=cut p l=none
theorem Cut.out {p l r:Bs} (h:Cut p l r):cut p l=some r:=h
theorem NoCut.out {p l:Bs} (h:NoCut p l):cut p l=none:=h
theorem cut_cases (p l:Bs):NoCut p l∨∃ r,Cut p l r:=by
 cases h:cut p l with
 | none=>exact .inl h
 | some r=>exact .inr ⟨r,h⟩
theorem Cut.le {p l r:Bs} (h:Cut p l r):r.length≤l.length:=by
 unfold Cut cut at h;split at h
 ·simp at h;subst h;simp
 ·simp at h
theorem rdK_b {d:Nat} {l r:Bs} (h:Cut [98] l r):rdK d l=some (.mk [],r):=by
 cases d <;> simp [rdK,h.out]
theorem rdK_zero {l:Bs} (h:NoCut [98] l):rdK 0 l=none:=by simp [rdK,h.out]
theorem rdK_succ {d:Nat} {l:Bs} (h:NoCut [98] l):rdK (d+1) l=(do
        let r1←cut [40,62,32] l
        let (a,r2)←rdK d r1
        let r3←cut [32] r2
        let (b,r4)←rdK d r3
        let r5←cut [41] r4
        some (arrowT a b,r5)):=by rw [rdK,h.out]
theorem rdK_le (d:Nat):∀ {l r:Bs} {t:Ty},rdK d l=some (t,r)→r.length≤l.length∧t.args.length≤l.length:=by
 induction d with
 | zero =>
   intro l r t h
   rcases cut_cases [98] l with hc | ⟨r',hc⟩
   ·rw [rdK_zero hc] at h;simp at h
   ·rw [rdK_b hc] at h;simp at h;obtain ⟨rfl,rfl⟩:=h;exact ⟨hc.le,by simp [Ty.args]⟩
 | succ d ih =>
   intro l r t h
   rcases cut_cases [98] l with hc | ⟨r',hc⟩
   ·rw [rdK_succ hc] at h
    simp only [Option.bind_eq_bind,Option.bind_eq_some_iff,Prod.exists] at h
    obtain ⟨r1,h1,a,r2,h2,r3,h3,b,r4,h4,r5,h5,h6⟩:=h
    simp at h6;obtain ⟨rfl,rfl⟩:=h6
    have k1:=Cut.le h1;have k2:=ih h2;have k3:=Cut.le h3;have k4:=ih h4;have k5:=Cut.le h5
    have k6:r1.length<l.length:=by
     unfold cut at h1;split at h1
     ·rename_i hp
      have:=List.IsPrefix.length_le (List.isPrefixOf_iff_prefix.1 hp)
      simp at h1 this;subst h1;simp;omega
     ·simp at h1
    exact ⟨by omega,by simp [arrowT,Ty.args];simp [Ty.args] at k4;omega⟩
   ·rw [rdK_b hc] at h;simp at h;obtain ⟨rfl,rfl⟩:=h;exact ⟨hc.le,by simp [Ty.args]⟩
mutual
def encK:Ty→DV
 | .mk ts=>.ptr 108 [.sl 43 1 ts.length (encKs ts)]
def encKs:List Ty→List DV
 | []=>[]
 | t::ts=>encK t::encKs ts
end
theorem encKs_at (ts:List Ty):∀ k:Nat,(encKs ts)[k]? = ts[k]?.map encK:=by
 induction ts with
 | nil=>intro k;simp [encKs]
 | cons t ts ih=>intro k;cases k <;> simp [encKs,ih]
mutual
def atomsT:Ty→Nat
 | .mk ts=>1+atomsTs ts
def atomsTs:List Ty→Nat
 | []=>0
 | t::ts=>1+atomsT t+atomsTs ts
end
theorem atomsTs_append (a b:List Ty):atomsTs (a++b)=atomsTs a+atomsTs b:=by
 induction a with
 | nil=>simp [atomsTs]
 | cons t ts ih=>simp [atomsTs,ih];omega
theorem atomsTs_take {ts:List Ty} {k:Nat} {t:Ty} (h:ts[k]? = some t):atomsTs (ts.take (k+1))=atomsTs (ts.take k)+(1+atomsT t):=by
 rw [List.take_add_one,h,atomsTs_append];simp [atomsTs]
theorem atomsTs_take_le (ts:List Ty) (k:Nat):atomsTs (ts.take k)≤atomsTs ts:=by
 have:=atomsTs_append (ts.take k) (ts.drop k);rw [List.take_append_drop] at this;omega
theorem atomsT_mk (t:Ty):atomsT t=1+atomsTs t.args:=by cases t;simp [atomsT,Ty.args]
theorem atomsT_pos (t:Ty):1≤atomsT t:=by rw [atomsT_mk];omega
theorem rdK_atoms (d:Nat):∀ {l r:Bs} {t:Ty},rdK d l=some (t,r)→atomsT t+r.length≤l.length:=by
 have hb:∀ {l r:Bs},Cut [98] l r→atomsT (.mk [])+r.length≤l.length:=by
  intro l r h
  unfold Cut cut at h;split at h
  ·rename_i hp
   have:=List.IsPrefix.length_le (List.isPrefixOf_iff_prefix.1 hp)
   simp at h this;subst h;simp [atomsT,atomsTs];omega
  ·simp at h
 induction d with
 | zero =>
   intro l r t h
   rcases cut_cases [98] l with hc | ⟨r',hc⟩
   ·rw [rdK_zero hc] at h;simp at h
   ·rw [rdK_b hc] at h;simp at h;obtain ⟨rfl,rfl⟩:=h;exact hb hc
 | succ d ih =>
   intro l r t h
   rcases cut_cases [98] l with hc | ⟨r',hc⟩
   ·rw [rdK_succ hc] at h
    simp only [Option.bind_eq_bind,Option.bind_eq_some_iff,Prod.exists] at h
    obtain ⟨r1,h1,a,r2,h2,r3,h3,b,r4,h4,r5,h5,h6⟩:=h
    simp at h6;obtain ⟨rfl,rfl⟩:=h6
    have k2:=ih h2;have k3:=Cut.le h3;have k4:=ih h4;have k5:=Cut.le h5
    have k6:r1.length<l.length:=by
     unfold cut at h1;split at h1
     ·rename_i hp
      have:=List.IsPrefix.length_le (List.isPrefixOf_iff_prefix.1 hp)
      simp at h1 this;subst h1;simp;omega
     ·simp at h1
    have:atomsT (arrowT a b)=1+atomsT a+atomsT b:=by cases b;simp [arrowT,atomsT,atomsTs,Ty.args];omega
    omega
   ·rw [rdK_b hc] at h;simp at h;obtain ⟨rfl,rfl⟩:=h;exact hb hc
def rdS:Nat→Bs→Option (Ty×Bs)
 | 0,_=>none
 | n+1,l=>rdK n l
theorem rdS_b {n:Nat} {l r:Bs} (h:Cut [98] l r):rdS (n+1) l=some (.mk [],r):=rdK_b h
theorem rdS_no {n:Nat} {l:Bs} (h:NoCut [98] l):rdS (n+1) l=(do
        let r1←cut [40,62,32] l
        let (a,r2)←rdS n r1
        let r3←cut [32] r2
        let (b,r4)←rdS n r3
        let r5←cut [41] r4
        some (arrowT a b,r5)):=by
 cases n with
 | zero =>
   show rdK 0 l=_
   rw [rdK_zero h]
   cases cut [40,62,32] l <;> simp [rdS]
 | succ n=>exact rdK_succ h
theorem cut_drop {p l r:Bs} {i:Nat} (h:cut p (l.drop i)=some r):r=l.drop (i+p.length)∧i+p.length≤l.length+(if p.length=0 then i else 0):=by
 unfold cut at h;split at h
 ·rename_i hp
  have hl:=List.IsPrefix.length_le (List.isPrefixOf_iff_prefix.1 hp)
  simp at h hl;subst h
  refine ⟨rfl,?_⟩
  split <;> omega
 ·simp at h
theorem cut_one {c:UInt8} {l:Bs} {i:Nat} (h:i<l.length):cut [c] (l.drop i)=if l[i]=c then some (l.drop (i+1)) else none:=by
 unfold cut
 rw [List.drop_eq_getElem_cons h]
 by_cases hc:l[i]=c
 ·simp [hc,List.isPrefixOf]
 ·have:(c == l[i])=false:=by simpa using fun e=>hc e.symm
  simp [hc,List.isPrefixOf,this]
theorem cut_end {c:UInt8} {p l:Bs} {i:Nat} (h:l.length≤i):cut (c::p) (l.drop i)=none:=by
 rw [List.drop_eq_nil_of_le h];rfl
theorem suffix_drop {l r:Bs} {i:Nat} (h:r <:+ l.drop i):r=l.drop (l.length-r.length):=by
 have h2:r <:+ l:=h.trans (List.drop_suffix i l)
 exact List.suffix_iff_eq_drop.1 h2
theorem rdK_suffix (d:Nat):∀ {l r:Bs} {t:Ty},rdK d l=some (t,r)→r <:+ l:=by
 have hcut:∀ {p l r:Bs},cut p l=some r→r <:+ l:=by
  intro p l r h
  unfold cut at h;split at h
  ·simp at h;subst h;exact List.drop_suffix _ _
  ·simp at h
 induction d with
 | zero =>
   intro l r t h
   rcases cut_cases [98] l with hc | ⟨r',hc⟩
   ·rw [rdK_zero hc] at h;simp at h
   ·rw [rdK_b hc] at h;simp at h;obtain ⟨rfl,rfl⟩:=h;exact hcut hc
 | succ d ih =>
   intro l r t h
   rcases cut_cases [98] l with hc | ⟨r',hc⟩
   ·rw [rdK_succ hc] at h
    simp only [Option.bind_eq_bind,Option.bind_eq_some_iff,Prod.exists] at h
    obtain ⟨r1,h1,a,r2,h2,r3,h3,b,r4,h4,r5,h5,h6⟩:=h
    simp at h6;obtain ⟨rfl,rfl⟩:=h6
    exact (((((hcut h5).trans (ih h4)).trans (hcut h3)).trans (ih h2)).trans (hcut h1))
   ·rw [rdK_b hc] at h;simp at h;obtain ⟨rfl,rfl⟩:=h;exact hcut hc
theorem rdS_suffix {n:Nat} {l r:Bs} {t:Ty} (h:rdS n l=some (t,r)):r <:+ l:=by
 cases n with
 | zero=>simp [rdS] at h
 | succ n=>exact rdK_suffix n h
theorem rdS_le {n:Nat} {l r:Bs} {t:Ty} (h:rdS n l=some (t,r)):r.length≤l.length∧t.args.length≤l.length:=by
 cases n with
 | zero=>simp [rdS] at h
 | succ n=>exact rdK_le n h
theorem rdS_atoms {n:Nat} {l r:Bs} {t:Ty} (h:rdS n l=some (t,r)):atomsT t+r.length≤l.length:=by
 cases n with
 | zero=>simp [rdS] at h
 | succ n=>exact rdK_atoms n h
end Go.Proofs.YtapjaflnmklmeaaGreatDoor

/- Plain words: names, sign by sign; the parts of a term, read one after the other. -/
import Derived.Test.YtapjaflnmklmeaaGreatDoorP28
namespace Go.Proofs.YtapjaflnmklmeaaGreatDoor
open Go.RowKit
theorem name_no1 {s:Bs} (h:3<s.length):nameB s=false:=by
 cases s with
 | nil=>simp at h
 | cons c r=>simp only [List.length_cons] at h;simp only [nameB];rw [decide_eq_false (by omega)];rfl
theorem name_no2 {s:Bs} (h:0<s.length) (hc:s[0].toNat<120∨122<s[0].toNat):nameB s=false:=by
 cases s with
 | nil=>simp at h
 | cons c r =>
   simp only [List.getElem_cons_zero] at hc
   rw [Bool.eq_false_iff]
   intro hn
   simp only [nameB,Bool.and_eq_true,decide_eq_true_eq,UInt8.le_iff_toNat_le] at hn
   have h1:=hn.1.2.1
   have h2:=hn.1.2.2
   have e1:(120:UInt8).toNat=120:=rfl
   have e2:(122:UInt8).toNat=122:=rfl
   omega
theorem name_no3 {s:Bs} {k:Nat} (h1:1≤k) (h:k<s.length) (hc:s[k].toNat<48∨57<s[k].toNat):nameB s=false:=by
 cases s with
 | nil=>simp at h
 | cons c r =>
   obtain ⟨k,rfl⟩:∃ j,k=j+1:=⟨k-1,by omega⟩
   simp only [List.getElem_cons_succ] at hc
   rw [Bool.eq_false_iff]
   intro hn
   simp only [nameB,Bool.and_eq_true,List.all_eq_true] at hn
   have h2:=hn.2 _ (List.getElem_mem (by simpa using h))
   simp only [dig,Bool.and_eq_true,decide_eq_true_eq,UInt8.le_iff_toNat_le] at h2
   have e1:(48:UInt8).toNat=48:=rfl
   have e2:(57:UInt8).toNat=57:=rfl
   omega
theorem name_yes {s:Bs} (h:0<s.length) (h3:s.length≤3) (hc:120≤s[0].toNat∧s[0].toNat≤122) (hd:∀ k,1≤k→∀ (hk:k<s.length),48≤s[k].toNat∧s[k].toNat≤57):nameB s=true:=by
 cases s with
 | nil=>simp at h
 | cons c r =>
   simp only [List.getElem_cons_zero] at hc
   simp only [List.length_cons] at h3
   have e1:(120:UInt8).toNat=120:=rfl
   have e2:(122:UInt8).toNat=122:=rfl
   have e3:(48:UInt8).toNat=48:=rfl
   have e4:(57:UInt8).toNat=57:=rfl
   simp only [nameB,Bool.and_eq_true,decide_eq_true_eq,UInt8.le_iff_toNat_le,List.all_eq_true]
   refine ⟨⟨by omega,by omega,by omega⟩,fun x hx=>?_⟩
   obtain ⟨i,hi,rfl⟩:=List.getElem_of_mem hx
   have:=hd (i+1) (by omega) (by simpa using hi)
   simp only [List.getElem_cons_succ] at this
   simp only [dig,Bool.and_eq_true,decide_eq_true_eq,UInt8.le_iff_toNat_le]
   omega
def rdParTm (d:Nat):Nat→Bs→Option (List Tm×Bs)
 | 0,l=>some ([],l)
 | n+1,l=>(cut [32] l).bind fun l1=>(rdTm d l1).bind fun t=>(rdParTm d n t.2).map fun y=>(t.1::y.1,y.2)
theorem rdParTm_zero (d:Nat) (l:Bs):rdParTm d 0 l=some ([],l):=rfl
theorem rdParTm_succ (d n:Nat) (l:Bs):rdParTm d (n+1) l=(cut [32] l).bind fun l1=>(rdTm d l1).bind fun t=>(rdParTm d n t.2).map fun y=>(t.1::y.1,y.2):=rfl
def manyW (w:Bs):Nat:=if w=lamW then 1 else if w=appW then 2 else if w=ifW then 3 else 0
def mkTm (w x:Bs) (k:Ty):List Tm→Tm
 | [t]=>.lam x k t
 | [m,n]=>.app m n
 | [l,m,n]=>.ite l m n
 | _=>.wd w
theorem rdTm_lam {d:Nat} {l l3 l4 l6:Bs} {k:Ty} (hw:wordOf l=lamW) (h1:cut [32] (wordRest l)=some l3) (hn:nameB (wordOf l3)=true) (h2:cut [32] (wordRest l3)=some l4) (hk:rdK 60 l4=some (k,l6)) :
 rdTm (d+1) (40::l)=(rdParTm d 1 l6).bind fun y=>(cut [41] y.2).map fun r=>(mkTm lamW (wordOf l3) k y.1,r):=by
 rw [rdTm_open,if_pos hw,h1]
 simp only [Option.bind_some]
 rw [if_pos hn,h2]
 simp only [Option.bind_some]
 rw [hk]
 simp only [Option.bind_some,rdParTm]
 cases cut [32] l6 with
 | none=>rfl
 | some l7 =>
   simp only [Option.bind_some]
   cases rdTm d l7 with
   | none=>rfl
   | some t=>rfl
theorem rdTm_app {d:Nat} {l:Bs} (x:Bs) (k:Ty) (hw:wordOf l=appW):rdTm (d+1) (40::l)=(rdParTm d 2 (wordRest l)).bind fun y=>(cut [41] y.2).map fun r=>(mkTm appW x k y.1,r):=by
 rw [rdTm_open,if_neg (by rw [hw];decide),if_pos hw]
 simp only [rdParTm]
 cases cut [32] (wordRest l) with
 | none=>rfl
 | some l3 =>
   simp only [Option.bind_some]
   cases rdTm d l3 with
   | none=>rfl
   | some t =>
     simp only [Option.bind_some]
     cases cut [32] t.2 with
     | none=>rfl
     | some l4 =>
       simp only [Option.bind_some]
       cases rdTm d l4 with
       | none=>rfl
       | some t=>rfl
theorem rdTm_ite {d:Nat} {l:Bs} (x:Bs) (k:Ty) (hw:wordOf l=ifW):rdTm (d+1) (40::l)=(rdParTm d 3 (wordRest l)).bind fun y=>(cut [41] y.2).map fun r=>(mkTm ifW x k y.1,r):=by
 rw [rdTm_open,if_neg (by rw [hw];decide),if_neg (by rw [hw];decide),if_pos hw]
 simp only [rdParTm]
 cases cut [32] (wordRest l) with
 | none=>rfl
 | some l3 =>
   simp only [Option.bind_some]
   cases rdTm d l3 with
   | none=>rfl
   | some t =>
     simp only [Option.bind_some]
     cases cut [32] t.2 with
     | none=>rfl
     | some l4 =>
       simp only [Option.bind_some]
       cases rdTm d l4 with
       | none=>rfl
       | some t2 =>
         simp only [Option.bind_some]
         cases cut [32] t2.2 with
         | none=>rfl
         | some l5 =>
           simp only [Option.bind_some]
           cases rdTm d l5 with
           | none=>rfl
           | some t=>rfl
theorem rdTm_lamNo1 {d:Nat} {l:Bs} (hw:wordOf l=lamW) (h1:cut [32] (wordRest l)=none):rdTm (d+1) (40::l)=none:=by
 rw [rdTm_open,if_pos hw,h1];rfl
theorem rdTm_lamNo2 {d:Nat} {l l3:Bs} (hw:wordOf l=lamW) (h1:cut [32] (wordRest l)=some l3) (hn:nameB (wordOf l3)=false):rdTm (d+1) (40::l)=none:=by
 rw [rdTm_open,if_pos hw,h1]
 simp only [Option.bind_some]
 rw [if_neg (by rw [hn];decide)]
theorem rdTm_lamNo3 {d:Nat} {l l3:Bs} (hw:wordOf l=lamW) (h1:cut [32] (wordRest l)=some l3) (h2:cut [32] (wordRest l3)=none):rdTm (d+1) (40::l)=none:=by
 rw [rdTm_open,if_pos hw,h1]
 simp only [Option.bind_some]
 rw [h2];split <;> rfl
theorem rdTm_lamNo4 {d:Nat} {l l3 l4:Bs} (hw:wordOf l=lamW) (h1:cut [32] (wordRest l)=some l3) (h2:cut [32] (wordRest l3)=some l4) (hk:rdK 60 l4=none):rdTm (d+1) (40::l)=none:=by
 rw [rdTm_open,if_pos hw,h1]
 simp only [Option.bind_some]
 rw [h2]
 simp only [Option.bind_some]
 rw [hk];split <;> rfl
theorem rdTm_none {d:Nat} {l:Bs} (hw:manyW (wordOf l)=0):rdTm d (40::l)=none:=by
 cases d with
 | zero=>exact rdTm_zero
 | succ d =>
   unfold manyW at hw
   rw [rdTm_open]
   split
   ·rename_i h;rw [if_pos h] at hw;simp at hw
   ·rename_i h
    rw [if_neg h] at hw
    split
    ·rename_i h2;rw [if_pos h2] at hw;simp at hw
    ·rename_i h2
     rw [if_neg h2] at hw
     split
     ·rename_i h3;rw [if_pos h3] at hw;simp at hw
     ·rfl
theorem rdParTm_step {d n:Nat} {l0 l l1 r:Bs} {m:Nat} {ts:List Tm} {t:Tm} (h:rdParTm d m l0=(rdParTm d (n+1) l).map fun y=>(ts++y.1,y.2)) (h1:cut [32] l=some l1) (h2:rdTm d l1=some (t,r)) :
 rdParTm d m l0=(rdParTm d n r).map fun y=>((ts++[t])++y.1,y.2):=by
 rw [h,rdParTm_succ,h1]
 simp only [Option.bind_some]
 rw [h2]
 simp only [Option.bind_some,Option.map_map]
 congr 1
 funext y
 simp
theorem rdParTm_no1 {d n:Nat} {l0 l:Bs} {m:Nat} {ts:List Tm} (h:rdParTm d m l0=(rdParTm d (n+1) l).map fun y=>(ts++y.1,y.2)) (h1:cut [32] l=none):rdParTm d m l0=none:=by
 rw [h,rdParTm_succ,h1];rfl
theorem rdParTm_no2 {d n:Nat} {l0 l l1:Bs} {m:Nat} {ts:List Tm} (h:rdParTm d m l0=(rdParTm d (n+1) l).map fun y=>(ts++y.1,y.2)) (h1:cut [32] l=some l1) (h2:rdTm d l1=none):rdParTm d m l0=none:=by
 rw [h,rdParTm_succ,h1]
 simp only [Option.bind_some]
 rw [h2];rfl
theorem rdTm_le:∀ {d:Nat} {l:Bs} {t:Tm} {r:Bs},rdTm d l=some (t,r)→r.length<l.length:=by
 intro d l t r h
 obtain ⟨e,ho,_⟩:=rdTm_canon d l t r h
 rw [e,List.length_append]
 have:0<(textTm t).length:=by
  cases t with
  | nm x =>
    have:textTm (.nm x)=x:=by unfold textTm;rw [trTm,textTr]
    rw [this]
    have:=(name_sep ho).1
    exact List.length_pos_iff.2 this
  | wd x =>
    have:textTm (.wd x)=x:=by unfold textTm;rw [trTm,textTr]
    rw [this]
    have:=(leaf_sep ho).1
    exact List.length_pos_iff.2 this
  | lam x k t=>rw [textTm_lam];simp
  | app m n=>rw [textTm_app];simp
  | ite l m n=>rw [textTm_ite];simp
 omega
end Go.Proofs.YtapjaflnmklmeaaGreatDoor

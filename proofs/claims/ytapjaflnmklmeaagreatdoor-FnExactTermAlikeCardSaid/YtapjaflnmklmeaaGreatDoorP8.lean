import Derived.Test.YtapjaflnmklmeaaGreatDoorS9
import Derived.Lib.AtoiTie
import Derived.Laws.Concat
/- The plain law: both readers of strategies read the same. -/
namespace Go.Proofs.YtapjaflnmklmeaaGreatDoor
open Go.RowKit
theorem dig_iff (c:UInt8):dig c=true↔48≤c.toNat∧c.toNat≤57:=by
 simp [dig,UInt8.le_iff_toNat_le]
def sepStart (l:Bs):Prop:=l=[]∨∃ c r,l=c::r∧sep c=true
theorem dig_sep {c:UInt8} (h:dig c=true):sep c=false:=by
 have:=(dig_iff c).1 h
 rw [Bool.eq_false_iff];intro hs
 simp only [sep,Bool.or_eq_true,beq_iff_eq] at hs
 rcases hs with (rfl | rfl) | rfl
 ·have:(32:UInt8).toNat=32:=rfl;omega
 ·have:(40:UInt8).toNat=40:=rfl;omega
 ·have:(41:UInt8).toNat=41:=rfl;omega
theorem word_cut (l:Bs):l=wordOf l++wordRest l:=(List.takeWhile_append_dropWhile).symm
theorem wordRest_start (l:Bs):sepStart (wordRest l):=by
 unfold wordRest
 induction l with
 | nil=>exact .inl rfl
 | cons c cs ih =>
   rw [List.dropWhile_cons]
   split
   ·exact ih
   ·rename_i h;exact .inr ⟨c,cs,rfl,by simpa using h⟩
theorem word_of {w rest:Bs} (hw:∀ c∈w,sep c=false) (hr:sepStart rest):wordOf (w++rest)=w∧wordRest (w++rest)=rest:=by
 unfold wordOf wordRest
 induction w with
 | nil =>
   rcases hr with rfl | ⟨c,r,rfl,hc⟩
   ·exact ⟨rfl,rfl⟩
   ·simp [hc]
 | cons x xs ih =>
   have hx:=hw x (by simp)
   have:=ih fun c hc=>hw c (by simp [hc])
   simp [hx,this.1,this.2]
theorem cut_is {c:UInt8} {r:Bs}:cut [c] (c::r)=some r:=by simp [cut,List.isPrefixOf]
end Go.Proofs.YtapjaflnmklmeaaGreatDoor
namespace Go.Proofs.YtapjaflnmklmeaaGreatDoor
open Go.RowKit
mutual
def fitB:List Ty→Bd→Prop
 | _,.leaf _=>True
 | hand,.ask v ss y n=>∃ t,hand[v]? = some t∧fitBs (hands hand t.args) ss∧fitB hand y∧fitB hand n
def fitBs:List (List Ty)→List Bd→Prop
 | hs,[]=>hs=[]
 | hs,b::bs=>∃ h hs',hs=h::hs'∧fitB h b∧fitBs hs' bs
end
mutual
def belowB:Bd→Bd→Bool
 | .leaf c,.leaf d=>c == 117 || c == d
 | .leaf c,.ask _ _ _ _=>c == 117
 | .ask _ _ _ _,.leaf _=>false
 | .ask v ss y n,.ask v' ss' y' n'=>v == v' && (belowBs ss ss' && (belowB y y' && belowB n n'))
def belowBs:List Bd→List Bd→Bool
 | a::xs,b::bs=>belowB a b && belowBs xs bs
 | [],_=>true
 | _::_,[]=>false
end
theorem hands_length (levels ts:List Ty):(hands levels ts).length=ts.length:=by simp [hands]
theorem fitBs_append:∀ (xs:List Bd) (bs:List Bd) (hs ks:List (List Ty)),fitBs hs xs→fitBs ks bs→fitBs (hs++ks) (xs++bs)
 | [],bs,hs,ks,h1,h2=>by rw [fitBs] at h1;subst h1;simpa using h2
 | a::xs,bs,hs,ks,h1,h2=>by
   rw [fitBs] at h1
   obtain ⟨h,hs',rfl,e1,e2⟩:=h1
   exact ⟨h,hs'++ks,rfl,e1,fitBs_append xs bs hs' ks e2 h2⟩
theorem fitBs_length:∀ (xs:List Bd) (hs:List (List Ty)),fitBs hs xs→hs.length=xs.length
 | [],hs,h=>by rw [fitBs] at h;simp [h]
 | a::xs,hs,h=>by
   rw [fitBs] at h
   obtain ⟨h',hs',rfl,e1,e2⟩:=h
   simp [fitBs_length xs hs' e2]
theorem fitBs_at:∀ (xs:List Bd) (hs:List (List Ty)),fitBs hs xs→∀ (k:Nat) (a:Bd),xs[k]? = some a→∃ h,hs[k]? = some h∧fitB h a
 | [],hs,h,k,a,ha=>by simp at ha
 | a::xs,hs,h,k,a',ha=>by
   rw [fitBs] at h
   obtain ⟨h',hs',rfl,e1,e2⟩:=h
   cases k with
   | zero=>simp at ha;subst ha;exact ⟨h',rfl,e1⟩
   | succ k=>simp at ha;simpa using fitBs_at xs hs' e2 k a' ha
theorem fitBs_pair (h k:List Ty) (y n:Bd):fitBs [h,k] [y,n]↔fitB h y∧fitB k n:=by
 constructor
 ·intro hf
  rw [fitBs] at hf
  obtain ⟨a,as',e,h1,h2⟩:=hf
  simp only [List.cons.injEq] at e
  obtain ⟨rfl,rfl⟩:=e
  rw [fitBs] at h2
  obtain ⟨a,as',e,h3,h4⟩:=h2
  simp only [List.cons.injEq] at e
  obtain ⟨rfl,rfl⟩:=e
  exact ⟨h1,h3⟩
 ·rintro ⟨h1,h2⟩
  exact ⟨h,[k],rfl,h1,k,[],rfl,h2,by rw [fitBs]⟩
theorem fit_parts {hand:List Ty} {v:Nat} {ss:List Bd} {y n:Bd} (h:fitB hand (.ask v ss y n)):∃ t,hand[v]? = some t∧fitBs (allHands hand t) (partsOf (.ask v ss y n))∧ss.length=t.args.length:=by
 rw [fitB] at h
 obtain ⟨t,h1,h2,h3,h4⟩:=h
 refine ⟨t,h1,fitBs_append _ _ _ _ h2 ((fitBs_pair _ _ _ _).2 ⟨h3,h4⟩),?_⟩
 have:=fitBs_length _ _ h2
 rw [hands_length] at this;exact this.symm
theorem belowBs_true:∀ (xs bs:List Bd),xs.length=bs.length→(belowBs xs bs=true↔∀ (k:Nat) (a b:Bd),xs[k]? = some a→bs[k]? = some b→belowB a b=true)
 | [],[],_=>by simp [belowBs]
 | a::xs,b::bs,h=>by
   simp only [belowBs,Bool.and_eq_true]
   rw [belowBs_true xs bs (by simpa using h)]
   constructor
   ·rintro ⟨h1,h2⟩ k a' b' ha hb
    cases k with
    | zero=>simp at ha hb;subst ha;subst hb;exact h1
    | succ k=>simp at ha hb;exact h2 k a' b' ha hb
   ·intro h
    exact ⟨h 0 a b rfl rfl,fun k a' b' ha hb=>h (k+1) a' b' (by simpa using ha) (by simpa using hb)⟩
def BelowTo (xs bs:List Bd) (k:Nat):Prop:=∀ (j:Nat) (a b:Bd),j<k→xs[j]? = some a→bs[j]? = some b→belowB a b=true
theorem BelowTo.zero (xs bs:List Bd):BelowTo xs bs 0:=fun j a b h=>by omega
theorem BelowTo.next {xs bs:List Bd} {k:Nat} (h:BelowTo xs bs k) {a b:Bd} (ha:xs[k]? = some a) (hb:bs[k]? = some b) (hab:belowB a b=true):BelowTo xs bs (k+1):=by
 intro j a' b' hj h1 h2
 rcases Nat.lt_or_ge j k with h' | h'
 ·exact h j a' b' h' h1 h2
 ·obtain rfl:j=k:=by omega
  rw [ha] at h1;rw [hb] at h2;simp at h1 h2;subst h1;subst h2;exact hab
theorem BelowTo.all {xs bs:List Bd} (hl:xs.length=bs.length) (h:BelowTo xs bs xs.length):belowBs xs bs=true :=
 (belowBs_true xs bs hl).2 fun k a b ha hb=>h k a b (List.getElem?_eq_some_iff.1 ha).1 ha hb
def lvOf:Bd→Nat
 | .leaf _=>0
 | .ask v _ _ _=>v
theorem encN_lv {F:Nat→Prop} {w:World} {b:Bd} {s v k y:Value} (h:Reps F w (encN b) [s,v,k,y]):v=.int .i64 (lvOf b:Nat):=by
 cases b with
 | leaf c =>
   rw [encN] at h
   obtain ⟨_,_,e,h0,h⟩:=Reps_cons.1 h
   simp only [List.cons.injEq] at e;obtain ⟨rfl,rfl⟩:=e
   obtain ⟨_,_,e,h1,h⟩:=Reps_cons.1 h
   simp only [List.cons.injEq] at e;obtain ⟨rfl,rfl⟩:=e
   exact Rep_val.1 h1
 | ask lv ss yb nb =>
   rw [encN] at h
   obtain ⟨_,_,e,h0,h⟩:=Reps_cons.1 h
   simp only [List.cons.injEq] at e;obtain ⟨rfl,rfl⟩:=e
   obtain ⟨_,_,e,h1,h⟩:=Reps_cons.1 h
   simp only [List.cons.injEq] at e;obtain ⟨rfl,rfl⟩:=e
   exact Rep_val.1 h1
end Go.Proofs.YtapjaflnmklmeaaGreatDoor
namespace Go.Proofs.YtapjaflnmklmeaaGreatDoor
open Go.RowKit
theorem tmod_nat (a b:Nat):((a:Int).tmod (b:Int))=((a % b:Nat):Int):=rfl
theorem tdiv_nat (a b:Nat):((a:Int).tdiv (b:Int))=((a / b:Nat):Int):=rfl
theorem wrap_nat (n:Nat) (h:n<9223372036854775808):IntKind.i64.wrap (n:Int)=(n:Int):=by
 simp [IntKind.wrap,IntKind.bits,IntKind.signed];omega
def digit (r:Nat):UInt8:=UInt8.ofNat (48+r)
def dec (n:Nat):Bs:=if n<10 then [digit n] else dec (n / 10)++[digit (n % 10)]
theorem dec_small {n:Nat} (h:n<10):dec n=[digit n]:=by rw [dec,if_pos h]
theorem dec_great {n:Nat} (h:¬ n<10):dec n=dec (n / 10)++[digit (n % 10)]:=by rw [dec,if_neg h]
theorem dec_length (k:Nat):∀ n,n<10 ^ (k+1)→(dec n).length≤k+1:=by
 induction k with
 | zero=>intro n h;rw [dec_small (by simpa using h)];simp
 | succ k ih =>
   intro n h
   by_cases h10:n<10
   ·rw [dec_small h10];simp
   ·rw [dec_great h10]
    have:=ih (n / 10) (by rw [Nat.div_lt_iff_lt_mul (by omega),← Nat.pow_succ];exact h)
    simp;omega
theorem str_add (a b:Bs):(⟨a.toArray⟩:ByteArray)++(⟨b.toArray⟩:ByteArray)=⟨(a++b).toArray⟩:=by
 have h:((⟨a.toArray⟩:ByteArray)++(⟨b.toArray⟩:ByteArray)).data=(a++b).toArray:=by
  rw [ByteArray.data_append];simp
 cases hx:(⟨a.toArray⟩:ByteArray)++(⟨b.toArray⟩:ByteArray) with
 | mk d=>rw [hx] at h;simp at h;rw [h]
theorem add_str {P:Program} (a b:Bs) (h:a.length+b.length≤9223372036854775807) (w:World):(Op.stringOp .add ⟨a.toArray⟩ ⟨b.toArray⟩).run P w=.ok (str (a++b)) w:=by
 rw [run_string_add_sum w _ _ (by rw [size_str,size_str];exact h),str_add]
mutual
def textB:Bd→Bs
 | .leaf c=>[c]
 | .ask v ss y n=>(((([40]++dec v++textBs ss++[32])++textB y)++[32])++textB n)++[41]
def textBs:List Bd→Bs
 | []=>[]
 | b::bs=>[32]++textB b++textBs bs
end
mutual
def lvB:Bd→Prop
 | .leaf _=>True
 | .ask v ss y n=>v≤10000∧lvBs ss∧lvB y∧lvB n
def lvBs:List Bd→Prop
 | []=>True
 | b::bs=>lvB b∧lvBs bs
end
theorem textBs_append:∀ (xs ys:List Bd),textBs (xs++ys)=textBs xs++textBs ys
 | [],ys=>by simp [textBs]
 | x::xs,ys=>by simp [textBs,textBs_append xs ys]
theorem textBs_take {ts:List Bd} {k:Nat} {t:Bd} (h:ts[k]? = some t):textBs (ts.take (k+1))=textBs (ts.take k)++[32]++textB t:=by
 rw [List.take_add_one,h,textBs_append];simp [textBs]
theorem lvBs_at:∀ (xs:List Bd),lvBs xs→∀ (k:Nat) (t:Bd),xs[k]? = some t→lvB t
 | [],_,k,t,h=>by simp at h
 | x::xs,hl,k,t,h=>by
   rw [lvBs] at hl
   cases k with
   | zero=>simp at h;subst h;exact hl.1
   | succ k=>simp at h;exact lvBs_at xs hl.2 k t h
mutual
theorem textB_length:∀ (b:Bd),lvB b→(textB b).length+1≤12*sizeB b
 | .leaf c,_=>by simp [textB,sizeB]
 | .ask v ss y n,h=>by
   rw [lvB] at h
   have h1:=textBs_length ss h.2.1
   have h2:=textB_length y h.2.2.1
   have h3:=textB_length n h.2.2.2
   have h4:(dec v).length≤5:=dec_length 4 v (by have:=h.1;omega)
   simp only [textB,sizeB,List.length_append,List.length_cons,List.length_nil]
   omega
theorem textBs_length:∀ (bs:List Bd),lvBs bs→(textBs bs).length≤12*sizeBs bs
 | [],_=>by simp [textBs]
 | b::bs,h=>by
   rw [lvBs] at h
   have h1:=textB_length b h.1
   have h2:=textBs_length bs h.2
   simp only [textBs,sizeBs,List.length_append,List.length_cons,List.length_nil]
   omega
end
theorem textBs_take_len (xs:List Bd) (k:Nat):(textBs (xs.take k)).length≤(textBs xs).length:=by
 have:=congrArg List.length (textBs_append (xs.take k) (xs.drop k))
 rw [List.take_append_drop,List.length_append] at this
 omega
end Go.Proofs.YtapjaflnmklmeaaGreatDoor
namespace Go.Proofs.YtapjaflnmklmeaaGreatDoor
open Go.RowKit
mutual
def textT:Ty→Bs
 | .mk ts=>textTs ts
def textTs:List Ty→Bs
 | []=>[98]
 | a::ts=>[40,62,32]++(textT a++([32]++(textTs ts++[41])))
end
theorem textT_nil:textT (.mk [])=[98]:=by rw [textT,textTs]
theorem textT_cons (a:Ty) (ts:List Ty):textT (.mk (a::ts))=[40,62,32]++(textT a++([32]++(textT (.mk ts)++[41]))):=by
 rw [textT,textTs,textT]
theorem atomsT_cons (a:Ty) (ts:List Ty):atomsT (.mk (a::ts))=1+atomsT a+atomsT (.mk ts):=by
 simp only [atomsT,atomsTs];omega
theorem cut_app (p r:Bs):cut p (p++r)=some r:=by
 unfold cut
 have h:p.isPrefixOf (p++r)=true:=List.isPrefixOf_iff_prefix.2 (List.prefix_append _ _)
 rw [if_pos h];simp
theorem noCut_b (r:Bs):NoCut [98] ([40,62,32]++r):=by
 show cut [98] ([40,62,32]++r)=none
 rfl
theorem rdK_text (d:Nat):∀ (t:Ty) (r:Bs),atomsT t≤2*d+1→rdK d (textT t++r)=some (t,r):=by
 have hb:∀ (d:Nat) (r:Bs),rdK d (textT (.mk [])++r)=some (.mk [],r):=fun d r=>by
  rw [textT_nil];exact rdK_b (cut_app [98] r)
 induction d with
 | zero =>
   intro t r h
   obtain ⟨ts⟩:=t
   cases ts with
   | nil=>exact hb 0 r
   | cons a ts=>rw [atomsT_cons] at h;have:=atomsT_pos a;have:=atomsT_pos (.mk ts);omega
 | succ d ih =>
   intro t r h
   obtain ⟨ts⟩:=t
   cases ts with
   | nil=>exact hb _ r
   | cons a ts =>
     rw [atomsT_cons] at h
     have h1:=atomsT_pos a;have h2:=atomsT_pos (.mk ts)
     rw [textT_cons]
     have e:([40,62,32]++(textT a++([32]++(textT (.mk ts)++[41]))))++r=[40,62,32]++(textT a++([32]++(textT (.mk ts)++([41]++r)))):=by simp
     rw [e,rdK_succ (noCut_b _)]
     simp only [cut_app,Option.bind_eq_bind,Option.bind_some,ih a _ (by omega:atomsT a≤2*d+1),ih (.mk ts) _ (by omega:atomsT (.mk ts)≤2*d+1)]
     rfl
theorem textT_length:∀ (n:Nat) (t:Ty),atomsT t≤n→(textT t).length+2=3*atomsT t:=by
 intro n
 induction n with
 | zero=>intro t h;have:=atomsT_pos t;omega
 | succ n ih =>
   intro t h
   obtain ⟨ts⟩:=t
   cases ts with
   | nil=>rw [textT_nil];simp [atomsT,atomsTs]
   | cons a ts =>
     rw [atomsT_cons] at h ⊢
     have h1:=atomsT_pos a;have h2:=atomsT_pos (.mk ts)
     have k1:=ih a (by omega)
     have k2:=ih (.mk ts) (by omega)
     rw [textT_cons]
     simp only [List.length_append,List.length_cons,List.length_nil]
     omega
theorem specType_text {t:Ty} (h:atomsT t≤15):specType (textT t)=(t,true):=by
 have hl:=textT_length 15 t h
 unfold specType
 rw [if_neg (by omega)]
 have:=rdK_text 20 t [] (by omega)
 rw [List.append_nil] at this
 have h2:rdS 21 (textT t)=some (t,[]):=this
 rw [h2]
 simp [h]
inductive Clo where
 | mk (b:Bd) (env:List Clo) (begun:Nat) (path:Bs)
def Clo.body:Clo→Bd | .mk b _ _ _=>b
def Clo.env:Clo→List Clo | .mk _ e _ _=>e
def Clo.begun:Clo→Nat | .mk _ _ n _=>n
def Clo.path:Clo→Bs | .mk _ _ _ p=>p
end Go.Proofs.YtapjaflnmklmeaaGreatDoor

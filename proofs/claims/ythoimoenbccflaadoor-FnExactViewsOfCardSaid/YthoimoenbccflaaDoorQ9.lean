/- Walks of functions that the statement reaches, and plain words. No conditions. -/
import Derived.Test.YthoimoenbccflaaDoorQ3
import Derived.Test.YthoimoenbccflaaDoorQ8
set_option linter.unusedVariables false
set_option linter.unusedSimpArgs false
set_option maxHeartbeats 2000000
namespace Go.Proofs.YthoimoenbccflaaDoor
open Go.RowKit
def markT (k:Nat):Bs:=109::dec k
def marksS (k n:Nat):List Value:=(List.range n).map fun i=>str (markT (k+i))
def marksI (k n:Nat):List Value:=(List.range n).map fun i:Nat=>Value.int .i64 ((k:Int)+(i:Int))
theorem marksS_length (k n:Nat):(marksS k n).length=n:=by simp [marksS]
theorem marksI_length (k n:Nat):(marksI k n).length=n:=by simp [marksI]
theorem marksS_succ (k n:Nat):marksS k (n+1)=marksS k n++[str (markT (k+n))]:=by simp [marksS,List.range_succ]
theorem marksI_succ (k n:Nat):marksI k (n+1)=marksI k n++[.int .i64 ((k:Int)+(n:Int))]:=by simp only [marksI,List.range_succ,List.map_append,List.map_cons,List.map_nil]
theorem marksS_at {k n j:Nat} (h:j<n):(marksS k n)[j]? = some (str (markT (k+j))):=by simp [marksS,h]
theorem marksI_at {k n j:Nat} (h:j<n):(marksI k n)[j]? = some (.int .i64 ((k:Int)+(j:Int))):=by simp [marksI,h]
def DecTo (k j:Nat) (O:Bs):Prop:=dec k=(if j=0 then [] else dec j)++O/\j<=k
theorem DecTo.next {k j:Nat} {O:Bs} (h:DecTo k j O) (hj:0<j):DecTo k (j / 10) ([digit (j % 10)]++O):=by
 obtain ⟨h1,h2⟩:=h
 refine ⟨?_,Nat.le_trans (Nat.div_le_self _ _) h2⟩
 rw [if_neg (by omega)] at h1
 rw [h1]
 by_cases h10:j<10
 ·rw [dec_small h10,Nat.div_eq_of_lt h10,Nat.mod_eq_of_lt h10];simp
 ·rw [dec_great h10,if_neg (by omega),List.append_assoc]
theorem DecTo.len {k j:Nat} {O:Bs} (h:DecTo k j O) (hk:k<=100000000):O.length<=9:=by
 have:=dec_length 8 k (by omega)
 rw [h.1,List.length_append] at this
 omega
theorem DecTo.done {k:Nat} {O:Bs} (h:DecTo k 0 O):dec k=O:=by have:=h.1;simpa using this
set_option maxRecDepth 100000 in
theorem markText_any (k:Nat) (h1:1<=k) (hk:k<=100000000) (w:World):Calls Tryd.prog 36 #[.int .i64 (k:Nat)] w fun en w'=>en=.returned (str (markT k))/\Below w.heap.size w w':=by
 have h1':¬ (k:Int)<=0:=by omega
 have D0:=Lib.hid (show DecTo k k [] from ⟨by rw [if_neg (by omega),List.append_nil],Nat.le_refl _⟩)
 go_enter Tryd.func36,Tryd.ntmps36
 go_wp2_with fail
 go_loopw [0,3] (fun kk o wr=>∃ (j:Nat) (O:Bs),j<=k/\kk=.int .i64 j/\o=str O/\Hid (DecTo k j O)/\Below w.heap.size w wr) (fun kk _ _=>(intOf kk).toNat)
 case atStart=>exact ⟨k,[],Nat.le_refl _,rfl,rfl,D0,Below.refl _ _⟩
 case round =>
  obtain ⟨j,O,hjk,rfl,rfl,hd,hb⟩:=hrel
  have hO:=hd.out.len hk
  have HB:=Lib.hid hb;clear hb D0
  by_cases hj:0<j
  ·have hj':(0:Int)<(j:Int):=by omega
   have hd2:=Lib.hid (hd.out.next hj)
   have q1:(j:Int).tdiv 10=((j / 10:Nat):Int):=tdiv_nat j 10
   have q2:(j:Int).tmod 10=((j % 10:Nat):Int):=tmod_nat j 10
   have q1':(j:Int) / 10=((j / 10:Nat):Int):=by omega
   have q2':(j:Int) % 10=((j % 10:Nat):Int):=by omega
   have hR:j % 10<10:=Nat.mod_lt _ (by omega)
   have hQ:j / 10<j:=Nat.div_lt_self hj (by omega)
   generalize j % 10=R at *
   generalize j / 10=Q at *
   have q3:IntKind.i64.wrap (Q:Int)=(Q:Int):=wrap_nat Q (by omega)
   have q4:IntKind.i64.wrap (48+(R:Int))=48+(R:Int):=by rw [show (48:Int)+R=((48+R:Nat):Int) from by omega];exact wrap_nat _ (by omega)
   have q5:IntKind.u8.wrap (48+(R:Int))=48+(R:Int):=by simp [IntKind.wrap,IntKind.bits,IntKind.signed];omega
   obtain ⟨O2,h2⟩:∃ x,x=[digit R]++O:=⟨_,rfl⟩
   have hadd:=fun w0=>add_str (P:=Tryd.prog) [digit R] O (by simp;omega) w0
   rw [<- h2] at hadd hd2
   clear h2
   have hcv:=conv_new hR wr
   have hz:=HB.out.size
   go_wp2_with fail
   go_roundw
   case rel=>exact ⟨Q,O2,by omega,rfl,rfl,hd2,HB.out.alloc hz _⟩
   case measure=>simp [intOf];omega
  ·have hj':¬ (0:Int)<(j:Int):=by omega
   have hdone:dec k=O:=by
    have h0:=hd.out
    obtain rfl:j=0:=by omega
    exact h0.done
   have HD:=Lib.hid hdone;clear hdone
   obtain ⟨O2,h2⟩:∃ x,x=[109]++O:=⟨_,rfl⟩
   have hadd:=fun w0=>add_str (P:=Tryd.prog) [109] O (by simp;omega) w0
   rw [<- h2] at hadd
   have H2:Hid (markT k=O2):=by show _=_;rw [h2,markT,HD.out];rfl
   clear h2
   go_wp2_with fail
   go_ret
   exact ⟨by rw [H2.out];rfl,HB.out⟩
theorem markText_sum (k j:Nat) (h1:1<=k+j) (hk:k+j<=100000000) (w:World):Calls Tryd.prog 36 #[.int .i64 ((k:Int)+(j:Int))] w fun en w'=>en=.returned (str (markT (k+j)))/\Below w.heap.size w w':=by
 have h:=markText_any (k+j) h1 hk w
 rwa [Int.natCast_add] at h
theorem Own.open1 {w:World} {e:TypeId} {a:Option Addr} {n c:Nat} {xs:List Value} (h:Own w e 1 (.slice a n c) n xs) {j:Nat} (hj:j<n) :
 ∃ g,a=some ⟨g,0,none⟩/\g<w.heap.size/\(Value.slice a n c).ownBlock=some g/\(∃ u,xs[j]? = some u/\w.cell? ⟨g,j,none⟩=some u)/\w.frozen? ⟨g,j,none⟩=false:=by
 obtain ⟨hl,⟨_,h0⟩ | ⟨g,cap,cur,hv,_,hg,hnc,_,hcs,htk⟩⟩:=h
 ·omega
 ·simp only [Value.slice.injEq] at hv
  obtain ⟨rfl,_,rfl⟩:=hv
  have hjc:j<cur.size:=by omega
  refine ⟨g,rfl,lt_of_heap hg,rfl,⟨cur[j],?_,?_⟩,?_⟩
  ·rw [<- htk,List.getElem?_take,if_pos (by omega)];simp [hjc]
  ·simp [World.cell?,hg,hjc]
  ·simp [World.frozen?,hg]
theorem Own.put1 {w:World} {e:TypeId} {g n c:Nat} {xs:List Value} (h:Own w e 1 (.slice (some ⟨g,0,none⟩) n c) n xs) (j:Nat) (u:Value):Own (w.setCell ⟨g,j,none⟩ u) e 1 (.slice (some ⟨g,0,none⟩) n c) n (xs.set j u):=by
 obtain ⟨hl,⟨h0,_⟩ | ⟨g',cap,cur,hv,h0,hg,hnc,hcm,hcs,htk⟩⟩:=h
 ·cases h0
 ·simp only [Value.slice.injEq,Option.some.injEq,Addr.mk.injEq] at hv
  obtain ⟨⟨rfl,_,_⟩,_,rfl⟩:=hv
  refine ⟨by simpa using hl,.inr ⟨g,c,cur.setIfInBounds j u,rfl,h0,setCell_at hg,hnc,hcm,by simpa using hcs,?_⟩⟩
  rw [Array.toList_setIfInBounds,<- htk,List.take_set]
theorem Own.strs {w:World} {e:TypeId} {a:Option Addr} {n c:Nat} {xs:List Bs} (h:Own w e 1 (.slice a n c) n (xs.map str)):StrsAt w a xs:=by
 intro k s hs
 have hk:k<n:=by
  have:=h.1
  have h2:=(List.getElem?_eq_some_iff.1 hs).1
  simp at this;omega
 obtain ⟨g,rfl,_,_,⟨u,hu,hc⟩,_⟩:=h.open1 hk
 rw [List.getElem?_map,hs] at hu
 simp at hu
 exact ⟨g,0,rfl,by rw [Nat.zero_add,hu];exact hc⟩
theorem set_mark (A B:List Value) (u:Value):(A++B).set A.length u=if B=[] then A else A++u::B.drop 1:=by
 cases B with
 | nil=>simp [List.set_eq_of_length_le]
 | cons b B=>simp
theorem marked {A xs:List Value} {j:Nat} (hA:A.length=j) (hj:j<xs.length) (u:Value):(A++xs.drop j).set j u=(A++[u])++xs.drop (j+1):=by
 subst hA
 rw [set_mark,if_neg (by rw [List.drop_eq_nil_iff];omega)]
 simp [List.drop_drop,Nat.add_comm]
set_option maxRecDepth 100000 in
theorem markStringS_any (k n:Nat) (a:Option Addr) (c:Nat) (xs:List Value) (w:World) (h:Own w 9 1 (.slice a n c) n xs) (h1:1<=k) (hk:k+n<=100000000) :
 Calls Tryd.prog 16 #[.slice a n c,.int .i64 (k:Nat)] w fun en w'=>en=.returned (.int .i64 ((k:Int)+(n:Int)))/\But (fun b=>(Value.slice a n c).ownBlock=some b) w w'/\Own w' 9 1 (.slice a n c) n (marksS k n):=by
 have hl:=h.1
 rw [Nat.mul_one] at hl
 have HX:=Lib.hid hl;clear hl
 have H:=Lib.hid h;clear h
 go_enter Tryd.func16,Tryd.ntmps16
 go_wp2_with fail
 go_loopw [1,5] (fun kk i wr=>∃ j:Nat,j<=n/\i=.int .i64 j/\kk=.int .i64 ((k:Int)+(j:Int))/\But (fun b=>(Value.slice a n c).ownBlock=some b) w wr/\Own wr 9 1 (.slice a n c) n (marksS k j++xs.drop j)) (fun _ i _=>n-(intOf i).toNat)
 case atStart=>exact ⟨0,Nat.zero_le _,rfl,by simp,But.refl _ _,by simpa [marksS] using H.out⟩
 case round =>
  obtain ⟨j,hj,rfl,rfl,hb,ho⟩:=hrel
  by_cases hlt:j<n
  ·have hlt':(j:Int)<(n:Int):=by omega
   have HB:=Lib.hid hb;have HO:=Lib.hid ho
   clear hb ho
   go_wp2_with fail
   (with_reducible refine (markText_sum k j (by omega) (by omega) _).mono ?_)
   rintro en w1 ⟨rfl,hb1⟩
   have ho1:Own w1 9 1 (.slice a n c) n (marksS k j++xs.drop j):=HO.out.keep fun g o hg hh=>by rw [hb1.block g (lt_of_heap hh)];exact hh
   obtain ⟨g,e,hg,hgb,⟨u,_,hu⟩,hf⟩:=ho1.open1 hlt
   subst e
   have hbF:But (fun b=>(Value.slice (some ⟨g,0,none⟩) n c).ownBlock=some b) w (w1.setCell ⟨g,j,none⟩ (str (markT (k+j)))) :=
    (HB.out.trans (But.ofBelow hb1)).setCell (p:=⟨g,j,none⟩) (.inl hgb) _
   have hoF:=ho1.put1 j (str (markT (k+j)))
   rw [marked (marksS_length k j) (by rw [HX.out];exact hlt),<- marksS_succ] at hoF
   generalize markT (k+j)=M at *
   have HF:=Lib.hid (And.intro hbF hoF)
   clear hbF hoF ho1 hb1 hgb
   go_wp2_with fail
   go_roundw
   case rel=>exact ⟨j+1,by omega,by go_num,by go_num,HF.out.1,HF.out.2⟩
   case measure=>simp [intOf];omega
  ·obtain rfl:j=n:=by omega
   have HB:=Lib.hid hb;have HO:=Lib.hid ho
   clear hb ho
   go_wp2_with fail
   go_ret
   have h0:=HO.out
   rw [List.drop_eq_nil_iff.2 (by rw [HX.out];exact Nat.le_refl _),List.append_nil] at h0
   exact ⟨rfl,HB.out,h0⟩
set_option maxRecDepth 100000 in
theorem markIntS_any (k n:Nat) (a:Option Addr) (c:Nat) (xs:List Value) (w:World) (h:Own w 3 1 (.slice a n c) n xs) (hk:k+n<=100000000) :
 Calls Tryd.prog 17 #[.slice a n c,.int .i64 (k:Nat)] w fun en w'=>en=.returned (.int .i64 ((k:Int)+(n:Int)))/\But (fun b=>(Value.slice a n c).ownBlock=some b) w w'/\Own w' 3 1 (.slice a n c) n (marksI k n):=by
 have hl:=h.1
 rw [Nat.mul_one] at hl
 have HX:=Lib.hid hl;clear hl
 have H:=Lib.hid h;clear h
 go_enter Tryd.func17,Tryd.ntmps17
 go_wp2_with fail
 go_loopw [1,5] (fun kk i wr=>∃ j:Nat,j<=n/\i=.int .i64 j/\kk=.int .i64 ((k:Int)+(j:Int))/\But (fun b=>(Value.slice a n c).ownBlock=some b) w wr/\Own wr 3 1 (.slice a n c) n (marksI k j++xs.drop j)) (fun _ i _=>n-(intOf i).toNat)
 case atStart=>exact ⟨0,Nat.zero_le _,rfl,by simp,But.refl _ _,by simpa [marksI] using H.out⟩
 case round =>
  obtain ⟨j,hj,rfl,rfl,hb,ho⟩:=hrel
  by_cases hlt:j<n
  ·have hlt':(j:Int)<(n:Int):=by omega
   have HB:=Lib.hid hb
   obtain ⟨g,e,hg,hgb,⟨u,_,hu⟩,hf⟩:=ho.open1 hlt
   subst e
   have hbF:But (fun b=>(Value.slice (some ⟨g,0,none⟩) n c).ownBlock=some b) w (wr.setCell ⟨g,j,none⟩ (.int .i64 ((k:Int)+(j:Int)))) :=
    hb.setCell (p:=⟨g,j,none⟩) (.inl hgb) _
   have hoF:=ho.put1 j (.int .i64 ((k:Int)+(j:Int)))
   rw [marked (marksI_length k j) (by rw [HX.out];exact hlt),<- marksI_succ] at hoF
   have HF:=Lib.hid (And.intro hbF hoF)
   clear hbF hoF ho hb hgb
   go_wp2_with fail
   go_roundw
   case rel=>exact ⟨j+1,by omega,by go_num,by go_num,HF.out.1,HF.out.2⟩
   case measure=>simp [intOf];omega
  ·obtain rfl:j=n:=by omega
   have HB:=Lib.hid hb;have HO:=Lib.hid ho
   clear hb ho
   go_wp2_with fail
   go_ret
   have h0:=HO.out
   rw [List.drop_eq_nil_iff.2 (by rw [HX.out];exact Nat.le_refl _),List.append_nil] at h0
   exact ⟨rfl,HB.out,h0⟩
set_option maxRecDepth 100000 in
theorem heldStringS_any (k n:Nat) (a:Option Addr) (c:Nat) (w:World) (h:Own w 9 1 (.slice a n c) n (marksS k n)) (h1:1<=k) (hk:k+n<=100000000) :
 Calls Tryd.prog 18 #[.slice a n c,.int .i64 (k:Nat)] w fun en w'=>en=.returned (.int .i64 ((k:Int)+(n:Int)))/\Below w.heap.size w w':=by
 have H:=Lib.hid h;clear h
 go_enter Tryd.func18,Tryd.ntmps18
 go_wp2_with fail
 go_loopw [1,5] (fun kk i wr=>∃ j:Nat,j<=n/\i=.int .i64 j/\kk=.int .i64 ((k:Int)+(j:Int))/\Below w.heap.size w wr) (fun _ i _=>n-(intOf i).toNat)
 case atStart=>exact ⟨0,Nat.zero_le _,rfl,by simp,Below.refl _ _⟩
 case round =>
  obtain ⟨j,hj,rfl,rfl,hb⟩:=hrel
  by_cases hlt:j<n
  ·have hlt':(j:Int)<(n:Int):=by omega
   have ho:Own wr 9 1 (.slice a n c) n (marksS k n):=H.out.keep fun g o hg hh=>by rw [hb.block g (lt_of_heap hh)];exact hh
   obtain ⟨g,e,hg,hgb,⟨u,hu1,hu⟩,hf⟩:=ho.open1 hlt
   subst e
   rw [marksS_at hlt] at hu1
   obtain rfl:=Option.some.inj hu1
   have C:=Lib.hid (fun w0=>markText_sum k j (by omega) (by omega) w0)
   generalize markT (k+j)=M at *
   have hne:(M == M)=true:=by simp
   have hne':(M != M)=false:=by simp
   have HB:=Lib.hid hb
   clear hb ho hu1 hgb hf
   go_wp2_with fail
   go_region_held3 (fun w'=>w'.cell? ⟨g,j,none⟩=some (str M))
    (first
     | exact hu
     | exact (hb1.cell hg).trans hu
     | go_keep)
    (first
     | (go_at_call 36;(with_reducible refine (C.out _).mono ?_);rintro en w1 ⟨rfl,hb1⟩))
   have hb2:Below w.heap.size w w1:=(HB.out.drew).trans (hb1.mono HB.out.size)
   have HB2:=Lib.hid hb2
   clear hb2 hb1 hu
   go_wp2_with fail
   go_roundw
   case rel=>exact ⟨j+1,by omega,by go_num,by go_num,HB2.out⟩
   case measure=>simp [intOf];omega
  ·obtain rfl:j=n:=by omega
   go_wp2_with fail
   go_ret
   exact ⟨rfl,hb⟩
set_option maxRecDepth 100000 in
theorem heldIntS_any (k n:Nat) (a:Option Addr) (c:Nat) (w:World) (h:Own w 3 1 (.slice a n c) n (marksI k n)) (hk:k+n<=100000000) :
 Calls Tryd.prog 19 #[.slice a n c,.int .i64 (k:Nat)] w fun en w'=>en=.returned (.int .i64 ((k:Int)+(n:Int)))/\Below w.heap.size w w':=by
 have H:=Lib.hid h;clear h
 go_enter Tryd.func19,Tryd.ntmps19
 go_wp2_with fail
 go_loopw [1,5] (fun kk i wr=>∃ j:Nat,j<=n/\i=.int .i64 j/\kk=.int .i64 ((k:Int)+(j:Int))/\Below w.heap.size w wr) (fun _ i _=>n-(intOf i).toNat)
 case atStart=>exact ⟨0,Nat.zero_le _,rfl,by simp,Below.refl _ _⟩
 case round =>
  obtain ⟨j,hj,rfl,rfl,hb⟩:=hrel
  by_cases hlt:j<n
  ·have hlt':(j:Int)<(n:Int):=by omega
   have ho:Own wr 3 1 (.slice a n c) n (marksI k n):=H.out.keep fun g o hg hh=>by rw [hb.block g (lt_of_heap hh)];exact hh
   obtain ⟨g,e,hg,hgb,⟨u,hu1,hu⟩,hf⟩:=ho.open1 hlt
   subst e
   rw [marksI_at hlt] at hu1
   obtain rfl:=Option.some.inj hu1
   have hne:((k:Int)+(j:Int) == (k:Int)+(j:Int))=true:=by simp
   have hne':((k:Int)+(j:Int) != (k:Int)+(j:Int))=false:=by simp
   have HB:=Lib.hid hb
   clear hb ho hu1 hgb hf
   go_wp2_with fail
   go_roundw
   case rel=>exact ⟨j+1,by omega,by go_num,by go_num,HB.out⟩
   case measure=>simp [intOf];omega
  ·obtain rfl:j=n:=by omega
   go_wp2_with fail
   go_ret
   exact ⟨rfl,hb⟩
theorem eqIntS_any (a a':Option Addr) (n c c':Nat) (xs:List Int) (w:World) (h:Own w 3 1 (.slice a n c) n (xs.map (Value.int .i64))) (h':Own w 3 1 (.slice a' n c') n (xs.map (Value.int .i64))) (hn:n<=16777216) :
 Calls Tryd.prog 35 #[.slice a n c,.slice a' n c'] w fun en w'=>en=.returned (.bool true)/\Below w.heap.size w w':=by
 have H:=Lib.hid h;have H':=Lib.hid h';clear h h'
 go_enter Tryd.func35,Tryd.ntmps35
 go_wp2_with fail
 go_loopw [5] (fun i wr=>∃ k:Nat,k<=n/\i=.int .i64 k/\Below w.heap.size w wr) (fun i _=>n-(intOf i).toNat)
 case atStart=>exact ⟨0,Nat.zero_le _,rfl,Below.refl _ _⟩
 case round =>
  obtain ⟨k,hk,rfl,hb⟩:=hrel
  by_cases hlt:k<n
  ·have ho:Own wr 3 1 (.slice a n c) n (xs.map (Value.int .i64)):=H.out.keep fun g o hg hh=>by rw [hb.block g (lt_of_heap hh)];exact hh
   have ho':Own wr 3 1 (.slice a' n c') n (xs.map (Value.int .i64)):=H'.out.keep fun g o hg hh=>by rw [hb.block g (lt_of_heap hh)];exact hh
   obtain ⟨g,e,hg,_,⟨u,hu1,hu⟩,_⟩:=ho.open1 hlt
   obtain ⟨g',e',hg',_,⟨u',hu1',hu'⟩,_⟩:=ho'.open1 hlt
   subst e;subst e'
   rw [hu1] at hu1'
   obtain rfl:=Option.some.inj hu1'
   rw [List.getElem?_map,Option.map_eq_some_iff] at hu1
   obtain ⟨x,_,rfl⟩:=hu1
   have hlt':(k:Int)<(n:Int):=by omega
   have hne:(x == x)=true:=by simp
   have hne':(x != x)=false:=by simp
   have HB:=Lib.hid hb;clear hb ho ho' hu1'
   go_wp2_with fail
   go_quiet (fail)
   go_wp2_with fail
   go_roundw
   case rel=>exact ⟨k+1,by omega,by go_num,below_dN HB.out _⟩
   case measure=>simp [intOf];omega
  ·obtain rfl:k=n:=by omega
   go_wp2_with fail
   go_ret
   exact ⟨rfl,hb⟩

def PlayAt (w:World) (log:List (Bs×Int)) (mv pt:Value):Prop:=Own w 9 1 mv log.length (logM log)/\Own w 3 1 pt log.length (logP log)
theorem PlayAt.below {w w':World} {log:List (Bs×Int)} {mv pt:Value} (h:PlayAt w log mv pt) (hb:Below w.heap.size w w'):PlayAt w' log mv pt :=
 ⟨h.1.keep fun g o hg ho=>by rw [hb.block g (lt_of_heap ho)];exact ho,h.2.keep fun g o hg ho=>by rw [hb.block g (lt_of_heap ho)];exact ho⟩
theorem PlayAt.but {w w':World} {log:List (Bs×Int)} {mv pt:Value} {m:Nat->Prop} (h:PlayAt w log mv pt) (hb:But m w w') (hm:∀ g,mv.ownBlock=some g\/pt.ownBlock=some g->¬ m g):PlayAt w' log mv pt :=
 ⟨h.1.keep fun g o hg ho=>by rw [hb.block g (lt_of_heap ho) (hm g (.inl hg))];exact ho,h.2.keep fun g o hg ho=>by rw [hb.block g (lt_of_heap ho) (hm g (.inr hg))];exact ho⟩
theorem Own.unlike {w:World} {e e':TypeId} {v v':Value} {n n':Nat} {xs ys:List Value} (h:Own w e 1 v n xs) (h':Own w e' 1 v' n' ys) (he:e≠e') {g:Nat} (hg:v.ownBlock=some g):v'.ownBlock≠some g:=by
 intro hg'
 rcases h.2 with ⟨rfl,_⟩ | ⟨b,cap,cur,rfl,_,hb,_⟩
 ·simp [Value.ownBlock] at hg
 ·rcases h'.2 with ⟨rfl,_⟩ | ⟨b',cap',cur',rfl,_,hb',_⟩
  ·simp [Value.ownBlock] at hg'
  ·simp [Value.ownBlock] at hg hg'
   subst hg;subst hg'
   rw [hb] at hb'
   simp at hb'
   exact he hb'.2
theorem eqPlay_any (log:List (Bs×Int)) (mv pt mv' pt':Value) (w:World) (h:PlayAt w log mv pt) (h':PlayAt w log mv' pt') (hl:log.length<=100000) :
 Calls Tryd.prog 15 #[.agg #[mv,pt],.agg #[mv',pt']] w fun en w'=>en=.returned (.bool true)/\Below w.heap.size w w':=by
 obtain ⟨a1,c1,rfl⟩:=h.1.slice
 obtain ⟨a2,c2,rfl⟩:=h.2.slice
 obtain ⟨a1',c1',rfl⟩:=h'.1.slice
 obtain ⟨a2',c2',rfl⟩:=h'.2.slice
 have H:=Lib.hid (And.intro h h');clear h h'
 have C1:Hid (∀ w0,Below w.heap.size w w0->Calls Tryd.prog 34 #[.slice a1 log.length c1,.slice a1' log.length c1'] w0 fun en w'=>en=.returned (.bool true)/\Below w0.heap.size w0 w'):=by
  show ∀ w0,_->_
  intro w0 hb
  have k1:=(H.out.1.below hb).1
  have k2:=(H.out.2.below hb).1
  have e:logM log=(log.map (·.1)).map str:=by simp [logM]
  rw [e] at k1 k2
  have:=eqStringS_any a1 a1' c1 c1' (log.map (·.1)) w0 k1.strs k2.strs (by simp;omega)
  rwa [List.length_map] at this
 have C2:Hid (∀ w0,Below w.heap.size w w0->Calls Tryd.prog 35 #[.slice a2 log.length c2,.slice a2' log.length c2'] w0 fun en w'=>en=.returned (.bool true)/\Below w0.heap.size w0 w'):=by
  show ∀ w0,_->_
  intro w0 hb
  have k1:=(H.out.1.below hb).2
  have k2:=(H.out.2.below hb).2
  have e:logP log=(log.map (·.2)).map (Value.int .i64):=by simp [logP]
  rw [e] at k1 k2
  exact eqIntS_any a2 a2' log.length c2 c2' (log.map (·.2)) w0 k1 k2 (by omega)
 clear H
 go_enter Tryd.func15,Tryd.ntmps15
 go_wp2_with fail
 have hb0:Below w.heap.size w ((w.alloc (.cells #[.slice a1 log.length c1,.slice a2 log.length c2] 39)).alloc (.cells #[.slice a1' log.length c1',.slice a2' log.length c2'] 39)):=((Below.refl _ _).alloc (Nat.le_refl _) _).alloc (by rw [size_alloc];omega) _
 (with_reducible refine (C1.out _ hb0).mono ?_)
 rintro en w1 ⟨rfl,hb1⟩
 have hbb:=hb0.trans (hb1.mono hb0.size)
 have d1:w1.cell? ⟨w.heap.size,1,none⟩=some (.slice a2 log.length c2):=by rw [hb1.cell (by simp;omega)];simp
 have d2:w1.cell? ⟨w.heap.size+1,1,none⟩=some (.slice a2' log.length c2'):=by rw [hb1.cell (by simp)];simp
 have HB:=Lib.hid hbb;clear hbb hb1 hb0
 go_wp2_with fail
 (with_reducible refine (C2.out _ HB.out).mono ?_)
 rintro en w2 ⟨rfl,hb2⟩
 have HB2:=Lib.hid (HB.out.trans (hb2.mono HB.out.size));clear hb2
 go_wp2_with fail
 go_ret
 exact ⟨rfl,HB2.out⟩
def MarkAt (w:World) (n k:Nat) (mv pt:Value):Prop:=Own w 9 1 mv n (marksS k n)/\Own w 3 1 pt n (marksI (k+n) n)
theorem MarkAt.below {w w':World} {n k:Nat} {mv pt:Value} (h:MarkAt w n k mv pt) (hb:Below w.heap.size w w'):MarkAt w' n k mv pt :=
 ⟨h.1.keep fun g o hg ho=>by rw [hb.block g (lt_of_heap ho)];exact ho,h.2.keep fun g o hg ho=>by rw [hb.block g (lt_of_heap ho)];exact ho⟩
end Go.Proofs.YthoimoenbccflaaDoor

/- Appending, of whatever is appended, onto a slice that the call owns; and where the new row lies. No program is named. -/
import Derived.Test.YtapjaflnmklmeaaGreatDoorBase
namespace Go.Proofs.YtapjaflnmklmeaaGreatDoor
open Go.RowKit
def SrcSl (size:Nat) (x:Value) (m:Nat) (news:List Value) (w:World):Prop :=
 news.length=m*size∧(∀ u∈news,u.oneCell'=true) ∧
 ((∃ a c,x=.slice (some a) m c∧∀ (j:Nat) u,news[j]? = some u→w.cell? (a.add j)=some u)∨(x=.slice none 0 0∧m=0))
def Own (w:World) (e:TypeId) (size:Nat) (v:Value) (n:Nat) (xs:List Value):Prop:=w.ownsRow 0 e size v n xs
theorem run_append_gen {P:Program} {w:World} (t ty e:TypeId) (i:TypeInfo) (z:Value) (size bytes:Nat) (ht:P.underlying t=some (.slice e)) (hi:P.info? e=some i) (hz:i.zero=some z)
 (hsize:i.size=size) (hby:i.bytes=bytes) (hzs:z.cells.size=size) (hsz:0<size)
 (v:Value) (n:Nat) (xs:List Value) (hown:Own w e size v n xs)
 (x:Value) (m:Nat) (news:List Value) (hs:SrcSl size x m news w) (h63:n+m≤maxLen) (hbytes:(n+m)*bytes≤140737488355328) :
 ∃ v' w',(Builtin.append_ #[t,t] ty #[v,x]).run P w=.ok v' w'∧Own w' e size v' (n+m) (xs++news)∧w.grownBy w' v.ownBlock ∧
   (v'.ownBlock=v.ownBlock∨v'.ownBlock=some w.heap.size):=by
 unfold Own at *
 obtain ⟨hl,h1,⟨a,c,rfl,hnews⟩ | ⟨rfl,rfl⟩⟩:=hs
 ·subst hsize
  subst hby
  have hsmall:n+m≤9223372036854775807:=by simp only [maxLen] at h63;omega
  have hlen:(xs++news).length=(n+m)*i.size:=by rw [List.length_append,hown.1,hl,Nat.add_mul]
  have grown:∀ (old:Nat),old<n+m→∀ (row:Option Nat),
   (w.drew.alloc (.cells (xs.toArray++news.toArray++Builtin.zeroCells z.cells (grownCap w (n+m) old e-(n+m))) e)).ownsRow 0 e i.size
    (.slice (some ⟨w.heap.size,0,none⟩) (n+m) (grownCap w (n+m) old e)) (n+m) (xs++news) ∧
   w.grownBy (w.drew.alloc (.cells (xs.toArray++news.toArray++Builtin.zeroCells z.cells (grownCap w (n+m) old e-(n+m))) e)) row:=by
   intro old ho row
   have hge:=grownCap_ge w (n+m) old e
   have hcm:grownCap w (n+m) old e≤maxLen:=grownCap_le_maxLen w (n+m) old e h63
   refine ⟨⟨hlen,.inr ⟨w.heap.size,_,_,rfl,Nat.zero_le _,Go.heap_alloc_new w.drew _,hge,hcm,?_,?_⟩⟩,⟨rfl,rfl,rfl,by simp,fun k hk _=>Below.heap_alloc w.drew _ k hk⟩⟩
   ·simp only [Array.size_append,List.size_toArray,size_zeroCells,hzs,hown.1,hl,← Nat.add_mul]
    congr 1
    omega
   ·simp only [Array.toList_append,List.append_assoc]
    rw [← List.append_assoc,← hlen]
    exact List.take_left
  rcases hown.2 with ⟨rfl,rfl⟩ | ⟨g,cap,cur,rfl,hbg,hg,hnc,hcm,hcs,htake⟩
  ·have hx:xs=[]:=List.eq_nil_of_length_eq_zero (by simpa using hown.1)
   subst hx
   by_cases hm:m=0
   ·subst hm
    have hn:news=[]:=List.eq_nil_of_length_eq_zero (by simpa using hl)
    subst hn
    refine ⟨.slice none 0 0,w,?_,World.ownsRow_nil w 0 e i.size,⟨rfl,rfl,rfl,Nat.le_refl _,fun _ _ _=>rfl⟩,.inl rfl⟩
    simp [Builtin.append_,run_underlying ht,sizeOf,typeInfo,hi,Builtin.lenOf,Builtin.firstCells,loadCells,loadCellsFrom]
   ·have hr:=run_append_nil (P:=P) w t ty e i z ht hi hz a m c news hl hnews (by omega) (by omega) (by have hb:=hbytes;simp only [Nat.zero_add] at hb;omega)
    have hgr:=grown 0 (by omega) (Value.ownBlock (.slice none 0 0))
    simp only [Nat.zero_add,List.nil_append,Array.empty_append] at hgr ⊢
    exact ⟨_,_,hr,hgr.1,hgr.2,.inr rfl⟩
  ·by_cases hroom:n+m≤cap
   ·have hfit:n*i.size+news.length≤cur.size:=by rw [hl,hcs,← Nat.add_mul];exact Nat.mul_le_mul_right _ hroom
    have hr:=run_append_room (P:=P) w t ty e i ht hi g n cap cur hg a m c news hl hnews h1 hroom hfit
    refine ⟨_,_,hr,⟨hlen,.inr ⟨g,cap,_,rfl,hbg,setRow_heap w g cur _ e _ hg,hroom,hcm,?_,?_⟩⟩,⟨rfl,rfl,rfl,by simp,fun k _ hk=>setRow_other w g k _ (fun e=>hk (by simp [Value.ownBlock,e]))⟩,.inl rfl⟩
    ·simp only [List.size_toArray,List.length_append,List.length_take,List.length_drop,Array.length_toList]
     omega
    ·rw [htake,← hlen]
     exact List.take_left
   ·have holds:∀ (j:Nat) u,xs[j]? = some u→w.cell? ((⟨g,0,none⟩:Addr).add j)=some u:=World.ownsRow.cells hown (g:=g) rfl
    have hr:=run_append_grow (P:=P) w t ty e i z ht hi hz ⟨g,0,none⟩ n cap xs hown.1 holds a m c news hl hnews (by omega) (by omega) (growslice_fits (by omega) hbytes)
    have hgr:=grown cap (by omega) (Value.ownBlock (.slice (some ⟨g,0,none⟩) n cap))
    exact ⟨_,_,hr,hgr.1,hgr.2,.inr rfl⟩
 ·have hn:news=[]:=List.eq_nil_of_length_eq_zero (by simpa using hl)
  subst hn
  refine ⟨v,w,run_append_owned_none (P:=P) (w:=w) 0 t ty e i size ht hi v n xs hown,by simpa using hown,⟨rfl,rfl,rfl,Nat.le_refl _,fun _ _ _=>rfl⟩,.inl rfl⟩
theorem But.ofGrown {w w':World} {row:Option Nat} (h:w.grownBy w' row):But (fun b=>some b=row) w w' :=
 ⟨h.os,h.tape,h.output,h.size,fun k hk hn=>h.block k hk hn⟩
theorem Own.slice {w:World} {e:TypeId} {size n:Nat} {v:Value} {xs:List Value} (h:Own w e size v n xs):∃ a c,v=.slice a n c:=by
 rcases h.2 with ⟨rfl,rfl⟩ | ⟨g,cap,cur,rfl,_⟩
 ·exact ⟨_,_,rfl⟩
 ·exact ⟨_,_,rfl⟩
theorem wpList_append_gen {P:Program} {w:World} {ops:Array Oper} {rest:List Oper} {o:Oper} {a:Act} {Q:Exit→Act→World→Prop} (hgd:o.guard=none) (s x:Operand) (t:TypeId)
 (ho:o.op=.call { callee:=.builtin .append,args:=#[s,x],argTypes:=#[t,t] })
 (e:TypeId) (z:Value) (size bytes:Nat) (ht:P.underlying t=some (.slice e)) (hi:(P.info? e).map (fun i=>(i.zero,i.size,i.bytes))=some (some z,size,bytes))
 (hzs:z.cells.size=size) (hsz:0<size)
 (v:Value) (n:Nat) (xs:List Value) (hs:a.eval s=v) (hown:Own w e size v n xs)
 (y:Value) (m:Nat) (news:List Value) (hx:a.eval x=y) (hsrc:SrcSl size y m news w)
 (h63:n+m≤maxLen) (hbytes:(n+m)*bytes≤140737488355328)
 (h:∀ a' c' w',Own w' e size (.slice a' (n+m) c') (n+m) (xs++news)→But (fun b=>v.ownBlock=some b) w w'→(∀ g,(Value.slice a' (n+m) c').ownBlock=some g→v.ownBlock=some g∨g=w.heap.size) →
  wpList P ops Q rest (a.put o.dst (.slice a' (n+m) c')) w'):wpList P ops Q (o::rest) a w:=by
 refine wpList_plain hgd fun K hK=>?_
 obtain ⟨i,hi,hz,hsize,hby⟩:=info_parts hi
 obtain ⟨v',w',hr,h2,h3,h4⟩:=run_append_gen (P:=P) (w:=w) t o.type e i z size bytes ht hi hz hsize hby hzs hsz v n xs hown y m news hsrc h63 hbytes
 obtain ⟨a',c',rfl⟩:=h2.slice
 unfold Oper.wp execOp
 simp only [ho,resolve,invoke,builtin,Sem.run_bind,Sem.run_pure,Result.andThen_ok,List.map_toArray,List.map_cons,List.map_nil,hs,hx,hr]
 refine hK _ _ (h a' c' w' h2 ((But.ofGrown h3).weak fun i _ hi=>hi.symm) ?_)
 intro g hg
 rcases h4 with h4 | h4
 ·exact .inl (by rw [← h4];exact hg)
 ·rw [hg] at h4;exact .inr (Option.some.inj h4)
theorem step_append_gen {P:Program} {w:World} {ops:Array Oper} {o:Oper} {a:Act} {K:Act→World→Prop} {Q:Exit→Act→World→Prop} {E:Prop} (hgd:o.guard=none) (s x:Operand) (t:TypeId)
 (ho:o.op=.call { callee:=.builtin .append,args:=#[s,x],argTypes:=#[t,t] })
 (e:TypeId) (z:Value) (size bytes:Nat) (ht:P.underlying t=some (.slice e)) (hi:(P.info? e).map (fun i=>(i.zero,i.size,i.bytes))=some (some z,size,bytes))
 (hzs:z.cells.size=size) (hsz:0<size)
 (v:Value) (n:Nat) (xs:List Value) (hs:a.eval s=v) (hown:Own w e size v n xs)
 (y:Value) (m:Nat) (news:List Value) (hx:a.eval x=y) (hsrc:SrcSl size y m news w)
 (h63:n+m≤maxLen) (hbytes:(n+m)*bytes≤140737488355328)
 (h:∀ a' c' w',Own w' e size (.slice a' (n+m) c') (n+m) (xs++news)→But (fun b=>v.ownBlock=some b) w w'→(∀ g,(Value.slice a' (n+m) c').ownBlock=some g→v.ownBlock=some g∨g=w.heap.size) →
  K (a.put o.dst (.slice a' (n+m) c')) w'):if Region.wanted o (yielded ops a.tmps)=true then Oper.wp P o a w K Q else E:=by
 rw [if_pos (by simp [Region.wanted,hgd])]
 obtain ⟨i,hi,hz,hsize,hby⟩:=info_parts hi
 obtain ⟨v',w',hr,h2,h3,h4⟩:=run_append_gen (P:=P) (w:=w) t o.type e i z size bytes ht hi hz hsize hby hzs hsz v n xs hown y m news hsrc h63 hbytes
 obtain ⟨a',c',rfl⟩:=h2.slice
 unfold Oper.wp execOp
 simp only [ho,resolve,invoke,builtin,Sem.run_bind,Sem.run_pure,Result.andThen_ok,List.map_toArray,List.map_cons,List.map_nil,hs,hx,hr]
 refine h a' c' w' h2 ((But.ofGrown h3).weak fun i _ hi=>hi.symm) ?_
 intro g hg
 rcases h4 with h4 | h4
 ·exact .inl (by rw [← h4];exact hg)
 ·rw [hg] at h4;exact .inr (Option.some.inj h4)
theorem SrcSl.keep {w w':World} {size:Nat} {x:Value} {m:Nat} {news:List Value} (h:SrcSl size x m news w) (hk:∀ a v,w.cell? a=some v→w'.cell? a=some v):SrcSl size x m news w':=by
 obtain ⟨h1,h2,⟨a,c,rfl,h3⟩ | h3⟩:=h
 ·exact ⟨h1,h2,.inl ⟨a,c,rfl,fun j u hu=>hk _ _ (h3 j u hu)⟩⟩
 ·exact ⟨h1,h2,.inr h3⟩
theorem cell_alloc {w:World} {o:Obj} {a:Addr} {v:Value} (h:w.cell? a=some v):(w.alloc o).cell? a=some v:=by
 rw [World.cell?_alloc_lt w o a (World.block_lt_of_cell? w a h)];exact h
theorem Own.lit {w:World} {e:TypeId} {size:Nat} (cs:Array Value) (n:Nat) (hm:n≤maxLen) (hs:cs.size=n*size):Own (w.alloc (.cells cs e)) e size (.slice (some ⟨w.heap.size,0,none⟩) n n) n cs.toList :=
 World.ownsRow_lit w cs n (Nat.zero_le _) hm hs
theorem SrcSl.lits {w:World} {e:TypeId} (cs:Array Value) (n:Nat) (hn:cs.size=n) (hc:∀ u∈cs.toList,u.oneCell'=true) (g:Nat) (hg:g=w.heap.size):SrcSl 1 (.slice (some ⟨g,0,none⟩) n n) n cs.toList (w.alloc (.cells cs e)):=by
 subst hg
 refine ⟨by simp [hn],hc,.inl ⟨_,_,rfl,fun j u hu=>?_⟩⟩
 unfold Addr.add
 split
 ·subst j;simp;simpa using hu
 ·simp;simpa using hu
theorem Own.litAt {w:World} {e:TypeId} {size:Nat} (cs:Array Value) (n g:Nat) (hg:g=w.heap.size) (hm:n≤maxLen) (hs:cs.size=n*size):Own (w.alloc (.cells cs e)) e size (.slice (some ⟨g,0,none⟩) n n) n cs.toList:=by
 subst hg;exact Own.lit cs n hm hs
theorem Own.keep {w w':World} {e:TypeId} {sz n:Nat} {xs:List Value} {v:Value} (h:Own w e sz v n xs) (hk:∀ g o,v.ownBlock=some g→w.heap[g]? = some o→w'.heap[g]? = some o):Own w' e sz v n xs:=by
 refine ⟨h.1,?_⟩
 rcases h.2 with h | ⟨g,cap,cur,rfl,h0,hg,h⟩
 ·exact .inl h
 ·exact .inr ⟨g,cap,cur,rfl,h0,hk g _ rfl hg,h⟩
theorem heap_new (w:World) (o:Obj):(w.alloc o).heap[w.heap.size]? = some o:=heap_alloc_new w o
theorem heap_past {w:World} {o:Obj} {b:Nat} {x:Obj} (h:w.heap[b]? = some x):(w.alloc o).heap[b]? = some x:=by
 rw [Below.heap_alloc _ _ _ (lt_of_heap h)];exact h
theorem sz_le {w:World} {o:Obj} {b:Nat} (h:(w.alloc o).heap.size≤b):w.heap.size+1≤b:=by simpa using h
theorem size_alloc (w:World) (o:Obj):(w.alloc o).heap.size=w.heap.size+1:=by simp
theorem fresh_append {w W wx:World} {v v':Value} (hb:Below w.heap.size w W) (hf:∀ g,v.ownBlock=some g→w.heap.size≤g) (hx:But (fun b=>v.ownBlock=some b) W wx) (hg:∀ g,v'.ownBlock=some g→v.ownBlock=some g∨g=W.heap.size) :
 Below w.heap.size w wx∧(∀ g,v'.ownBlock=some g→w.heap.size≤g):=by
 refine ⟨hb.trans (hx.toBelow hb.size fun i hi e=>by have:=hf i e;omega),fun g h=>?_⟩
 rcases hg g h with h | h
 ·exact hf g h
 ·have:=hb.size;omega
theorem own_some {g n c:Nat} {B:Nat} (h:B≤g):∀ k,(Value.slice (some ⟨g,0,none⟩) n c).ownBlock=some k→B≤k:=by
 intro k e;simp [Value.ownBlock] at e;omega
theorem Own.drew {w:World} {e:TypeId} {sz n:Nat} {xs:List Value} {v:Value} (h:Own w e sz v n xs):Own w.drew e sz v n xs:=h.keep (w':=w.drew) fun _ _ _ ho=>ho
theorem SrcSl.drew {w:World} {size:Nat} {x:Value} {m:Nat} {news:List Value} (h:SrcSl size x m news w):SrcSl size x m news w.drew:=h.keep (w':=w.drew) fun _ _ h=>h
theorem SrcSl.alloc {w:World} {size:Nat} {x:Value} {m:Nat} {news:List Value} (h:SrcSl size x m news w) (o:Obj):SrcSl size x m news (w.alloc o):=h.keep (w':=w.alloc o) fun _ _ h=>cell_alloc h
theorem Own.alloc {w:World} {e:TypeId} {sz n:Nat} {xs:List Value} {v:Value} (h:Own w e sz v n xs) (o:Obj):Own (w.alloc o) e sz v n xs:=h.keep (w':=w.alloc o) fun _ _ _ ho=>heap_past ho
theorem SrcSl.belowAll {w w':World} {B:Nat} {size:Nat} {x:Value} {m:Nat} {news:List Value} (h:SrcSl size x m news w) (hb:Below B w w') (hB:w.heap.size≤B):SrcSl size x m news w' :=
 h.keep fun a v hv=>by rw [hb.cell (Nat.lt_of_lt_of_le (World.block_lt_of_cell? w a hv) hB)];exact hv
theorem SrcSl.lit {w:World} {e:TypeId} {v:Value} (hv:v.oneCell'=true):SrcSl 1 (.slice (some ⟨w.heap.size,0,none⟩) 1 1) 1 [v] (w.alloc (.cells #[v] e)) :=
 ⟨by simp,by simpa using hv,.inl ⟨_,_,rfl,fun j u hu=>by
  cases j with
  | zero=>simp at hu;subst hu;simp [Addr.add]
  | succ j=>simp at hu⟩⟩
theorem SrcSl.ofRep {F:Nat→Prop} {w:World} {e:TypeId} {sz n:Nat} {cs:List DV} {v:Value} (h:Rep F w (.sl e sz n cs) v) (hone:∀ us,Reps F w cs us→∀ u∈us,u.oneCell'=true) :
 ∃ news,Reps F w cs news∧SrcSl sz v n news w:=by
 rw [Rep_sl] at h
 obtain ⟨hl,a,cap,rfl,hn,hz,h⟩:=h
 rcases h with rfl | ⟨b,o,c,fr,rfl,hb,hc,hr⟩
 ·have:cs=[]:=List.eq_nil_of_length_eq_zero (by simpa using hl)
  subst this
  refine ⟨[],Reps_nil.2 rfl,?_⟩
  cases a with
  | none=>obtain rfl:=hz rfl;exact ⟨by simp,by simp,.inr ⟨rfl,rfl⟩⟩
  | some a=>exact ⟨by simp,by simp,.inl ⟨a,cap,rfl,by simp⟩⟩
 ·refine ⟨_,hr,⟨by rw [← hr.length,hl],hone _ hr,.inl ⟨_,cap,rfl,fun j u hu=>?_⟩⟩⟩
  have hj:j<n*sz:=by
   have:=(List.getElem?_eq_some_iff.1 hu).1
   simp at this;omega
  rw [List.getElem?_take,if_pos hj,List.getElem?_drop] at hu
  unfold Addr.add
  split
  ·subst j;simp [World.cell?,hc];simpa using hu
  ·simp [World.cell?,hc];simpa using hu
theorem Own.rep {F:Nat→Prop} {w:World} {e:TypeId} {sz n:Nat} {xs:List Value} {cs:List DV} {v:Value} (h:Own w e sz v n xs) (hF:∀ g,v.ownBlock=some g→F g) (hr:Reps F w cs xs) :
 Rep F w (.sl e sz n cs) v:=by
 rw [Rep_sl]
 refine ⟨by rw [hr.length];exact h.1,?_⟩
 rcases h.2 with ⟨rfl,rfl⟩ | ⟨g,cap,cur,rfl,_,hg,hnc,_,hcs,ht⟩
 ·exact ⟨none,0,rfl,Nat.le_refl _,fun _=>rfl,.inl rfl⟩
 ·exact ⟨_,cap,rfl,hnc,fun h=>by simp at h,.inr ⟨g,0,cur,_,rfl,hF g rfl,hg,by simpa [ht] using hr⟩⟩
theorem Own.lt {w:World} {e:TypeId} {sz n:Nat} {xs:List Value} {v:Value} (h:Own w e sz v n xs) {g:Nat} (hg:v.ownBlock=some g):g<w.heap.size:=(World.ownsRow.lt h g hg).2
theorem below_ad {w wc:World} {o:Obj} (h:Below (w.alloc o).drew.heap.size (w.alloc o).drew wc):Below w.heap.size w wc:=by
 have h2:Below w.heap.size (w.alloc o).drew wc:=⟨h.os,h.tape,h.output,h.size,fun i hi=>h.block i (by show i<(w.alloc o).heap.size;rw [size_alloc];omega)⟩
 exact (((Below.refl w.heap.size w).alloc (Nat.le_refl _) o).drew).trans h2
end Go.Proofs.YtapjaflnmklmeaaGreatDoor

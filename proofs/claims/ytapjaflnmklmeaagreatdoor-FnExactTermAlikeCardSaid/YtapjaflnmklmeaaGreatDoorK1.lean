import Derived.Test.YtapjaflnmklmeaaGreatDoorT6
import Derived.Test.YtapjaflnmklmeaaGreatDoorP17
import Derived.Test.YtapjaflnmklmeaaGreatDoorC1
/- A field of a new block that grows by appends next to calls that only make memory. No program is named. -/
namespace Go.Proofs.YtapjaflnmklmeaaGreatDoor
open Go.RowKit
structure Grow (w:World) (P:Nat) (o:Value→Obj) (e:TypeId) (sz k:Nat) (cs:List DV) (sv:Value) (us:List Value) (wr:World):Prop where
 below:Below P w wr
 blk:wr.heap[P]? = some (o sv)
 own:Own wr e sz sv k us
 rep:Reps (fun i=>P<i∧sv.ownBlock≠some i) wr cs us
 fr:∀ g,sv.ownBlock=some g→P<g
theorem Grow.start {w:World} {P:Nat} {o:Value→Obj} {e:TypeId} {sz:Nat} (h:w.heap[P]? = some (o (.slice none 0 0))):Grow w P o e sz 0 [] (.slice none 0 0) [] w :=
 ⟨Below.refl _ _,h,World.ownsRow_nil _ _ _ _,by rw [Reps_nil],fun g hg=>by simp [Value.ownBlock] at hg⟩
theorem Grow.slice {w:World} {P:Nat} {o:Value→Obj} {e:TypeId} {sz k:Nat} {cs:List DV} {sv:Value} {us:List Value} {wr:World} (h:Grow w P o e sz k cs sv us wr):∃ a c,sv=.slice a k c:=h.own.slice
theorem Grow.next {w:World} {P:Nat} {o:Value→Obj} {e:TypeId} {sz k:Nat} {cs:List DV} {sv:Value} {us:List Value} {wr:World} (h:Grow w P o e sz k cs sv us wr)
 {w6 w7 w8:World} {ob:Obj} {ds:List DV} {news:List Value} {sv':Value} (hb6:Below wr.heap.size wr w6) (hr6:Reps (fun i=>wr.heap.size≤i) w6 ds news)
 (ho7:Own w7 e sz sv' (k+1) (us++news)) (hb7:But (fun b=>sv.ownBlock=some b) (w6.alloc ob) w7) (hg7:∀ g,sv'.ownBlock=some g→sv.ownBlock=some g∨g=(w6.alloc ob).heap.size)
 (h8:w8.heap[P]? = some (o sv')) (hb8:But (fun b=>b=P) w7 w8):Grow w P o e sz (k+1) (cs++ds) sv' (us++news) w8:=by
 have hz6:=hb6.size
 have hz7:=hb7.size
 rw [size_alloc] at hz7
 have hPl:=lt_of_heap h.blk
 have hsv:∀ i,sv.ownBlock=some i→P<i∧i<wr.heap.size:=fun i e=>⟨h.fr i e,h.own.lt e⟩
 have past:∀ (i:Nat) (x:Obj),i≠P→sv.ownBlock≠some i→w6.heap[i]? = some x→w8.heap[i]? = some x:=fun i x h1 h2 hx=>by
  have hl:=lt_of_heap hx
  rw [hb8.block i (by omega) h1,hb7.block i (by rw [size_alloc];omega) h2,Below.heap_alloc _ _ _ hl];exact hx
 have hg':∀ g,sv'.ownBlock=some g→sv.ownBlock=some g∨w6.heap.size<g:=fun g hg=>by
  rcases hg7 g hg with e | e
  ·exact .inl e
  ·rw [size_alloc] at e;exact .inr (by omega)
 refine ⟨?_,h8,ho7.keep fun g x hg hx=>?_,Reps.append ?_ ?_,fun g hg=>?_⟩
 ·have h1:Below P w (w6.alloc ob):=(h.below.trans (hb6.mono (Nat.le_of_lt hPl))).alloc (by omega) _
  have h2:Below P w w7:=h1.trans (hb7.toBelow (by rw [size_alloc];omega) fun i hi e=>by have:=hsv i e;omega)
  exact h2.trans (hb8.toBelow (by omega) fun i hi e=>by omega)
 ·rw [hb8.block g (lt_of_heap hx) (fun e=>by rcases hg' g hg with e' | e';· have:=hsv g e';omega
                                             ·omega)];exact hx
 ·have hk:∀ i x,(P<i∧sv.ownBlock≠some i)→wr.heap[i]? = some x→(P<i∧sv'.ownBlock≠some i)∧w8.heap[i]? = some x:=fun i x hi hx=>by
   refine ⟨⟨hi.1,fun e2=>?_⟩,past i x (by omega) hi.2 (by rw [hb6.block i (lt_of_heap hx)];exact hx)⟩
   rcases hg' i e2 with e' | e'
   ·exact hi.2 e'
   ·have:=lt_of_heap hx;omega
  exact (Rep.keep hk).2 _ _ h.rep
 ·have hk:∀ i x,wr.heap.size≤i→w6.heap[i]? = some x→(P<i∧sv'.ownBlock≠some i)∧w8.heap[i]? = some x:=fun i x hi hx=>by
   refine ⟨⟨by omega,fun e2=>?_⟩,past i x (by omega) (fun e2=>by have:=hsv i e2;omega) hx⟩
   rcases hg' i e2 with e' | e'
   ·have:=hsv i e';omega
   ·have:=lt_of_heap hx;omega
  exact (Rep.keep hk).2 _ _ hr6
 ·rcases hg' g hg with e' | e'
  ·exact h.fr g e'
  ·omega
theorem Grow.own6 {w:World} {P:Nat} {o:Value→Obj} {e:TypeId} {sz k:Nat} {cs:List DV} {sv:Value} {us:List Value} {wr:World} (h:Grow w P o e sz k cs sv us wr) {w6:World} (hb6:Below wr.heap.size wr w6) (ob:Obj):Own (w6.alloc ob) e sz sv k us :=
 (h.own.keep (w':=w6) fun g _ _ hx=>by rw [hb6.block g (lt_of_heap hx)];exact hx).alloc ob
theorem Grow.not {w:World} {P:Nat} {o:Value→Obj} {e:TypeId} {sz k:Nat} {cs:List DV} {sv:Value} {us:List Value} {wr:World} (h:Grow w P o e sz k cs sv us wr):¬ sv.ownBlock=some P:=fun e=>by have:=h.fr P e;omega
theorem Grow.sl {w:World} {P:Nat} {o:Value→Obj} {e:TypeId} {sz k:Nat} {cs:List DV} {sv:Value} {us:List Value} {wr:World} (h:Grow w P o e sz k cs sv us wr):Rep (fun i=>P<i) wr (.sl e sz k cs) sv :=
 h.own.rep (fun g hg=>h.fr g hg) ((Rep.keep fun _ _ hi hx=>⟨hi.1,hx⟩).2 _ _ h.rep)
theorem but_set (w:World) (P f:Nat) (u:Value):But (fun b=>b=P) w (w.setCell ⟨P,f,none⟩ u):=(But.refl (fun b=>b=P) w).setCell (p:=⟨P,f,none⟩) (.inl rfl) u
theorem Grow.cell7 {w:World} {P:Nat} {o:Value→Obj} {e:TypeId} {sz k:Nat} {cs:List DV} {sv:Value} {us:List Value} {wr:World} (h:Grow w P o e sz k cs sv us wr) {w6 w7:World} {ob:Obj} (hb6:Below wr.heap.size wr w6) (hb7:But (fun b=>sv.ownBlock=some b) (w6.alloc ob) w7) :
 w7.heap[P]? = some (o sv):=by
 have hPl:=lt_of_heap h.blk
 have:=hb6.size
 rw [hb7.block P (by rw [size_alloc];omega) h.not,Below.heap_alloc _ _ _ (by omega),hb6.block P hPl];exact h.blk
end Go.Proofs.YtapjaflnmklmeaaGreatDoor
namespace Go.Proofs.YtapjaflnmklmeaaGreatDoor
open Go.RowKit
theorem etas_take {ts:List Ty} {k:Nat} {t:Ty} (h:ts[k]? = some t) (v n:Nat):etas (ts.take (k+1)) v n=etas (ts.take k) v n++[eta t (v+k) n]:=by
 induction ts generalizing k v with
 | nil=>simp at h
 | cons a ts ih =>
   cases k with
   | zero=>simp at h;subst h;simp [etas]
   | succ k =>
     simp only [List.getElem?_cons_succ] at h
     simp only [List.take_succ_cons,etas,List.cons_append]
     rw [ih h,show v+1+k=v+(k+1) from by omega]
theorem arg_atoms {t a:Ty} {k:Nat} (h:t.args[k]? = some a):1+atomsT a≤atomsT t:=by
 have key:∀ (ts:List Ty) (k:Nat),ts[k]? = some a→1+atomsT a≤atomsTs ts:=by
  intro ts
  induction ts with
  | nil=>intro k h;simp at h
  | cons x xs ih =>
    intro k h
    rw [atomsTs]
    cases k with
    | zero=>simp at h;subst h;omega
    | succ k=>have:=ih k (by simpa using h);omega
 cases t with
 | mk ts=>rw [atomsT];have:=key ts k h;omega
theorem leaf_new {B b:Nat} {w:World} {c:UInt8} (h:w.heap[b]? = some (.cells #[str [c],.int .i64 0,.slice none 0 0,.pointer none,.pointer none] 72 (0,0))) (hB:B≤b):Rep (fun i=>B≤i) w (encB (.leaf c)) (.pointer (some ⟨b,0,none⟩)):=by
 rw [encB,Rep_ptr]
 refine ⟨_,_,rfl,hB,h,?_⟩
 exact Reps_cons.2 ⟨_,_,rfl,Rep_val.2 rfl,Reps_cons.2 ⟨_,_,rfl,Rep_val.2 rfl,Reps_cons.2 ⟨_,_,rfl,Rep_sl.2 ⟨rfl,none,0,rfl,Nat.le_refl _,fun _=>rfl,.inl rfl⟩,Reps_cons.2 ⟨_,_,rfl,Rep_val.2 rfl,Reps_cons.2 ⟨_,_,rfl,Rep_val.2 rfl,Reps_nil.2 rfl⟩⟩⟩⟩⟩
def askObj (v:Nat) (yv nv sv:Value):Obj:=.cells #[str [],.int .i64 (v:Nat),sv,yv,nv] 72 (0,0)
set_option maxRecDepth 100000 in
set_option maxHeartbeats 4000000 in
theorem copyOf_any (m:Nat):∀ (t:Ty),atomsT t≤m→atomsT t≤15→∀ (F:Nat→Prop) (kv:Value) (v n:Nat) (w:World),Rep F w (encK t) kv→v≤1000000→n+16*atomsT t≤1000000 →
 Calls Tryz.prog 70 #[kv,.int .i64 (v:Nat),.int .i64 (n:Nat)] w fun en w'=>∃ b,en=.returned (.pointer (some ⟨b,0,none⟩))∧Below w.heap.size w w'∧Rep (fun i=>w.heap.size≤i) w' (encB (eta t v n)) (.pointer (some ⟨b,0,none⟩)):=by
 induction m with
 | zero=>intro t h;cases t;rw [atomsT] at h;omega
 | succ m ih =>
 intro t hm h15 F kv v n w hk hv hn
 have IH:=Lib.hid ih
 obtain ⟨kb,ks,e,hkF,hkb,hks⟩:=encK_open hk
 subst e
 obtain ⟨ka,kc,e,_,_,hkat⟩:=Rep_sl1_open hks
 subst e
 have hl16:=(args_atoms h15).2
 have hat:=Lib.hid (args_atoms h15).1
 have hkw:=lt_of_heap hkb
 have hk0:w.cell? ⟨kb,0,none⟩=some (.slice ka t.args.length kc):=by simp [World.cell?,hkb]
 have HA:=Lib.hid hkat
 obtain ⟨W,hW⟩:∃ W,((w.alloc (.cells #[str [116],.int .i64 0,.slice none 0 0,.pointer none,.pointer none] 72)).alloc (.cells #[str [102],.int .i64 0,.slice none 0 0,.pointer none,.pointer none] 72)).alloc (.cells #[str [],.int .i64 (v:Nat),.slice none 0 0,.pointer (some ⟨w.heap.size,0,none⟩),.pointer (some ⟨w.heap.size+1,0,none⟩)] 72)=W:=⟨_,rfl⟩
 have hzW:W.heap.size=w.heap.size+3:=by rw [← hW];simp only [size_alloc]
 have hbW:Below w.heap.size w W:=by rw [← hW];exact (((Below.refl _ _).alloc (Nat.le_refl _) _).alloc (by simp only [size_alloc];omega) _).alloc (by simp only [size_alloc];omega) _
 have bT:W.heap[w.heap.size]? = some (.cells #[str [116],.int .i64 0,.slice none 0 0,.pointer none,.pointer none] 72 (0,0)):=by rw [← hW];exact heap_past (heap_past (heap_new _ _))
 have bF:W.heap[w.heap.size+1]? = some (.cells #[str [102],.int .i64 0,.slice none 0 0,.pointer none,.pointer none] 72 (0,0)):=by
  rw [← hW];refine heap_past ?_
  have:=heap_new (w.alloc (.cells #[str [116],.int .i64 0,.slice none 0 0,.pointer none,.pointer none] 72)) (.cells #[str [102],.int .i64 0,.slice none 0 0,.pointer none,.pointer none] 72)
  rwa [size_alloc] at this
 have bO:W.heap[w.heap.size+2]? = some (askObj v (.pointer (some ⟨w.heap.size,0,none⟩)) (.pointer (some ⟨w.heap.size+1,0,none⟩)) (.slice none 0 0)):=by
  rw [← hW]
  have:=heap_new ((w.alloc (.cells #[str [116],.int .i64 0,.slice none 0 0,.pointer none,.pointer none] 72)).alloc (.cells #[str [102],.int .i64 0,.slice none 0 0,.pointer none,.pointer none] 72)) (.cells #[str [],.int .i64 (v:Nat),.slice none 0 0,.pointer (some ⟨w.heap.size,0,none⟩),.pointer (some ⟨w.heap.size+1,0,none⟩)] 72)
  simp only [size_alloc] at this
  exact this
 have HW:=Lib.hid (And.intro hW (And.intro hzW (And.intro hbW (And.intro bT (And.intro bF bO)))))
 clear hW hzW hbW bT bF bO hks hkb hkat ih hk
 go_enter Tryz.func70,Tryz.ntmps70
 go_upto_region 2 with (fail)
 rw [HW.out.1]
 have hk0W:W.cell? ⟨kb,0,none⟩=some (.slice ka t.args.length kc):=(HW.out.2.2.1.cell hkw).trans hk0
 go_wp2_with fail
 go_loopw [22] (fun i wr=>∃ (k:Nat) (sv:Value) (us:List Value),k≤t.args.length∧i=.int .i64 k∧Grow W (w.heap.size+2) (askObj v (.pointer (some ⟨w.heap.size,0,none⟩)) (.pointer (some ⟨w.heap.size+1,0,none⟩))) 44 1 k (encBs (etas (t.args.take k) n (n+t.args.length))) sv us wr) (fun i _=>t.args.length-(intOf i).toNat)
 case atStart=>exact ⟨0,_,_,Nat.zero_le _,rfl,by simpa [etas,encBs] using Grow.start HW.out.2.2.2.2.2⟩
 case round =>
  rename_i wr
  obtain ⟨k,sv,us,hk,rfl,hinv⟩:=hrel
  obtain ⟨sa,sc,e⟩:=hinv.slice
  subst e
  have hblk:wr.heap[w.heap.size+2]? = some (.cells #[str [],.int .i64 (v:Nat),.slice sa k sc,.pointer (some ⟨w.heap.size,0,none⟩),.pointer (some ⟨w.heap.size+1,0,none⟩)] 72 (0,0)):=hinv.blk
  have hzW:=HW.out.2.1
  have hbw:Below w.heap.size w wr:=HW.out.2.2.1.trans (hinv.below.mono (by omega))
  obtain ⟨y0,y1,y2,y3,y4,yf⟩:=cells5 hblk
  have hkr:wr.cell? ⟨kb,0,none⟩=some (.slice ka t.args.length kc):=(hbw.cell hkw).trans hk0
  have HI:=Lib.hid (And.intro hinv (And.intro hblk hbw));clear hinv hblk hbw
  by_cases hlt:k<t.args.length
  ·have hlt':(k:Int)<(t.args.length:Int):=by omega
   obtain ⟨kb2,ko2,u2,d2,e,hF2,hw2,hd2,hc2,hrk⟩:=HA.out k hlt
   subst e
   rw [encKs_at,Option.map_eq_some_iff] at hd2
   obtain ⟨a,ha,rfl⟩:=hd2
   obtain ⟨kab,s2,rfl,_,_,_⟩:=encK_open hrk
   have haa:atomsT a≤15:=hat.out a (List.mem_of_getElem? ha)
   have hal:1+atomsT a≤atomsT t:=arg_atoms ha
   have q2:wr.cell? ⟨kb2,ko2+k,none⟩=some (.pointer (some ⟨kab,0,none⟩)):=(HI.out.2.2.cell hw2).trans hc2
   have CC:=IH.out a (by omega) haa F (.pointer (some ⟨kab,0,none⟩)) (n+k) (n+t.args.length) wr.drew ((Rep.below HI.out.2.2 (fun _ h=>h) hrk).drew) (by omega) (by omega)
   rw [Int.natCast_add,Int.natCast_add] at CC
   have CC:=Lib.hid CC
   have htk:=etas_take ha n (n+t.args.length)
   have HK:=Lib.hid (And.intro ha htk);clear ha hrk htk hc2
   have HWR:=Lib.hid (And.intro (show IntKind.i64.wrap ((n:Int)+(k:Int))=(n:Int)+(k:Int) from IntWalk.i64_in _ (by omega)) (show IntKind.i64.wrap ((n:Int)+(t.args.length:Int))=(n:Int)+(t.args.length:Int) from IntWalk.i64_in _ (by omega)))
   have SX:Hid (∀ w',But (fun i=>(Value.slice sa k sc).ownBlock=some i) wr w'→w'.cell? ⟨w.heap.size+2,2,none⟩=some (.slice sa k sc)∧w'.cell? ⟨kb,0,none⟩=some (.slice (some ⟨kb2,ko2,none⟩) t.args.length kc)):=by
    show ∀ w',_→_
    intro w' hb'
    exact ⟨(hb'.cell (World.block_lt_of_cell? wr _ y2) HI.out.1.not).trans y2,(hb'.cell (World.block_lt_of_cell? wr _ hkr) (fun e=>by have h1:=HI.out.1.fr _ e;have h1:w.heap.size+2<kb:=h1;omega)).trans hkr⟩
   have hmx:k+1≤maxLen:=by unfold maxLen;omega
   have hby:(k+1)*8≤140737488355328:=by omega
   clear y0 y1 y3 y4 yf
   go_wp2_with fail
   refine wp_region_noPanic ?_
   refine wp_region_S (fun w'=>But (fun i=>(Value.slice sa k sc).ownBlock=some i) wr w') (fun i=>i == 21) (by kernel_rfl) ?_
   have hSd:(fun w'=>But (fun i=>(Value.slice sa k sc).ownBlock=some i) wr w') wr.drew:=(But.refl _ wr).drew
   refine tk [0,1,2,3,4,5,6,7,8,9,10,11,12,13,14] hSd ?_
   (intro d hd;simp [tkD] at hd;subst hd;simp only [tks,pQ,pZ,pS])
   iterate 15 (refine ⟨?_,?_,?_⟩;rotate_left;· (intro oi ho;simp at ho;subst ho;refine Or.inl ⟨by rfl,fun w' hw'=>?_⟩;obtain ⟨e0,e1⟩:=SX.out w' hw';have hw1:=HWR.out.1;go_simp;try with_reducible rfl))
   refine tk [15] hSd ?_
   (intro d hd;simp [tkD] at hd;subst hd;simp only [tks,pQ,pZ,pS])
   (refine ⟨?_,?_,?_⟩;rotate_left;· (intro oi ho;simp at ho;subst ho;refine Or.inl ⟨by rfl,fun w' hw'=>?_⟩;have hw1:=HWR.out.2;go_simp;try with_reducible rfl))
   (refine on 16 ?_;intro o ho K' hK;simp at ho;subst ho;go_simp)
   go_at_call 70
   (with_reducible refine CC.out.mono ?_)
   rintro en6 w6 ⟨vb,rfl,hb6,hr6⟩
   have hB6:Below wr.heap.size wr w6:=(Below.drew (Below.refl _ _)).trans hb6
   have HB6:Hid (But (fun i=>(Value.slice sa k sc).ownBlock=some i) wr w6):=But.ofBelow hB6
   have OWN6:=HI.out.1.own6 hB6 (.cells #[.pointer (some ⟨vb,0,none⟩)] 44)
   have H6:=Lib.hid (And.intro hB6 hr6);clear hb6 hr6 hB6
   (refine hK.out _ _ (fun _=>HB6.out) ?_;clear hK K';try simp only [pQ,pN,pZ,pS])
   (refine on 17 ?_;intro o ho K' hK;simp at ho;subst ho;go_simp)
   (refine hK.out _ _ (fun _=>HB6.out.alloc _) ?_;clear hK K';try simp only [pQ,pN,pZ,pS])
   (refine on 18 ?_;intro o ho K' hK;simp at ho;subst ho)
   refine step_append_gen (by rfl) _ _ _ (by rfl) 44 (.pointer none) 1 8 Tryz.underlying70 Tryz.infoB rfl (by decide) (.slice sa k sc) k us (by rfl) OWN6 _ 1 [.pointer (some ⟨vb,0,none⟩)] (by rfl) (SrcSl.lit1 #[.pointer (some ⟨vb,0,none⟩)] rfl (by simp [Value.oneCell']) _ (by rfl)) hmx hby ?_
   intro a' c' w7 ho7 hb7 hg7
   (refine hK.out _ _ (fun _=>(HB6.out.alloc _).trans hb7) ?_;clear hK K';try simp only [pQ,pN,pZ,pS])
   have hc7:=HI.out.1.cell7 H6.out.1 hb7
   have hc7':w7.cell? ⟨w.heap.size+2,2,none⟩=some (.slice sa k sc)∧w7.frozen? ⟨w.heap.size+2,2,none⟩=false:=by rw [askObj] at hc7;exact ⟨by simp [World.cell?,hc7],by simp [World.frozen?,hc7]⟩
   obtain ⟨hc8,hf8⟩:=hc7'
   have HC7:=Lib.hid hc7;clear hc7
   (refine on 19 ?_;intro o ho K' hK;simp at ho;subst ho;go_simp)
   (refine hK.out _ _ (fun _=>(HB6.out.alloc _).trans hb7) ?_;clear hK K';try simp only [pQ,pN,pZ,pS])
   (refine on 20 ?_;intro o ho K' hK;simp at ho;subst ho;go_simp)
   (refine hK.out _ _ (fun _=>(HB6.out.alloc _).trans hb7) ?_;clear hK K';try simp only [pQ,pN,pZ,pS])
   (refine on 21 ?_;intro o ho K' hK;simp at ho;subst ho;go_simp)
   (refine hK.out _ _ (fun h=>by simp at h) ?_;clear hK K';try simp only [pQ,pN,pZ,pS])
   refine wpAnyS_done (by kernel_rfl) (NoPanic.normal ?_) _
   have hX:=HI.out.1.next (w8:=w7.setCell ⟨w.heap.size+2,2,none⟩ (.slice a' (k+1) c')) H6.out.1 (Reps.one H6.out.2) ho7 hb7 hg7 (by rw [setCell_at HC7.out];rfl) (but_set _ _ _ _)
   have hX2:encBs (etas (t.args.take k) n (n+t.args.length))++[encB (eta a (n+k) (n+t.args.length))]=encBs (etas (t.args.take (k+1)) n (n+t.args.length)):=by rw [HK.out.2,encBs_snoc]
   rw [hX2] at hX
   have HN:=Lib.hid hX
   clear hX hX2 ho7 hb7 hg7 hSd OWN6 hc8 hf8
   go_wp2_with fail
   go_roundw
   case rel=>exact ⟨k+1,_,_,by omega,by go_num,HN.out⟩
   case measure=>simp [intOf];omega
  ·obtain rfl:k=t.args.length:=by omega
   clear y0 y1 y2 y3 y4 yf
   go_wp2_with fail
   go_ret
   refine ⟨w.heap.size+2,rfl,HI.out.2.2,?_⟩
   have hsl:=HI.out.1.sl
   rw [List.take_length] at hsl
   rw [eta_eq,encB,etas_length,Rep_ptr]
   have bT:=(HI.out.1.below.block w.heap.size (by omega)).trans HW.out.2.2.2.1
   have bF:=(HI.out.1.below.block (w.heap.size+1) (by omega)).trans HW.out.2.2.2.2.1
   refine ⟨_,_,rfl,by show w.heap.size≤w.heap.size+2;omega,HI.out.2.1,?_⟩
   refine Reps_cons.2 ⟨_,_,rfl,Rep_val.2 rfl,Reps_cons.2 ⟨_,_,rfl,Rep_val.2 rfl,Reps_cons.2 ⟨_,_,rfl,hsl.weak fun i (h:w.heap.size+2<i)=>by show w.heap.size≤i;omega,Reps_cons.2 ⟨_,_,rfl,leaf_new bT (Nat.le_refl _),Reps_cons.2 ⟨_,_,rfl,leaf_new bF (by omega),Reps_nil.2 rfl⟩⟩⟩⟩⟩
end Go.Proofs.YtapjaflnmklmeaaGreatDoor

/- Walks of functions that the statement reaches, and plain words. No conditions. -/
import Derived.Shelf.Strings.Builder1
import Derived.Laws.EntriesVeiled
import Derived.Laws.IdiomStrings
import Derived.Laws.DeepNot64
import Derived.Deep.Cut
import Derived.Test.YtepgfdhkkjfmhabGreatDoorQ5
set_option linter.unusedVariables false
set_option linter.unusedSimpArgs false
set_option maxHeartbeats 8000000
namespace Go.Proofs.YtepgfdhkkjfmhabGreatDoor
open Go.RowKit
section
variable {P:Program} {ops:Array Oper} {Q:Exit->Act->World->Prop} {md:Region.Mode} {S:World->Prop} {T:Nat->Bool}
theorem wpAnyS_firstN {i:Nat} {oi:Oper} {v:Value} {D:List Nat} (hi:ops[i]? = some oi) (fz:∀ (j:Nat) (o:Oper) cs b,ops[j]? = some o->o.op≠.select cs b)
 (hQ:∀ c a w,Q (.panic c) (a.put oi.dst v) w->Q (.panic c) a w)
 (hT:∀ j oj,ops[j]? = some oj->T j=true->j∈D) (hD:∀ j∈D,∀ oj,ops[j]? = some oj->∃ e∈oj.after,Region.binds md e=true/\(e.on=i\/e.on∈D)) (hTi:T i=false) :
 ∀ (fuel:Nat) (listed:Array Bool) (a:Act) (w:World),(∀ j∈D,listed.getD j false=false) ->
   (∀ j oj,ops[j]? = some oj->j≠i->listed.getD j true=false->(∀ e∈oj.after,Region.binds md e=true->e.on≠i)->oi.apart ops oj=true) ->
   i∈Region.ready md ops listed->YieldsIf P ops S oi v a->S w ->
   qh P md ops Q S T fuel (listed.setIfInBounds i true) (a.put oi.dst v) w->qh P md ops Q S T (fuel+1) listed a w:=by
 intro fuel
 induction fuel with
 | zero =>
   intro listed a w _ _ hr hy hS H
   refine ⟨fun h=>(by rw [h] at hr;cases hr),fun j hj=>?_⟩
   by_cases dd:j=i
   ·subst dd;exact hy.wpOp hi hS ⟨fun _=>hS,H⟩
   ·have:=ji hj dd
    rw [H.1] at this
    cases this
 | succ fuel ih =>
   intro listed a w hDl cM hr hy hS H
   refine ⟨fun h=>(by rw [h] at hr;cases hr),fun j hj=>?_⟩
   by_cases dd:j=i
   ·subst dd;exact hy.wpOp hi hS ⟨fun _=>hS,H⟩
   ·have h1:=H.2 j (ji hj dd)
    obtain ⟨ft,oj,mF,ce⟩:=jN hj
    have fh:∀ e∈oj.after,Region.binds md e=true->e.on≠i:=fun e he hb fa=>by
     have h1:=ce e he hb
     have h0:=(jN hr).1
     rw [fa] at h1
     simp only [Array.getD_eq_getD_getElem?] at h0 h1
     rcases Nat.lt_or_ge i listed.size with h' | h'
     ·simp [h'] at h0 h1;rw [h0] at h1;cases h1
     ·simp [Array.getElem?_eq_none h'] at h1
    have hDj:j ∉ D:=fun hd=>by
     obtain ⟨e,he,hb,fa⟩:=hD j hd oj mF
     rcases fa with fa | fa
     ·exact fh e he hb fa
     ·have h1:=ce e he hb
      rw [hDl _ fa] at h1;cases h1
    have hTj:T j=false:=by
     cases hT':T j with
     | false=>rfl
     | true=>exact absurd (hT j oj mF hT') hDj
    have h2:=wpOp_putIf mF (cM j oj mF dd ft fh) (fun cs b=>fz i oi cs b hi) (fun cs b=>fz j oj cs b mF) hQ hy h1
    have hDl':∀ k∈D,(listed.setIfInBounds j true).getD k false=false:=fun k hk=>by
     have hkj:j≠k:=fun e=>hDj (e ▸ hk)
     have:=hDl k hk
     simp only [Array.getD_eq_getD_getElem?] at this ⊢
     rw [Array.getElem?_setIfInBounds_ne hkj];exact this
    have eO:∀ k ok,ops[k]? = some ok->k≠i->(listed.setIfInBounds j true).getD k true=false ->
     (∀ e∈ok.after,Region.binds md e=true->e.on≠i)->oi.apart ops ok=true:=fun k ok hk hki rD cB=>by
     refine cM k ok hk hki ?_ cB
     by_cases aH:j=k
     ·subst aH;exact ft
     ·simp only [Array.getD_eq_getD_getElem?] at rD ⊢
      rw [Array.getElem?_setIfInBounds_ne aH] at rD;exact rD
    refine wpOp_mono (fun a' w' h3=>⟨h3.2.1,ih (listed.setIfInBounds j true) a' w' hDl' eO (ji hr (Ne.symm dd)) h3.1 (h3.2.1 hTj) ?_⟩) h2
    rw [Array.setIfInBounds_comm _ _ dd]
    exact h3.2.2
def waitD (md:Region.Mode) (ops:Array Oper) (T:Nat->Bool) (D:List Nat) (listed:Array Bool) (i:Nat):Bool :=
 !T i && ((List.range ops.size).all (fun j=>!T j || D.contains j) && D.all fun j=>!listed.getD j false && ((ops[j]?).map fun o=>o.after.any fun e=>Region.binds md e && (e.on == i || D.contains e.on)).getD true)
theorem kJ (i:Nat) (D:List Nat) {v:Value} {fuel:Nat} {listed:Array Bool} {a:Act} {w:World}
 (hs:Region.noSelect ops=true) (hf:Region.free md ops listed i=true) (hr:(Region.ready md ops listed).contains i=true) (ht:waitD md ops T D listed i=true)
 (hQ:∀ d c a w,Q (.panic c) (a.put d v) w->Q (.panic c) a w) (hS:S w)
 (hy:∀ oi,ops[i]? = some oi->YieldsIf P ops S oi v a)
 (h:∀ d,(ops[i]?).bind (·.dst)=d->qh P md ops Q S T fuel (listed.setIfInBounds i true) (a.put d v) w):qh P md ops Q S T (fuel+1) listed a w:=by
 have hm:i∈Region.ready md ops listed:=by simpa using hr
 obtain ⟨_,oi,hi,_⟩:=jN hm
 unfold waitD at ht
 rw [Bool.and_eq_true,Bool.and_eq_true] at ht
 obtain ⟨h1,h2,h3⟩:=ht
 rw [List.all_eq_true] at h2 h3
 refine wpAnyS_firstN (D:=D) hi (Region.noSelect_spec hs) (fun c a w=>hQ _ c a w) (fun j oj hj hT=>?_) (fun j hj oj ho=>?_) (by simpa using h1) fuel listed a w (fun j hj=>?_) (Region.free_spec hi hf) hm (hy oi hi) hS (h _ (by rw [hi];rfl))
 ·have:=h2 j (List.mem_range.2 (Array.getElem?_eq_some_iff.1 hj).1)
  rw [hT] at this;simpa using this
 ·have:=h3 j hj
  rw [Bool.and_eq_true,ho] at this
  have:=this.2
  simp only [Option.map_some,Option.getD_some] at this
  rw [Array.any_eq_true'] at this
  obtain ⟨e,he,h4⟩:=this
  rw [Bool.and_eq_true,Bool.or_eq_true,beq_iff_eq,List.contains_iff_mem] at h4
  exact ⟨e,he,h4⟩
 ·have:=h3 j hj
  rw [Bool.and_eq_true] at this
  simpa using this.1
end
def kz (w:World) (g:Nat) (k t:Bs):Prop:=w.heap[g]? = some (.cells #[str k,str t] 63 (0,0))
theorem kz.cells {w:World} {g:Nat} {k t:Bs} (h:kz w g k t):w.cell? ⟨g,0,none⟩=some (str k)/\w.cell? ⟨g,1,none⟩=some (str t)/\w.frozen? ⟨g,0,none⟩=false/\w.frozen? ⟨g,1,none⟩=false/\g<w.heap.size :=
 ⟨by simp [World.cell?,show w.heap[g]? = _ from h],by simp [World.cell?,show w.heap[g]? = _ from h],by simp [World.frozen?,show w.heap[g]? = _ from h],by simp [World.frozen?,show w.heap[g]? = _ from h],zZ h⟩
theorem kz.below {w w':World} {g:Nat} {k t:Bs} (h:kz w g k t) (hb:Below w.heap.size w w'):kz w' g k t:=(hb.block g (zZ h)).trans h
theorem kz.set {w:World} {g:Nat} {k t:Bs} (h:kz w g k t) (k' t':Bs):kz ((w.setCell ⟨g,0,none⟩ (str k')).setCell ⟨g,1,none⟩ (str t')) g k' t':=by
 unfold kz
 rw [zh (zh h)];rfl
def go (g:Nat) (ans:Bs) (k t:Bs) (w:World) (en:Ending) (w':World):Prop:=en=.returned (.tuple #[str ans,.bool true])/\But (· = g) w w'/\kz w' g k t
theorem gg (g:Nat) (k t k' t':Bs) (w:World) (h:kz w g k t) :
 Calls Tryz.prog 102 #[.pointer (some ⟨g,0,none⟩),str k',str t',.bool true] w (go g [111,107] k' t' w):=by
 obtain ⟨c0,c1,f0,f1,hl⟩:=h.cells
 have H:=g_ h
 clear h
 go_enter Tryz.func102,Tryz.ntmps102
 go_wp2_with fail
 go_ret2
 exact ⟨rfl,((But.refl (· = g) w).setCell (p:=⟨g,0,none⟩) (.inl rfl) _).setCell (p:=⟨g,1,none⟩) (.inl rfl) _,H.out.set k' t'⟩
theorem xM (s:Bs) (hs:Lim s.length) (w:World) (hv:(zU s).2=true):Calls Tryz.prog 103 #[str s] w fun en w'=>en=.returned (.bool true)/\Below w.heap.size w w':=by
 have C:=g_ (xK s w hs)
 have hq:jx s=some (zU s).1:=by rw [wI,hv];rfl
 clear hs hv
 go_enter Tryz.func103,Tryz.ntmps103
 go_wp2_with fail
 (with_reducible refine C.out.mono ?_)
 rintro en w1 ⟨kv,rfl,bU,bz,b6⟩
 have rk:=b6 _ hq
 obtain ⟨ka,ks,rfl,_⟩:=za rk
 have HB:=g_ bU
 clear hq bz b6 rk C bU
 go_wp2_with fail
 go_ret
 exact ⟨rfl,HB.out⟩
theorem take_deed (g:Nat) (k t s:Bs) (w:World) (h:kz w g k t) (hs:Lim s.length) (hv:(zU s).2=true) :
 Calls Tryz.prog 76 #[.pointer (some ⟨g,0,none⟩),str s] w (go g [111,107] s [117] w):=by
 have C:=g_ (xM s hs w hv)
 have H:=g_ h
 clear h
 go_enter Tryz.func76,Tryz.ntmps76
 go_wp2_with fail
 (with_reducible refine C.out.mono ?_)
 rintro en w1 ⟨rfl,bU⟩
 have C2:=g_ (gg g k t s [117] w1 (H.out.below bU))
 have HB:=g_ bU
 clear bU
 go_wp2_with fail
 (with_reducible refine C2.out.mono ?_)
 rintro en w2 ⟨rfl,bY,h2⟩
 have H2:=g_ (hU ((But.ofBelow HB.out).trans bY) h2)
 clear bY h2
 go_wp2_with fail
 go_ret2
 exact ⟨rfl,H2.out.1,H2.out.2⟩
theorem set_deed (g:Nat) (k t x:Bs) (w:World) (h:kz w g k t) (hg:jA w) (hk:Lim k.length) (hx:Lim x.length) (hv:(zI k x).isSome=true) :
 Calls Tryz.prog 77 #[.pointer (some ⟨g,0,none⟩),str x] w (go g [111,107] k x w):=by
 have C:=g_ (fun (y:World) (hy:Below w.heap.size w y)=>implValid_any k x hk hx y (hg.below hy))
 rw [hv] at C
 obtain ⟨c0,c1,f0,f1,hl⟩:=h.cells
 have KEY:=g_ (fun (y:World) (hy:Below w.heap.size w y)=>(show y.cell? ⟨g,0,none⟩=some (str k) from (h.below hy).cells.1))
 have H:=g_ h
 clear h
 go_enter Tryz.func77,Tryz.ntmps77
 go_upto_region 1 with (fail)
 refine wp_region_noPanic ?_
 refine kT (fun w'=>Below w.heap.size w w'\/(But (· = g) w w'/\kz w' g k x)) (fun _=>false) (by kernel_rfl) ?_
 have bq:(fun w'=>Below w.heap.size w w'\/(But (· = g) w w'/\kz w' g k x)) w.drew:=Or.inl (Below.drew (bZ _ _))
 refine kJ 0 [12,13,14,15,16] (v:=?_) (by kernel_rfl) (by kernel_rfl) (by kernel_rfl) (by kernel_rfl) (fun _ _ _ _ h=>h) bq ?_ ?_
 rotate_left
 ·(intro oi ho;simp at ho;subst ho;refine Or.inl ⟨by rfl,fun w' br=>?_⟩;go_simp;try with_reducible rfl)
 (intro d hd;simp at hd;subst hd;simp only [Act.put,List.setIfInBounds_toArray,List.set_cons_zero,List.set_cons_succ])
 refine kJ 1 [2,3,4,12,13,14,15,16] (v:=?_) (by kernel_rfl) (by kernel_rfl) (by kernel_rfl) (by kernel_rfl) (fun _ _ _ _ h=>h) bq ?_ ?_
 rotate_left
 ·(intro oi ho;simp at ho;subst ho;refine Or.inl ⟨by rfl,fun w' br=>?_⟩;go_simp;try with_reducible rfl)
 (intro d hd;simp at hd;subst hd;simp only [Act.put,List.setIfInBounds_toArray,List.set_cons_zero,List.set_cons_succ])
 refine kJ 2 [3,4,12,13,14,15,16] (v:=?_) (by kernel_rfl) (by kernel_rfl) (by kernel_rfl) (by kernel_rfl) (fun _ _ _ _ h=>h) bq ?_ ?_
 rotate_left
 ·(intro oi ho;simp at ho;subst ho;refine Or.inl ⟨by rfl,fun w' br=>?_⟩;go_simp;try with_reducible rfl)
 (intro d hd;simp at hd;subst hd;simp only [Act.put,List.setIfInBounds_toArray,List.set_cons_zero,List.set_cons_succ])
 refine kJ 3 [4,12,13,14,15,16] (v:=?_) (by kernel_rfl) (by kernel_rfl) (by kernel_rfl) (by kernel_rfl) (fun _ _ _ _ h=>h) bq ?_ ?_
 rotate_left
 ·(intro oi ho;simp at ho;subst ho;refine Or.inl ⟨by rfl,fun w' br=>?_⟩;go_simp;try with_reducible rfl)
 (intro d hd;simp at hd;subst hd;simp only [Act.put,List.setIfInBounds_toArray,List.set_cons_zero,List.set_cons_succ])
 refine kJ 4 [12,13,14,15,16] (v:=?_) (by kernel_rfl) (by kernel_rfl) (by kernel_rfl) (by kernel_rfl) (fun _ _ _ _ h=>h) bq ?_ ?_
 rotate_left
 ·(intro oi ho;simp at ho;subst ho;refine Or.inl ⟨by rfl,fun w' br=>?_⟩;have e0:w'.cell? ⟨g,0,none⟩=some (str k):=br.elim (KEY.out w') (fun h=>h.2.cells.1);go_simp;try with_reducible rfl)
 (intro d hd;simp at hd;subst hd;simp only [Act.put,List.setIfInBounds_toArray,List.set_cons_zero,List.set_cons_succ])
 refine kJ 5 [12,13,14,15,16] (v:=?_) (by kernel_rfl) (by kernel_rfl) (by kernel_rfl) (by kernel_rfl) (fun _ _ _ _ h=>h) bq ?_ ?_
 rotate_left
 ·(intro oi ho;simp at ho;subst ho;refine Or.inl ⟨by rfl,fun w' br=>?_⟩;go_simp;try with_reducible rfl)
 (intro d hd;simp at hd;subst hd;simp only [Act.put,List.setIfInBounds_toArray,List.set_cons_zero,List.set_cons_succ])
 refine kJ 6 [7,8,9,11,12,13,14,15,16] (v:=?_) (by kernel_rfl) (by kernel_rfl) (by kernel_rfl) (by kernel_rfl) (fun _ _ _ _ h=>h) bq ?_ ?_
 rotate_left
 ·(intro oi ho;simp at ho;subst ho;refine Or.inl ⟨by rfl,fun w' br=>?_⟩;go_simp;try with_reducible rfl)
 (intro d hd;simp at hd;subst hd;simp only [Act.put,List.setIfInBounds_toArray,List.set_cons_zero,List.set_cons_succ])
 refine kJ 7 [8,9,11,12,13,14,15,16] (v:=?_) (by kernel_rfl) (by kernel_rfl) (by kernel_rfl) (by kernel_rfl) (fun _ _ _ _ h=>h) bq ?_ ?_
 rotate_left
 ·(intro oi ho;simp at ho;subst ho;refine Or.inl ⟨by rfl,fun w' br=>?_⟩;go_simp;try with_reducible rfl)
 (intro d hd;simp at hd;subst hd;simp only [Act.put,List.setIfInBounds_toArray,List.set_cons_zero,List.set_cons_succ])
 refine kJ 8 [9,11,12,13,14,15,16] (v:=?_) (by kernel_rfl) (by kernel_rfl) (by kernel_rfl) (by kernel_rfl) (fun _ _ _ _ h=>h) bq ?_ ?_
 rotate_left
 ·(intro oi ho;simp at ho;subst ho;refine Or.inl ⟨by rfl,fun w' br=>?_⟩;go_simp;try with_reducible rfl)
 (intro d hd;simp at hd;subst hd;simp only [Act.put,List.setIfInBounds_toArray,List.set_cons_zero,List.set_cons_succ])
 refine kJ 9 [11,12,13,14,15,16] (v:=?_) (by kernel_rfl) (by kernel_rfl) (by kernel_rfl) (by kernel_rfl) (fun _ _ _ _ h=>h) bq ?_ ?_
 rotate_left
 ·(intro oi ho;simp at ho;subst ho;refine Or.inl ⟨by rfl,fun w' br=>?_⟩;have e0:w'.cell? ⟨g,0,none⟩=some (str k):=br.elim (KEY.out w') (fun h=>h.2.cells.1);go_simp;try with_reducible rfl)
 (intro d hd;simp at hd;subst hd;simp only [Act.put,List.setIfInBounds_toArray,List.set_cons_zero,List.set_cons_succ])
 refine kJ 10 [11,12,13,14,15,16] (v:=?_) (by kernel_rfl) (by kernel_rfl) (by kernel_rfl) (by kernel_rfl) (fun _ _ _ _ h=>h) bq ?_ ?_
 rotate_left
 ·(intro oi ho;simp at ho;subst ho;refine Or.inl ⟨by rfl,fun w' br=>?_⟩;go_simp;try with_reducible rfl)
 (intro d hd;simp at hd;subst hd;simp only [Act.put,List.setIfInBounds_toArray,List.set_cons_zero,List.set_cons_succ])
 (refine on 11 ?_;intro o ho K' hK;simp at ho;subst ho;go_simp)
 have hd:Below w.heap.size w w.drew:=Below.drew (bZ _ _)
 go_at_call 104
 (with_reducible refine (C.out _ hd).mono ?_)
 rintro en w1 ⟨rfl,bU⟩
 have dT:Below w.heap.size w w1:=Below.trans hd (bU.mono (Below.size hd))
 clear bU
 (refine hK.out _ _ (fun _=>(Or.inl dT:(fun w'=>Below w.heap.size w w'\/(But (· = g) w w'/\kz w' g k x)) w1)) ?_;clear hK K';try simp only [pQ,pN,pZ,pS])
 have iG:=(Or.inl dT:(fun w'=>Below w.heap.size w w'\/(But (· = g) w w'/\kz w' g k x)) w1)
 (refine on 12 ?_;intro o ho K' hK;simp at ho;subst ho;go_simp)
 go_at_call 102
 (with_reducible refine (gg g k t k x w1 (H.out.below dT)).mono ?_)
 rintro en w2 ⟨rfl,bY,h2⟩
 have nX:=(But.ofBelow (m:=(· = g)) dT).trans bY
 (refine hK.out _ _ (fun _=>(Or.inr ⟨nX,h2⟩:(fun w'=>Below w.heap.size w w'\/(But (· = g) w w'/\kz w' g k x)) w2)) ?_;clear hK K';try simp only [pQ,pN,pZ,pS])
 have iP:=(Or.inr ⟨nX,h2⟩:(fun w'=>Below w.heap.size w w'\/(But (· = g) w w'/\kz w' g k x)) w2)
 refine kJ 13 [15,16] (v:=?_) (by kernel_rfl) (by kernel_rfl) (by kernel_rfl) (by kernel_rfl) (fun _ _ _ _ h=>h) iP ?_ ?_
 rotate_left
 ·(intro oi ho;simp at ho;subst ho;refine Or.inl ⟨by rfl,fun w' br=>?_⟩;go_simp;try with_reducible rfl)
 (intro d hd;simp at hd;subst hd;simp only [Act.put,List.setIfInBounds_toArray,List.set_cons_zero,List.set_cons_succ])
 refine kJ 14 [15,16] (v:=?_) (by kernel_rfl) (by kernel_rfl) (by kernel_rfl) (by kernel_rfl) (fun _ _ _ _ h=>h) iP ?_ ?_
 rotate_left
 ·(intro oi ho;simp at ho;subst ho;refine Or.inl ⟨by rfl,fun w' br=>?_⟩;go_simp;try with_reducible rfl)
 (intro d hd;simp at hd;subst hd;simp only [Act.put,List.setIfInBounds_toArray,List.set_cons_zero,List.set_cons_succ])
 (refine on 15 ?_;intro o ho K' hK;simp at ho;subst ho;go_simp)
 (refine hK.out _ _ (fun _=>(Or.inr ⟨nX,h2⟩:(fun w'=>Below w.heap.size w w'\/(But (· = g) w w'/\kz w' g k x)) w2)) ?_;clear hK K';try simp only [pQ,pN,pZ,pS])
 (refine on 16 ?_;intro o ho K' hK;simp at ho;subst ho;go_simp)
 (refine hK.out _ _ (fun _=>(Or.inr ⟨nX,h2⟩:(fun w'=>Below w.heap.size w w'\/(But (· = g) w w'/\kz w' g k x)) w2)) ?_;clear hK K';try simp only [pQ,pN,pZ,pS])
 refine kL (by kernel_rfl) (NoPanic.normal ?_) _
 have H2:=g_ (hU nX h2)
 clear bY h2 dT nX bq
 go_wp2_with fail
 go_ret2
 exact ⟨rfl,H2.out.1,H2.out.2⟩
theorem term_deed (g:Nat) (k t out:Bs) (w:World) (h:kz w g k t) (CT:∀ y,Below w.heap.size w y->Calls Tryz.prog 5 #[str k,str t] y fun en w'=>en=.returned (.tuple #[str out,.bool true])/\Below y.heap.size y w') :
 Calls Tryz.prog 84 #[.pointer (some ⟨g,0,none⟩),str []] w (go g out k t w):=by
 have C:=g_ CT
 have KEY:=g_ (fun (y:World) (hy:Below w.heap.size w y)=>(show y.cell? ⟨g,0,none⟩=some (str k)/\y.cell? ⟨g,1,none⟩=some (str t) from ⟨(h.below hy).cells.1,(h.below hy).cells.2.1⟩))
 have H:=g_ h
 clear h CT
 go_enter Tryz.func84,Tryz.ntmps84
 go_upto_region 1 with (fail)
 refine wp_region_noPanic ?_
 refine kT (fun w'=>Below w.heap.size w w') (fun _=>false) (by kernel_rfl) ?_
 have bq:(fun w'=>Below w.heap.size w w') w.drew:=Below.drew (bZ _ _)
 refine tk [0,1,2,3,4,5,6,7] bq ?_
 (intro d hd;simp [tkD] at hd;subst hd;simp only [tks,pQ,pZ,pS])
 iterate 8 (refine ⟨?_,?_,?_⟩;rotate_left;· (intro oi ho;simp at ho;subst ho;refine Or.inl ⟨by rfl,fun w' br=>?_⟩;obtain ⟨e0,e1⟩:=KEY.out w' br;go_simp;try with_reducible rfl))
 (refine on 8 ?_;intro o ho K' hK;simp at ho;subst ho;go_simp)
 go_at_call 5
 (with_reducible refine (C.out _ bq).mono ?_)
 rintro en w1 ⟨rfl,bU⟩
 have dT:Below w.heap.size w w1:=Below.trans bq (bU.mono (Below.size bq))
 clear bU
 (refine hK.out _ _ (fun _=>dT) ?_;clear hK K';try simp only [pQ,pN,pZ,pS])
 have hS8:=dT
 refine tk [9,10] hS8 ?_
 (intro d hd;simp [tkD] at hd;subst hd;simp only [tks,pQ,pZ,pS])
 iterate 2 (refine ⟨?_,?_,?_⟩;rotate_left;· (intro oi ho;simp at ho;subst ho;refine Or.inl ⟨by rfl,fun w' br=>?_⟩;go_simp;try with_reducible rfl))
 (refine on 11 ?_;intro o ho K' hK;simp at ho;subst ho;go_simp)
 (refine hK.out _ _ (fun _=>dT) ?_;clear hK K';try simp only [pQ,pN,pZ,pS])
 (refine on 12 ?_;intro o ho K' hK;simp at ho;subst ho;go_simp)
 (refine hK.out _ _ (fun _=>dT) ?_;clear hK K';try simp only [pQ,pN,pZ,pS])
 refine kL (by kernel_rfl) (NoPanic.normal ?_) _
 have H2:=g_ (hU (But.ofBelow (m:=(· = g)) dT) (H.out.below dT))
 clear dT bq
 go_wp2_with fail
 go_ret2
 exact ⟨rfl,H2.out.1,H2.out.2⟩
def cmd0:Value:=.agg #[.bool true,.func (.func 76) #[] #[]]
def cmd1:Value:=.agg #[.bool true,.func (.func 77) #[] #[]]
def cmd2:Value:=.agg #[.bool true,.func (.func 78) #[] #[]]
def cmd3:Value:=.agg #[.bool true,.func (.func 79) #[] #[]]
def cmd4:Value:=.agg #[.bool true,.func (.func 80) #[] #[]]
def cmd5:Value:=.agg #[.bool false,.func (.func 81) #[] #[]]
def cmd6:Value:=.agg #[.bool false,.func (.func 82) #[] #[]]
def cmd7:Value:=.agg #[.bool false,.func (.func 83) #[] #[]]
def cmd8:Value:=.agg #[.bool false,.func (.func 84) #[] #[]]
def cmd9:Value:=.agg #[.bool false,.func (.func 85) #[] #[]]
def cmd10:Value:=.agg #[.bool true,.func (.func 86) #[] #[]]
def cmd11:Value:=.agg #[.bool true,.func (.func 87) #[] #[]]
def ye:List Value:=[cmd0,cmd1,cmd2,cmd3,cmd4,cmd5,cmd6,cmd7,cmd8,cmd9,cmd10,cmd11]
open Classical in
noncomputable def cmdR (v:Value):Option (DataW Unit×List MemPlace):=(ye.findIdx? fun c=>decide (c=v)).map fun i=>(.lit (.int .i64 (i:Nat)),[])
theorem jB {c:Value} (h:c∈ye):∃ n:Nat,cmdR c=some (.lit (.int .i64 (n:Nat)),[])/\∀ v ps,cmdR v=some (.lit (.int .i64 (n:Nat)),ps)->v=c:=by
 classical
 unfold cmdR
 cases hf:ye.findIdx? (fun d=>decide (d=c)) with
 | none =>
   rw [List.findIdx?_eq_none_iff] at hf
   have:=hf c h
   simp at this
 | some i =>
   refine ⟨i,rfl,fun v ps hv=>?_⟩
   rw [List.findIdx?_eq_some_iff_getElem] at hf
   obtain ⟨hi,h1,_⟩:=hf
   rw [Option.map_eq_some_iff] at hv
   obtain ⟨j,hj,e⟩:=hv
   simp only [Prod.mk.injEq,DataW.lit.injEq,Lit.int.injEq,true_and] at e
   obtain rfl:j=i:=by omega
   rw [List.findIdx?_eq_some_iff_getElem] at hj
   obtain ⟨hj1,h2,_⟩:=hj
   simp only [decide_eq_true_eq] at h1 h2
   rw [<- h2,h1]
theorem jR {H:Type} {P:Program} {k t e:TypeId} {R:Value->Option (DataW H×List MemPlace)} {w:World} {b n:Nat} {D:DataW H} (h:w.ownsMap P k R b n D) (K:Maps.Keyed P k) (ht:P.underlying t=some (.map k e)) {z:Value} (hz:(zeroValue e).run P w=.ok z w)
 {key:Value} {kl:Lit} (ri:keyOf P k key=some kl) {d:DataW H} (bL:∀ zd,D.atKey kl zd=d):∃ v ps,(Instr.lookup t (.map (some b)) key true).run P w=.ok (.tuple #[v,.bool true]) w/\R v=some (d,ps):=by
 obtain ⟨es,clock,hb,F,_,rfl⟩:=h
 rcases Maps.fit_look true K ht hz hb F ri with ⟨_,_,h3⟩ | ⟨e0,y,_,_,eM,hRv,h4,_⟩
 ·have h1:=h3 (.lit (.bool true))
  have h2:=h3 (.lit (.bool false))
  rw [bL] at h1 h2
  rw [h1] at h2
  simp at h2
 ·have h1:=h4 (.lit (.bool true))
  rw [bL] at h1
  refine ⟨e0.val,y.2,eM,?_⟩
  rw [hRv,h1]
theorem zn {a b:Bs} (h:a≠b):Lit.string a≠Lit.string b:=by simpa using h
def vd (w:World) (b:Nat) (x:Bs) (c:Value):Prop:=(Instr.lookup 113 (.map (some b)) (str x) true).run Tryz.prog w=.ok (.tuple #[c,.bool true]) w
theorem pA (w:World):(zeroValue 111).run Tryz.prog w=.ok (.agg #[.bool false,.nilFunc]) w:=by kernel_rfl
set_option maxRecDepth 100000 in
theorem uT (w:World):Calls Tryz.prog 56 #[] w fun en w'=>∃ b,en=.returned (.map (some b))/\Below w.heap.size w w'/\vd w' b [116,121,112,101] cmd0/\vd w' b [115,101,116] cmd1/\vd w' b [109,101,97,110] cmd2/\vd w' b [97,112,112,108,121] cmd4/\vd w' b [115,104,111,119] cmd6/\vd w' b [107,105,110,100] cmd7/\vd w' b [116,101,114,109] cmd8:=by
 obtain ⟨n0,r0,u0⟩:=jB (c:=cmd0) (by simp [ye])
 obtain ⟨n1,r1,u1⟩:=jB (c:=cmd1) (by simp [ye])
 obtain ⟨n2,r2,u2⟩:=jB (c:=cmd2) (by simp [ye])
 obtain ⟨n3,r3,u3⟩:=jB (c:=cmd3) (by simp [ye])
 obtain ⟨n4,r4,u4⟩:=jB (c:=cmd4) (by simp [ye])
 obtain ⟨n5,r5,u5⟩:=jB (c:=cmd5) (by simp [ye])
 obtain ⟨n6,r6,u6⟩:=jB (c:=cmd6) (by simp [ye])
 obtain ⟨n7,r7,u7⟩:=jB (c:=cmd7) (by simp [ye])
 obtain ⟨n8,r8,u8⟩:=jB (c:=cmd8) (by simp [ye])
 obtain ⟨n9,r9,u9⟩:=jB (c:=cmd9) (by simp [ye])
 obtain ⟨n10,r10,u10⟩:=jB (c:=cmd10) (by simp [ye])
 obtain ⟨n11,r11,u11⟩:=jB (c:=cmd11) (by simp [ye])
 have HN0:=g_ (hU r0 u0)
 have HN1:=g_ (hU r1 u1)
 have rU:=g_ (hU r2 u2)
 have eP:=g_ (hU r3 u3)
 have HN4:=g_ (hU r4 u4)
 have iL:=g_ (hU r5 u5)
 have ec:=g_ (hU r6 u6)
 have iA:=g_ (hU r7 u7)
 have mO:=g_ (hU r8 u8)
 have mX:=g_ (hU r9 u9)
 have HN10:=g_ (hU r10 u10)
 have HN11:=g_ (hU r11 u11)
 clear r0 u0 r1 u1 r2 u2 r3 u3 r4 u4 r5 u5 r6 u6 r7 u7 r8 u8 r9 u9 r10 u10 r11 u11
 have K0:=g_ (yT (s:=[116,121,112,101]) (by unfold Lim;decide))
 have K1:=g_ (yT (s:=[115,101,116]) (by unfold Lim;decide))
 have K2:=g_ (yT (s:=[109,101,97,110]) (by unfold Lim;decide))
 have K3:=g_ (yT (s:=[99,111,112,121]) (by unfold Lim;decide))
 have K4:=g_ (yT (s:=[97,112,112,108,121]) (by unfold Lim;decide))
 have K5:=g_ (yT (s:=[114,117,110]) (by unfold Lim;decide))
 have K6:=g_ (yT (s:=[115,104,111,119]) (by unfold Lim;decide))
 have K7:=g_ (yT (s:=[107,105,110,100]) (by unfold Lim;decide))
 have K8:=g_ (yT (s:=[116,101,114,109]) (by unfold Lim;decide))
 have K9:=g_ (yT (s:=[118,105,101,119,115]) (by unfold Lim;decide))
 have K10:=g_ (yT (s:=[112,108,97,121,115]) (by unfold Lim;decide))
 have K11:=g_ (yT (s:=[99,111,117,110,116]) (by unfold Lim;decide))
 have made:(w.alloc (.map #[] 0)).ownsMap Tryz.prog 9 cmdR w.heap.size 0 (.map []):=World.ownsMap_made _ _ _ _
 have MADE:=g_ made
 clear made
 have hmm:=@run_makeMap Tryz.prog
 go_enter Tryz.func56,Tryz.ntmps56
 go_wp2_with (refine zL (H:=Unit) _ rfl _ _ _ 113 rfl 9 111 Tryz.lawS Tryz.underlying113 cmdR w.heap.size 0 _ rfl MADE.out (by unfold maxLen;omega) _ cmd0 _ rfl rfl K0.out _ [] HN0.out.1 ?_)
 intro w1 h1 g1
 have hh1:=g_ h1;have gg1:=g_ g1;clear h1 g1
 go_wp2_with (refine zL (H:=Unit) _ rfl _ _ _ 113 rfl 9 111 Tryz.lawS Tryz.underlying113 cmdR w.heap.size 1 _ rfl hh1.out (by unfold maxLen;omega) _ cmd1 _ rfl rfl K1.out _ [] HN1.out.1 ?_)
 intro w2 h2 g2
 have hh2:=g_ h2;have gg2:=g_ g2;clear h2 g2
 go_wp2_with (refine zL (H:=Unit) _ rfl _ _ _ 113 rfl 9 111 Tryz.lawS Tryz.underlying113 cmdR w.heap.size 2 _ rfl hh2.out (by unfold maxLen;omega) _ cmd2 _ rfl rfl K2.out _ [] rU.out.1 ?_)
 intro w3 h3 g3
 have hh3:=g_ h3;have gg3:=g_ g3;clear h3 g3
 go_wp2_with (refine zL (H:=Unit) _ rfl _ _ _ 113 rfl 9 111 Tryz.lawS Tryz.underlying113 cmdR w.heap.size 3 _ rfl hh3.out (by unfold maxLen;omega) _ cmd3 _ rfl rfl K3.out _ [] eP.out.1 ?_)
 intro w4 h4 g4
 have hh4:=g_ h4;have gg4:=g_ g4;clear h4 g4
 go_wp2_with (refine zL (H:=Unit) _ rfl _ _ _ 113 rfl 9 111 Tryz.lawS Tryz.underlying113 cmdR w.heap.size 4 _ rfl hh4.out (by unfold maxLen;omega) _ cmd4 _ rfl rfl K4.out _ [] HN4.out.1 ?_)
 intro w5 h5 g5
 have hh5:=g_ h5;have gg5:=g_ g5;clear h5 g5
 go_wp2_with (refine zL (H:=Unit) _ rfl _ _ _ 113 rfl 9 111 Tryz.lawS Tryz.underlying113 cmdR w.heap.size 5 _ rfl hh5.out (by unfold maxLen;omega) _ cmd5 _ rfl rfl K5.out _ [] iL.out.1 ?_)
 intro w6 h6 g6
 have hh6:=g_ h6;have gg6:=g_ g6;clear h6 g6
 go_wp2_with (refine zL (H:=Unit) _ rfl _ _ _ 113 rfl 9 111 Tryz.lawS Tryz.underlying113 cmdR w.heap.size 6 _ rfl hh6.out (by unfold maxLen;omega) _ cmd6 _ rfl rfl K6.out _ [] ec.out.1 ?_)
 intro w7 h7 g7
 have hh7:=g_ h7;have gg7:=g_ g7;clear h7 g7
 go_wp2_with (refine zL (H:=Unit) _ rfl _ _ _ 113 rfl 9 111 Tryz.lawS Tryz.underlying113 cmdR w.heap.size 7 _ rfl hh7.out (by unfold maxLen;omega) _ cmd7 _ rfl rfl K7.out _ [] iA.out.1 ?_)
 intro w8 h8 g8
 have hh8:=g_ h8;have gg8:=g_ g8;clear h8 g8
 go_wp2_with (refine zL (H:=Unit) _ rfl _ _ _ 113 rfl 9 111 Tryz.lawS Tryz.underlying113 cmdR w.heap.size 8 _ rfl hh8.out (by unfold maxLen;omega) _ cmd8 _ rfl rfl K8.out _ [] mO.out.1 ?_)
 intro w9 h9 g9
 have hh9:=g_ h9;have gg9:=g_ g9;clear h9 g9
 go_wp2_with (refine zL (H:=Unit) _ rfl _ _ _ 113 rfl 9 111 Tryz.lawS Tryz.underlying113 cmdR w.heap.size 9 _ rfl hh9.out (by unfold maxLen;omega) _ cmd9 _ rfl rfl K9.out _ [] mX.out.1 ?_)
 intro w10 iF g10
 have hh10:=g_ iF;have gg10:=g_ g10;clear iF g10
 go_wp2_with (refine zL (H:=Unit) _ rfl _ _ _ 113 rfl 9 111 Tryz.lawS Tryz.underlying113 cmdR w.heap.size 10 _ rfl hh10.out (by unfold maxLen;omega) _ cmd10 _ rfl rfl K10.out _ [] HN10.out.1 ?_)
 intro w11 h11 g11
 have hh11:=g_ h11;have gg11:=g_ g11;clear h11 g11
 go_wp2_with (refine zL (H:=Unit) _ rfl _ _ _ 113 rfl 9 111 Tryz.lawS Tryz.underlying113 cmdR w.heap.size 11 _ rfl hh11.out (by unfold maxLen;omega) _ cmd11 _ rfl rfl K11.out _ [] HN11.out.1 ?_)
 intro nC h12 g12
 have eI:=g_ h12;have gg12:=g_ g12;clear h12 g12
 have i0:Maps.IsMap (DataW.map []:DataW Unit):=Maps.isMap_empty
 have ne:But (fun i=>i=w.heap.size) (w.alloc (.map #[] 0)) nC:=((((((((((((But.ofGrown gg1.out).weak (m':=fun i=>i=w.heap.size) (fun i _ h=>by simpa using h)).trans ((But.ofGrown gg2.out).weak (m':=fun i=>i=w.heap.size) (fun i _ h=>by simpa using h))).trans ((But.ofGrown gg3.out).weak (m':=fun i=>i=w.heap.size) (fun i _ h=>by simpa using h))).trans ((But.ofGrown gg4.out).weak (m':=fun i=>i=w.heap.size) (fun i _ h=>by simpa using h))).trans ((But.ofGrown gg5.out).weak (m':=fun i=>i=w.heap.size) (fun i _ h=>by simpa using h))).trans ((But.ofGrown gg6.out).weak (m':=fun i=>i=w.heap.size) (fun i _ h=>by simpa using h))).trans ((But.ofGrown gg7.out).weak (m':=fun i=>i=w.heap.size) (fun i _ h=>by simpa using h))).trans ((But.ofGrown gg8.out).weak (m':=fun i=>i=w.heap.size) (fun i _ h=>by simpa using h))).trans ((But.ofGrown gg9.out).weak (m':=fun i=>i=w.heap.size) (fun i _ h=>by simpa using h))).trans ((But.ofGrown gg10.out).weak (m':=fun i=>i=w.heap.size) (fun i _ h=>by simpa using h))).trans ((But.ofGrown gg11.out).weak (m':=fun i=>i=w.heap.size) (fun i _ h=>by simpa using h))).trans ((But.ofGrown gg12.out).weak (m':=fun i=>i=w.heap.size) (fun i _ h=>by simpa using h))
 have HB:=g_ (((bZ w.heap.size w).alloc (hG _) _).trans (ne.toBelow (by rw [zQ];omega) fun i hi e=>by omega))
 obtain ⟨v0,p0,nq,nV⟩:=jR eI.out Tryz.lawS Tryz.underlying113 (pA _) K0.out (d:=.lit (.int .i64 (n0:Nat))) (fun zd=>by rw [Maps.atKey_put_other (zn (by decide)),Maps.atKey_put_other (zn (by decide)),Maps.atKey_put_other (zn (by decide)),Maps.atKey_put_other (zn (by decide)),Maps.atKey_put_other (zn (by decide)),Maps.atKey_put_other (zn (by decide)),Maps.atKey_put_other (zn (by decide)),Maps.atKey_put_other (zn (by decide)),Maps.atKey_put_other (zn (by decide)),Maps.atKey_put_other (zn (by decide)),Maps.atKey_put_other (zn (by decide)),Maps.atKey_put_same i0 (by simp [WideAt.IsKeyLit])])
 obtain rfl:v0=cmd0:=HN0.out.2 _ _ nV
 have T0:Hid (vd nC w.heap.size [116,121,112,101] cmd0):=nq
 clear nq nV
 obtain ⟨v1,p1,nz,hR1⟩:=jR eI.out Tryz.lawS Tryz.underlying113 (pA _) K1.out (d:=.lit (.int .i64 (n1:Nat))) (fun zd=>by rw [Maps.atKey_put_other (zn (by decide)),Maps.atKey_put_other (zn (by decide)),Maps.atKey_put_other (zn (by decide)),Maps.atKey_put_other (zn (by decide)),Maps.atKey_put_other (zn (by decide)),Maps.atKey_put_other (zn (by decide)),Maps.atKey_put_other (zn (by decide)),Maps.atKey_put_other (zn (by decide)),Maps.atKey_put_other (zn (by decide)),Maps.atKey_put_other (zn (by decide)),Maps.atKey_put_same (i0.put _ _) (by simp [WideAt.IsKeyLit])])
 obtain rfl:v1=cmd1:=HN1.out.2 _ _ hR1
 have T1:Hid (vd nC w.heap.size [115,101,116] cmd1):=nz
 clear nz hR1
 obtain ⟨v2,p2,nO,hR2⟩:=jR eI.out Tryz.lawS Tryz.underlying113 (pA _) K2.out (d:=.lit (.int .i64 (n2:Nat))) (fun zd=>by rw [Maps.atKey_put_other (zn (by decide)),Maps.atKey_put_other (zn (by decide)),Maps.atKey_put_other (zn (by decide)),Maps.atKey_put_other (zn (by decide)),Maps.atKey_put_other (zn (by decide)),Maps.atKey_put_other (zn (by decide)),Maps.atKey_put_other (zn (by decide)),Maps.atKey_put_other (zn (by decide)),Maps.atKey_put_other (zn (by decide)),Maps.atKey_put_same ((i0.put _ _).put _ _) (by simp [WideAt.IsKeyLit])])
 obtain rfl:v2=cmd2:=rU.out.2 _ _ hR2
 have T2:Hid (vd nC w.heap.size [109,101,97,110] cmd2):=nO
 clear nO hR2
 obtain ⟨v4,p4,nI,hR4⟩:=jR eI.out Tryz.lawS Tryz.underlying113 (pA _) K4.out (d:=.lit (.int .i64 (n4:Nat))) (fun zd=>by rw [Maps.atKey_put_other (zn (by decide)),Maps.atKey_put_other (zn (by decide)),Maps.atKey_put_other (zn (by decide)),Maps.atKey_put_other (zn (by decide)),Maps.atKey_put_other (zn (by decide)),Maps.atKey_put_other (zn (by decide)),Maps.atKey_put_other (zn (by decide)),Maps.atKey_put_same ((((i0.put _ _).put _ _).put _ _).put _ _) (by simp [WideAt.IsKeyLit])])
 obtain rfl:v4=cmd4:=HN4.out.2 _ _ hR4
 have T4:Hid (vd nC w.heap.size [97,112,112,108,121] cmd4):=nI
 clear nI hR4
 obtain ⟨v6,p6,nL,hR6⟩:=jR eI.out Tryz.lawS Tryz.underlying113 (pA _) K6.out (d:=.lit (.int .i64 (n6:Nat))) (fun zd=>by rw [Maps.atKey_put_other (zn (by decide)),Maps.atKey_put_other (zn (by decide)),Maps.atKey_put_other (zn (by decide)),Maps.atKey_put_other (zn (by decide)),Maps.atKey_put_other (zn (by decide)),Maps.atKey_put_same ((((((i0.put _ _).put _ _).put _ _).put _ _).put _ _).put _ _) (by simp [WideAt.IsKeyLit])])
 obtain rfl:v6=cmd6:=ec.out.2 _ _ hR6
 have T6:Hid (vd nC w.heap.size [115,104,111,119] cmd6):=nL
 clear nL hR6
 obtain ⟨v7,p7,nA,hR7⟩:=jR eI.out Tryz.lawS Tryz.underlying113 (pA _) K7.out (d:=.lit (.int .i64 (n7:Nat))) (fun zd=>by rw [Maps.atKey_put_other (zn (by decide)),Maps.atKey_put_other (zn (by decide)),Maps.atKey_put_other (zn (by decide)),Maps.atKey_put_other (zn (by decide)),Maps.atKey_put_same (((((((i0.put _ _).put _ _).put _ _).put _ _).put _ _).put _ _).put _ _) (by simp [WideAt.IsKeyLit])])
 obtain rfl:v7=cmd7:=iA.out.2 _ _ hR7
 have T7:Hid (vd nC w.heap.size [107,105,110,100] cmd7):=nA
 clear nA hR7
 obtain ⟨v8,p8,nT,hR8⟩:=jR eI.out Tryz.lawS Tryz.underlying113 (pA _) K8.out (d:=.lit (.int .i64 (n8:Nat))) (fun zd=>by rw [Maps.atKey_put_other (zn (by decide)),Maps.atKey_put_other (zn (by decide)),Maps.atKey_put_other (zn (by decide)),Maps.atKey_put_same ((((((((i0.put _ _).put _ _).put _ _).put _ _).put _ _).put _ _).put _ _).put _ _) (by simp [WideAt.IsKeyLit])])
 obtain rfl:v8=cmd8:=mO.out.2 _ _ hR8
 have T8:Hid (vd nC w.heap.size [116,101,114,109] cmd8):=nT
 clear nT hR8
 clear ne i0
 go_wp2_with fail
 go_ret
 exact ⟨w.heap.size,rfl,HB.out,T0.out,T1.out,T2.out,T4.out,T6.out,T7.out,T8.out⟩
def uy (w:World):Prop:=∃ m:Int,w.cell? ⟨0,0,none⟩=some (.int .i64 m)
theorem uy.below {w w':World} (h:uy w) (hb:Below w.heap.size w w'):uy w':=by
 obtain ⟨m,hm⟩:=h
 exact ⟨m,(hb.cell (h_ _ _ hm)).trans hm⟩
theorem gu {l a b:Bs} {f:Bool} (hl:l.length<=1000000) (hc:Lib.cut l [32]=(a,b,f)) (w:World) (hm:uy w) :
 Calls Tryz.prog 55 #[str l,str [32]] w fun en w'=>en=.returned (.tuple #[str a,str b,.bool f])/\Below w.heap.size w w':=by
 obtain ⟨m,hm⟩:=hm
 refine (Tryz.strings_Cut ⟨l.toArray⟩ ⟨#[32]⟩ m w (by rw [jv];omega) hm).mono ?_
 rintro en w' ⟨rfl,n,rfl⟩
 refine ⟨?_,pK (bZ _ _) n⟩
 show _=Ending.returned (.tuple #[str (a,b,f).1,str (a,b,f).2.1,.bool (a,b,f).2.2])
 rw [<- hc]
theorem cells_N {w:World} {b:Nat} {x y:Value} {T:TypeId} (h:w.heap[b]? = some (.cells #[x,y] T (0,0))):w.cell? ⟨b,0,none⟩=some x/\w.cell? ⟨b,1,none⟩=some y/\w.frozen? ⟨b,0,none⟩=false/\w.frozen? ⟨b,1,none⟩=false :=
 ⟨by simp [World.cell?,h],by simp [World.cell?,h],by simp [World.frozen?,h],by simp [World.frozen?,h]⟩
theorem box_N (w:World) (A:Obj):∃ W,w.alloc A=W/\Below w.heap.size w W/\W.heap.size=w.heap.size+1/\W.heap[w.heap.size]? = some A :=
 ⟨_,rfl,(bZ _ _).alloc (hG _) _,by rw [zQ],zO _ _⟩
def LineQ (g:Nat) (ans:Bs) (k t:Bs) (w:World) (en:Ending) (w':World):Prop:=en=.returned (str ans)/\But (· = g) w w'/\kz w' g k t
set_option maxRecDepth 100000 in
theorem line_type (g:Nat) (k t ans k' t':Bs) (l rest:Bs) (w:World) (h:kz w g k t) (hm:uy w) (hl:l.length<=1000000) (hc:Lib.cut l [32]=([116,121,112,101],rest,true))
 (C:∀ y,Below w.heap.size w y->Calls Tryz.prog 76 #[.pointer (some ⟨g,0,none⟩),str rest] y (go g ans k' t' y)) :
 Calls Tryz.prog 25 #[.pointer (some ⟨g,0,none⟩),str l] w (LineQ g ans k' t' w):=by
 have CU:=g_ (gu hl hc w hm)
 have CC:=g_ C
 have H:=g_ h
 clear C hc hm h hl
 go_enter Tryz.func25,Tryz.ntmps25
 go_wp2_with fail
 (with_reducible refine CU.out.mono ?_)
 rintro en w1 ⟨rfl,bU⟩
 have bx:=g_ bU
 clear bU CU
 go_wp2_with fail
 refine (uT w1).mono ?_
 rintro en w2 ⟨bm,rfl,bY,Ttype,_,_,_,_,_,_⟩
 have cX:=g_ (zzT bx.out bY)
 have Ttype:(Instr.lookup 113 (.map (some bm)) (str [116,121,112,101]) true).run Tryz.prog w2=.ok (.tuple #[cmd0,.bool true]) w2:=Ttype
 unfold cmd0 at Ttype
 clear bY
 obtain ⟨W,hW,bE,hz,x0⟩:=box_N w2 (.cells #[.bool true,.func (.func 76) #[] #[]] 111)
 have ch:=g_ (zzT cX.out bE)
 have HW:=g_ hW
 obtain ⟨c0,c1,_,_⟩:=cells_N x0
 have C2:=g_ (CC.out W ch.out)
 clear hW bE hz x0 CC
 go_upto_region 3 with (fail)
 rw [HW.out]
 clear Ttype
 go_wp2_with fail
 (with_reducible refine C2.out.mono ?_)
 rintro en w3 ⟨rfl,bH,h3⟩
 have HF:=g_ (hU ((But.ofBelow ch.out).trans bH) h3)
 clear bH h3 C2 c0 c1
 go_wp2_with fail
 go_ret
 exact ⟨rfl,HF.out.1,HF.out.2⟩
set_option maxRecDepth 100000 in
theorem line_set (g:Nat) (k t ans k' t':Bs) (l rest:Bs) (w:World) (h:kz w g k t) (hm:uy w) (hl:l.length<=1000000) (hc:Lib.cut l [32]=([115,101,116],rest,true))
 (C:∀ y,Below w.heap.size w y->Calls Tryz.prog 77 #[.pointer (some ⟨g,0,none⟩),str rest] y (go g ans k' t' y)) :
 Calls Tryz.prog 25 #[.pointer (some ⟨g,0,none⟩),str l] w (LineQ g ans k' t' w):=by
 have CU:=g_ (gu hl hc w hm)
 have CC:=g_ C
 have H:=g_ h
 clear C hc hm h hl
 go_enter Tryz.func25,Tryz.ntmps25
 go_wp2_with fail
 (with_reducible refine CU.out.mono ?_)
 rintro en w1 ⟨rfl,bU⟩
 have bx:=g_ bU
 clear bU CU
 go_wp2_with fail
 refine (uT w1).mono ?_
 rintro en w2 ⟨bm,rfl,bY,_,Tset,_,_,_,_,_⟩
 have cX:=g_ (zzT bx.out bY)
 have Tset:(Instr.lookup 113 (.map (some bm)) (str [115,101,116]) true).run Tryz.prog w2=.ok (.tuple #[cmd1,.bool true]) w2:=Tset
 unfold cmd1 at Tset
 clear bY
 obtain ⟨W,hW,bE,hz,x0⟩:=box_N w2 (.cells #[.bool true,.func (.func 77) #[] #[]] 111)
 have ch:=g_ (zzT cX.out bE)
 have HW:=g_ hW
 obtain ⟨c0,c1,_,_⟩:=cells_N x0
 have C2:=g_ (CC.out W ch.out)
 clear hW bE hz x0 CC
 go_upto_region 3 with (fail)
 rw [HW.out]
 clear Tset
 go_wp2_with fail
 (with_reducible refine C2.out.mono ?_)
 rintro en w3 ⟨rfl,bH,h3⟩
 have HF:=g_ (hU ((But.ofBelow ch.out).trans bH) h3)
 clear bH h3 C2 c0 c1
 go_wp2_with fail
 go_ret
 exact ⟨rfl,HF.out.1,HF.out.2⟩
set_option maxRecDepth 100000 in
theorem line_term (g:Nat) (k t ans k' t':Bs) (l rest:Bs) (w:World) (h:kz w g k t) (hm:uy w) (hl:l.length<=1000000) (hc:Lib.cut l [32]=([116,101,114,109],rest,false))
 (C:∀ y,Below w.heap.size w y->Calls Tryz.prog 84 #[.pointer (some ⟨g,0,none⟩),str rest] y (go g ans k' t' y)) :
 Calls Tryz.prog 25 #[.pointer (some ⟨g,0,none⟩),str l] w (LineQ g ans k' t' w):=by
 have CU:=g_ (gu hl hc w hm)
 have CC:=g_ C
 have H:=g_ h
 clear C hc hm h hl
 go_enter Tryz.func25,Tryz.ntmps25
 go_wp2_with fail
 (with_reducible refine CU.out.mono ?_)
 rintro en w1 ⟨rfl,bU⟩
 have bx:=g_ bU
 clear bU CU
 go_wp2_with fail
 refine (uT w1).mono ?_
 rintro en w2 ⟨bm,rfl,bY,_,_,_,_,_,_,Tterm⟩
 have cX:=g_ (zzT bx.out bY)
 have Tterm:(Instr.lookup 113 (.map (some bm)) (str [116,101,114,109]) true).run Tryz.prog w2=.ok (.tuple #[cmd8,.bool true]) w2:=Tterm
 unfold cmd8 at Tterm
 clear bY
 obtain ⟨W,hW,bE,hz,x0⟩:=box_N w2 (.cells #[.bool false,.func (.func 84) #[] #[]] 111)
 have ch:=g_ (zzT cX.out bE)
 have HW:=g_ hW
 obtain ⟨c0,c1,_,_⟩:=cells_N x0
 have C2:=g_ (CC.out W ch.out)
 clear hW bE hz x0 CC
 go_upto_region 3 with (fail)
 rw [HW.out]
 clear Tterm
 go_wp2_with fail
 (with_reducible refine C2.out.mono ?_)
 rintro en w3 ⟨rfl,bH,h3⟩
 have HF:=g_ (hU ((But.ofBelow ch.out).trans bH) h3)
 clear bH h3 C2 c0 c1
 go_wp2_with fail
 go_ret
 exact ⟨rfl,HF.out.1,HF.out.2⟩
def Tryz.layW_ren:Go.Shelf.Ren:=⟨fun | 166=>24 | 240=>54 | 276=>74 | n=>n,fun | 0=>0 | 3=>3 | 4=>4 | 5=>5 | 9=>9 | 20=>20 | 37=>22 | 70=>66 | 72=>68 | 75=>70 | 80=>75 | 164=>136 | n=>n,fun | n=>n⟩
theorem Tryz.layW:Go.Proofs.Lays.n166 Tryz.prog Tryz.layW_ren:={
 mixed:=by kernel_rfl
 f166:=Tryz.func24.trans (congrArg some (by kernel_rfl))
 f240:=Tryz.func54.trans (congrArg some (by kernel_rfl))
 f276:=Tryz.func74.trans (congrArg some (by kernel_rfl))
 t0:=Tryz.underlying0
 a0:=Tryz.isAgg0
 z0:=Tryz.sizeOf0
 v0:=Tryz.zeroValue0
 t3:=Tryz.underlying3
 a3:=Tryz.isAgg3
 z3:=Tryz.sizeOf3
 v3:=Tryz.zeroValue3
 t4:=Tryz.underlying4
 a4:=Tryz.isAgg4
 z4:=Tryz.sizeOf4
 v4:=Tryz.zeroValue4
 t9:=Tryz.underlying9
 a9:=Tryz.isAgg9
 z9:=Tryz.sizeOf9
 v9:=Tryz.zeroValue9
 t20:=Tryz.underlying20
 a20:=Tryz.isAgg20
 z20:=Tryz.sizeOf20
 v20:=Tryz.zeroValue20
 t37:=Tryz.underlying22
 a37:=Tryz.isAgg22
 z37:=Tryz.sizeOf22
 v37:=Tryz.zeroValue22
 t70:=Tryz.underlying66
 a70:=Tryz.isAgg66
 z70:=Tryz.sizeOf66
 v70:=Tryz.zeroValue66
 t72:=Tryz.underlying68
 a72:=Tryz.isAgg68
 z72:=Tryz.sizeOf68
 v72:=Tryz.zeroValue68
 t75:=Tryz.underlying70
 a75:=Tryz.isAgg70
 z75:=Tryz.sizeOf70
 v75:=Tryz.zeroValue70
 t164:=Tryz.underlying136
 a164:=Tryz.isAgg136
 z164:=Tryz.sizeOf136
 v164:=Tryz.zeroValue136 }
theorem Tryz.layX:Builder.Extra Tryz.prog Tryz.layW_ren:={
 sizeBuilder:=by kernel_rfl
 liesBuilder:=by kernel_rfl
 t5:=Tryz.underlying5
 a5:=Tryz.isAgg5
 z5:=Tryz.sizeOf5
 v5:=Tryz.zeroValue5
 infoByte:=by kernel_rfl
 cellsByte:=by kernel_rfl
 sizeByte:=by kernel_rfl
 neB5:=by decide }
theorem itoa_decN (i:Nat):Lib.itoa (i:Int)=dec i:=by
 rw [dec_dd,Lib.itoa,if_neg (by omega)];rfl
theorem gU (ans:Nat->Bs):∀ n:Nat,(∀ j,j<n->(ans j).length<=1000000)->(xX ans n).length<=n*1000001
 | 0,_=>by simp [xX]
 | n+1,h=>by
   have h1:=gU ans n (fun j hj=>h j (by omega))
   have h2:=h n (by omega)
   rw [xX]
   simp only [List.length_append,List.length_cons,List.length_nil]
   rw [Nat.succ_mul];omega
theorem byteCells_app (a b:Bs):Lib.byteCells (a++b)=Lib.byteCells a++Lib.byteCells b:=by simp [Lib.byteCells]
theorem splitS_any {ls:List Bs} (hl:∀ l∈ls,(10:UInt8) ∉ l) (hn:(qS ls).length<=1000000) (w:World) (hm:uy w) :
 Calls Tryz.prog 23 #[str (qS ls),str [10]] w fun en w'=>en=.returned (.slice (some ⟨w.heap.size,0,none⟩) (ls.length+1) (ls.length+1))/\w'=w.alloc (.cells ((ls++[[]]).map str).toArray 9):=by
 obtain ⟨m,hm⟩:=hm
 refine (Tryz.strings_Split ⟨(qS ls).toArray⟩ ⟨#[10]⟩ m w (by rw [jv];omega) hm (by decide)).mono ?_
 rintro en w' ⟨rfl,rfl⟩
 rw [split_lines hl,w_ hl]
 refine ⟨rfl,?_⟩
 rw [List.map_map];rfl
abbrev Bld (B b:Nat) (l:Bs) (w:World):Prop:=Lib.IsBuilder 68 5 B b (Lib.byteCells l) w
theorem gp {T e:TypeId} {B b:Nat} {p:Value} {bs:List Value} {w w':World} (h:Lib.BuilderAt T e B b p bs w) (hk:∀ i x,B<=i->w.heap[i]? = some x->w'.heap[i]? = some x):Lib.BuilderAt T e B b p bs w':=by
 obtain ⟨hB,v,hb,bG,hne⟩:=h
 refine ⟨hB,v,hk _ _ hB hb,?_,hne⟩
 rcases bG.2 with h0 | ⟨g,cap,cur,e1,sh,hg,hr⟩
 ·exact ⟨bG.1,.inl h0⟩
 ·exact ⟨bG.1,.inr ⟨g,cap,cur,e1,sh,hk _ _ sh hg,hr⟩⟩
theorem Bld.keep {B b:Nat} {l:Bs} {w w':World} (h:Bld B b l w) (hk:∀ i x,B<=i->w.heap[i]? = some x->w'.heap[i]? = some x):Bld B b l w':=h.imp (fun h=>gp h hk) (fun h=>gp h hk)
theorem write_any (B b:Nat) (l s:Bs) (w:World) (h:Bld B b l w) (hn:l.length+s.length<=140737488355328) (hB:B<=w.heap.size) :
 Calls Tryz.prog 24 #[.pointer (some ⟨b,0,none⟩),str s] w fun en w'=>en=.returned (.tuple #[.int .i64 (s.length:Nat),.nilIface])/\Bld B b (l++s) w'/\Below B w w':=by
 refine (Any.Builder_WriteString Tryz.layW Tryz.layX B b (Lib.byteCells l) ⟨s.toArray⟩ w h (by rw [Lib.byteCells_length,jv];exact hn) hB).mono ?_
 rintro en w' ⟨rfl,h1,h2⟩
 refine ⟨by rw [jv],.inr ?_,h2⟩
 rw [byteCells_app]
 exact h1
theorem read_any (B b:Nat) (l:Bs) (w:World) (h:Bld B b l w) (hB:B<=w.heap.size) :
 Calls Tryz.prog 28 #[.pointer (some ⟨b,0,none⟩)] w fun en w'=>en=.returned (str l)/\Below B w w':=Tryz.Builder_String_any B b l w h hB
theorem wrap_lowN (x:Int) (h1 : -2000<=x) (h2:x<=1000000):IntKind.i64.wrap x=x:=by
 simp [IntKind.wrap,IntKind.bits,IntKind.signed];omega
structure ExI (W:World) (g blk b:Nat) (ls:List Bs) (st:Nat->Bs×Bs) (ans:Nat->Bs) (i:Nat) (wr:World):Prop where
 size:W.heap.size<=wr.heap.size
 keep:∀ j x,j≠g->j<b->W.heap[j]? = some x->wr.heap[j]? = some x
 os:wr.os=W.os/\wr.tape=W.tape/\wr.output=W.output
 desk:kz wr g (st i).1 (st i).2
 bld:Bld b b (xX ans i) wr
set_option maxRecDepth 100000 in
theorem execute_any (ls:List Bs) (st:Nat->Bs×Bs) (ans:Nat->Bs) (sz:Nat) (w:World) (hg:jA w) (hm:uy w) (hl:∀ l∈ls,(10:UInt8) ∉ l) (hn:(qS ls).length<=900) (h0:st 0=([98],[117])) (ha:∀ i,i<ls.length->(ans i).length<=1000000) (bN:sz<=1000)
 (HL:∀ i l,ls[i]? = some l->∀ g y,Below w.heap.size w y->w.heap.size<=g->kz y g (st i).1 (st i).2->Calls Tryz.prog 25 #[.pointer (some ⟨g,0,none⟩),str l] y (LineQ g (ans i) (st (i+1)).1 (st (i+1)).2 y))
 (HS:∀ y,Below w.heap.size w y->Calls Tryz.prog 27 #[str (st ls.length).1,str (st ls.length).2] y fun en w'=>en=.returned (.int .i64 (sz:Nat))/\Below y.heap.size y w') :
 Calls Tryz.prog 7 #[str (qS ls)] w fun en w'=>en=.returned (str (xX ans ls.length++([110,111,100,101,115,32]++dec sz++[10])))/\Below w.heap.size w w':=by
 have hnI:¬ (900:Int)<((qS ls).length:Int):=by omega
 have hll:=wX ls
 obtain ⟨X,hX,rZ,hzX,xd⟩:=box_N w (.cells #[str [98],str [117]] 63)
 have CS:=g_ (splitS_any hl (by omega) X (hm.below rZ))
 obtain ⟨Y,hY,se,hzY,xr⟩:=box_N X (.cells ((ls++[[]]).map str).toArray 9)
 obtain ⟨W,hW,bE,hzW,xb⟩:=box_N Y (.cells #[.pointer none,.slice none 0 0] 68)
 have sP:=zzT se bE
 have rC:Below w.heap.size w W:=zzT rZ sP
 have xd2:=(sP.block _ (zZ xd)).trans xd
 have xr2:=(bE.block _ (zZ xr)).trans xr
 rw [hzX] at xr2 hzY
 rw [hzY] at xb hzW
 have ni:Bld (w.heap.size+1+1) (w.heap.size+1+1) [] W:=.inl ⟨hG _,.slice none 0 0,xb,World.ownsRow_nil _ _ _ _,by simp [Value.ownBlock]⟩
 have bT:ExI W w.heap.size (w.heap.size+1) (w.heap.size+1+1) ls st ans 0 W:=⟨hG _,fun _ _ _ _ h=>h,⟨rfl,rfl,rfl⟩,by rw [h0];exact xd2,ni⟩
 have HX:=g_ hX
 have HY:=g_ hY
 have HW:=g_ (hU hW (hU rC xr2))
 have HLL:=g_ HL
 have HSS:=g_ HS
 have HG:=g_ hg
 have HA:=g_ ha
 have KY:Hid (∀ i y,ExI W w.heap.size (w.heap.size+1) (w.heap.size+1+1) ls st ans i y->Below w.heap.size w y/\∀ k l,ls[k]? = some l->y.cell? ⟨w.heap.size+1,k,none⟩=some (str l)):=g_ (fun i y h=>by
  refine ⟨⟨h.os.1.trans rC.os,h.os.2.1.trans rC.tape,h.os.2.2.trans rC.output,bV rC.size h.size,fun j hj=>?_⟩,fun k l hk=>?_⟩
  ·have hx:w.heap[j]? = some w.heap[j]:=Array.getElem?_eq_getElem hj
   rw [hx]
   exact h.keep j _ (by omega) (by omega) ((rC.block j hj).trans hx)
  ·have hr:=h.keep (w.heap.size+1) _ (by omega) (by omega) xr2
   simp only [World.cell?,hr]
   have fH:=(List.getElem?_eq_some_iff.1 hk).1
   rw [List.map_append]
   simp [List.getElem?_append_left,hk,fH]
   exact (List.getElem?_eq_some_iff.1 hk).2)
 clear hX hY hW rZ se bE sP rC xd xd2 xr xr2 xb ni HL HS hg hm ha h0 hl
 obtain ⟨n,ru⟩:=zzN (ls.length)
 rw [ru] at CS HSS HA hll ⊢
 obtain ⟨sc,fV⟩:=zzN (qS ls)
 rw [fV] at CS hnI hll ⊢
 have HN:=g_ ru
 clear fV ru hn
 go_enter Tryz.func7,Tryz.ntmps7
 go_upto_region 4 with (fail)
 rw [HX.out]
 go_wp2_with fail
 (with_reducible refine CS.out.mono ?_)
 rintro en y1 ⟨rfl,e1⟩
 subst e1
 rw [HY.out]
 go_upto_region 6 with (fail)
 rw [HW.out.1]
 have sI:IntKind.i64.wrap (((n+1:Nat):Int)-1)=(n:Int):=by rw [wrap_lowN _ (by omega) (by omega)];omega
 have hw1':IntKind.i64.wrap ((n:Int)+1-1)=(n:Int):=by rw [wrap_lowN _ (by omega) (by omega)];omega
 have rh:(0:Int)<=(n:Int):=by omega
 have bz:(n:Int)<=(n:Int)+1:=by omega
 go_wp2_with fail
 clear sI hw1' rh bz CS
 go_loopw [21] (fun x wr=>∃ (i:Nat) (wz:World),wz=wr/\i<=n/\x=.int .i64 i/\ExI W w.heap.size (w.heap.size+1) (w.heap.size+1+1) ls st ans i wz) (fun x _=>n-(intOf x).toNat)
 case atStart=>exact ⟨0,_,rfl,Nat.zero_le _,rfl,bT⟩
 case round =>
  clear bT
  obtain ⟨i,wr,rfl,hi,rfl,hI⟩:=hrel
  obtain ⟨cA,bA⟩:=KY.out i wr hI
  have HI:=g_ hI
  have ch:=g_ cA
  clear hI cA
  have hgY:w.heap.size<(w.heap.size+1+1):=by omega
  by_cases bX:i<n
  ·have rr:(i:Int)<(n:Int):=by omega
   obtain ⟨l,hl⟩:∃ l,ls[i]? = some l:=⟨ls[i]'(by rw [HN.out];exact bX),List.getElem?_eq_getElem _⟩
   have c0:=bA i l hl
   have CL:=g_ (HLL.out i l hl w.heap.size wr ch.out (hG _) HI.out.desk)
   have eH:=HA.out i bX
   have rM:=fun w0=>zN (P:=Tryz.prog) (ans i) [10] (by simp;omega) w0
   obtain ⟨A,hA⟩:=zzN (ans i++[10])
   rw [hA] at rM
   have HAA:=g_ hA
   have hAl:A.length<=1000001:=by rw [<- hA];simp;omega
   clear bA hl hA
   go_wp2_with fail
   (with_reducible refine CL.out.mono ?_)
   rintro en w1 ⟨rfl,bU,hd1⟩
   have fH:∀ j x,j≠w.heap.size->wr.heap[j]? = some x->w1.heap[j]? = some x:=fun j x hj hx=>(bU.block j (zZ hx) hj).trans hx
   have aa:Bld (w.heap.size+1+1) (w.heap.size+1+1) (xX ans i) w1:=HI.out.bld.keep fun j x hj hx=>fH j x (by omega) hx
   have b8:=bU.size
   have hso:=HI.out.size
   have hzz:=hzW
   have CW:=g_ (write_any (w.heap.size+1+1) (w.heap.size+1+1) (xX ans i) A w1 aa (by have:=gU ans i (fun j hj=>HA.out j (by omega));omega) (by omega))
   have H1:=g_ (hU bU (hU hd1 fH))
   clear bU hd1 fH aa CL eH c0
   go_wp2_with fail
   (with_reducible refine CW.out.mono ?_)
   rintro en w2 ⟨rfl,ar,bY⟩
   have H2:Hid (ExI W w.heap.size (w.heap.size+1) (w.heap.size+1+1) ls st ans (i+1) w2):=g_ (by
    refine ⟨by have:=bY.size;omega,fun j x hj hjb hx=>(bY.block j hjb).trans (H1.out.2.2 j x hj (HI.out.keep j x hj hjb hx)),⟨bY.os.trans (H1.out.1.os.trans HI.out.os.1),bY.tape.trans (H1.out.1.tape.trans HI.out.os.2.1),bY.output.trans (H1.out.1.output.trans HI.out.os.2.2)⟩,(bY.block _ hgY).trans H1.out.2.1,?_⟩
    rw [xX,HAA.out];exact ar)
   clear ar bY CW rM
   go_wp2_with fail
   go_roundw
   case rel=>exact ⟨i+1,_,rfl,by omega,by go_num,H2.out⟩
   case measure=>simp [intOf];omega
  ·obtain rfl:i=n:=by omega
   have ru:¬ ((i:Int)<(i:Int)):=by omega
   obtain ⟨d0,d1,_,_,hgl⟩:=HI.out.desk.cells
   have CS:=g_ (HSS.out wr ch.out)
   have CSZ:=g_ (fun (y:World) (hy:Below wr.heap.size wr y)=>HSS.out y (zzT ch.out hy))
   have CIT:=g_ (fun (y:World) (hy:Below wr.heap.size wr y)=>gN (sz:Int) y (HG.out.below (zzT ch.out hy)) (by omega) (by omega))
   rw [itoa_decN] at CIT
   obtain ⟨O1,nU⟩:∃ O:Bs,[110,111,100,101,115,32]++dec sz=O:=⟨_,rfl⟩
   obtain ⟨O2,rK⟩:∃ O:Bs,O1++[10]=O:=⟨_,rfl⟩
   have hdl:(dec sz).length<=4:=qN 3 sz (by omega)
   have s1:=fun w0=>zN (P:=Tryz.prog) [110,111,100,101,115,32] (dec sz) (by simp;omega) w0
   rw [nU] at s1
   have aU:O1.length<=10:=by rw [<- nU];simp;omega
   have s2:=fun w0=>zN (P:=Tryz.prog) O1 [10] (by simp;omega) w0
   rw [rK] at s2
   have hl2:O2.length<=11:=by rw [<- rK];simp;omega
   have HO:=g_ (show O2=[110,111,100,101,115,32]++dec sz++[10] by rw [<- rK,<- nU])
   have hol:=gU ans i (fun j hj=>HA.out j hj)
   have CW:=g_ (fun (y:World) (hy:Below wr.heap.size wr y)=>write_any (w.heap.size+1+1) (w.heap.size+1+1) (xX ans i) O2 y (HI.out.bld.keep fun j x _ hx=>(hy.block j (zZ hx)).trans hx) (by omega) (by have h1:=hy.size;have h2:=HI.out.size;omega))
   have KEY:=g_ (fun (y:World) (hy:Below wr.heap.size wr y)=>(show y.cell? ⟨w.heap.size,0,none⟩=some (str (st i).1)/\y.cell? ⟨w.heap.size,1,none⟩=some (str (st i).2) from ⟨(HI.out.desk.below hy).cells.1,(HI.out.desk.below hy).cells.2.1⟩))
   obtain ⟨D,hD⟩:=zzN (dec sz)
   rw [hD] at s1 CIT
   clear nU rK aU hl2 hdl hol hD CS bA d0 d1 hgl
   go_upto_region 11 with (fail)
   refine wp_region_noPanic ?_
   refine kT (fun w'=>w'.cell? ⟨w.heap.size,0,none⟩=some (str (st i).1)/\w'.cell? ⟨w.heap.size,1,none⟩=some (str (st i).2)) (fun _=>false) (by kernel_rfl) ?_
   have bq:(fun w'=>w'.cell? ⟨w.heap.size,0,none⟩=some (str (st i).1)/\w'.cell? ⟨w.heap.size,1,none⟩=some (str (st i).2)) wr.drew:=KEY.out _ (Below.drew (bZ _ _))
   refine tk [0,1,2,3,4,5,6,7] bq ?_
   (intro d hd;simp [tkD] at hd;subst hd;simp only [tks,pQ,pZ,pS])
   iterate 8 (refine ⟨?_,?_,?_⟩;rotate_left;· (intro oi ho;simp at ho;subst ho;refine Or.inl ⟨by rfl,fun w' br=>?_⟩;obtain ⟨e0,e1⟩:=br;go_simp;try with_reducible rfl))
   (refine on 8 ?_;intro o ho K' hK;simp at ho;subst ho;go_simp)
   have hd:Below wr.heap.size wr wr.drew:=Below.drew (bZ _ _)
   go_at_call 27
   (with_reducible refine (CSZ.out _ hd).mono ?_)
   rintro en x8 ⟨rfl,cD⟩
   have tZ:Below wr.heap.size wr x8:=Below.trans hd (cD.mono (Below.size hd))
   clear cD
   (refine hK.out _ _ (fun _=>KEY.out _ tZ) ?_;clear hK K';try simp only [pQ,pN,pZ,pS])
   have hS8:=KEY.out _ tZ
   (refine on 9 ?_;intro o ho K' hK;simp at ho;subst ho;go_simp)
   go_at_call 26
   (with_reducible refine (CIT.out _ tZ).mono ?_)
   rintro en x9 ⟨rfl,hb9⟩
   have rJ:Below wr.heap.size wr x9:=Below.trans tZ (hb9.mono (Below.size tZ))
   clear hb9
   (refine hK.out _ _ (fun _=>KEY.out _ rJ) ?_;clear hK K';try simp only [pQ,pN,pZ,pS])
   have hS9:=KEY.out _ rJ
   refine tk [10,11] hS9 ?_
   (intro d hd;simp [tkD] at hd;subst hd;simp only [tks,pQ,pZ,pS])
   iterate 2 (refine ⟨?_,?_,?_⟩;rotate_left;· (intro oi ho;simp at ho;subst ho;refine Or.inl ⟨by rfl,fun w' br=>?_⟩;go_simp;try with_reducible rfl))
   (refine on 12 ?_;intro o ho K' hK;simp at ho;subst ho;go_simp)
   go_at_call 24
   (with_reducible refine (CW.out _ rJ).mono ?_)
   rintro en x12 ⟨rfl,fl,eW⟩
   (refine hK.out _ _ (fun _=>⟨(eW.cell (show w.heap.size<w.heap.size+1+1 by omega)).trans (KEY.out _ rJ).1,(eW.cell (show w.heap.size<w.heap.size+1+1 by omega)).trans (KEY.out _ rJ).2⟩) ?_;clear hK K';try simp only [pQ,pN,pZ,pS])
   refine kL (by kernel_rfl) (NoPanic.normal ?_) _
   have HW12:=g_ (hU fl eW)
   have tI:(w.heap.size+1+1)<=x12.heap.size:=by have h1:=rJ.size;have h2:=HI.out.size;have h3:=eW.size;omega
   have CRD:=g_ (read_any (w.heap.size+1+1) (w.heap.size+1+1) (xX ans i++O2) x12 fl tI)
   have HB9:=g_ rJ
   clear fl eW rJ tZ bq s1 s2 tI
   go_wp2_with fail
   (with_reducible refine CRD.out.mono ?_)
   rintro en x13 ⟨rfl,a_⟩
   have HF:Hid (Below w.heap.size w x13):=g_ (by
    have h1:Below w.heap.size w x9:=zzT ch.out HB9.out
    exact (h1.trans (HW12.out.2.mono (by omega))).trans (a_.mono (by omega)))
   clear a_ CRD
   go_wp2_with fail
   go_ret
   refine ⟨?_,HF.out⟩
   rw [HO.out]
   rfl
theorem gy {W:World} {g r:Nat} (hr:r<10) (h:W.cell? ⟨g,0,none⟩=some (.int .u8 (48+(r:Int)))) :
 (convert 22 9 (.slice (some ⟨g,0,none⟩) 1 1)).run Tryz.prog W=.ok (str [vY r]) W:=by
 refine run_convert_bytes_back (P:=Tryz.prog) W 22 9 5 ⟨g,0,none⟩ 1 [vY r] Tryz.underlying22 Tryz.underlying5 Tryz.underlying9 (fun j hj=>?_)
 have hj0:j=0:=by simpa using hj
 subst hj0
 have e:(vY r).toNat=48+r:=by rw [vY,UInt8.toNat_ofNat'];exact Nat.mod_eq_of_lt (by omega)
 show W.cell? ((⟨g,0,none⟩:Addr).add 0)=some (.int .u8 ((vY r).toNat:Int))
 rw [e]
 have e2:((48+r:Nat):Int)=48+(r:Int):=by omega
 rw [e2];exact h
theorem xj {r:Nat} (hr:r<10) (w:World):(convert 22 9 (.slice (some ⟨w.heap.size,0,none⟩) 1 1)).run Tryz.prog (w.alloc (.cells #[.int .u8 (48+(r:Int))] 5))=.ok (str [vY r]) (w.alloc (.cells #[.int .u8 (48+(r:Int))] 5)) :=
 gy hr (by simp)
theorem conv_newd {r:Nat} (hr:r<10) (w:World):(convert 22 9 (.slice (some ⟨w.heap.size,0,none⟩) 1 1)).run Tryz.prog (w.alloc (.cells #[.int .u8 (48+(r:Int))] 5)).drew=.ok (str [vY r]) (w.alloc (.cells #[.int .u8 (48+(r:Int))] 5)).drew :=
 gy hr (show (w.alloc (.cells #[.int .u8 (48+(r:Int))] 5)).cell? _=_ by simp)
theorem conv_kept {r:Nat} (hr:r<10) {w W:World} (hb:Below (w.alloc (.cells #[.int .u8 (48+(r:Int))] 5)).drew.heap.size (w.alloc (.cells #[.int .u8 (48+(r:Int))] 5)).drew W) :
 (convert 22 9 (.slice (some ⟨w.heap.size,0,none⟩) 1 1)).run Tryz.prog W=.ok (str [vY r]) W :=
 gy hr ((hb.cell (show w.heap.size<(w.alloc (.cells #[.int .u8 (48+(r:Int))] 5)).heap.size by simp)).trans (show (w.alloc (.cells #[.int .u8 (48+(r:Int))] 5)).cell? _=_ by simp))
set_option maxRecDepth 100000 in
theorem l6Dec_small (n:Nat) (hn:n<10) (w:World):Calls Tryz.prog 35 #[.int .i64 (n:Nat)] w fun en w'=>en=.returned (str (dec n))/\Below w.heap.size w w':=by
 have np:(n:Int)<10:=by omega
 have e:=g_ (jk hn)
 have hcv:=xj hn w
 go_enter Tryz.func35,Tryz.ntmps35
 go_wp2_with fail
 go_ret
 exact ⟨by rw [e.out];rfl,(bZ _ _).alloc (hG _) _⟩
theorem yI (w:World) (o:Obj):w.heap.size<=(w.alloc o).drew.heap.size:=by
 show w.heap.size<=(w.alloc o).heap.size
 rw [zQ];omega
set_option maxRecDepth 100000 in
theorem l6Dec_step (n:Nat) (hn:¬ n<10) (hl:n<=16777216) (ih:∀ w,Calls Tryz.prog 35 #[.int .i64 ((n / 10:Nat):Int)] w fun en w'=>en=.returned (str (dec (n / 10)))/\Below w.heap.size w w') (w:World) :
 Calls Tryz.prog 35 #[.int .i64 (n:Nat)] w fun en w'=>en=.returned (str (dec n))/\Below w.heap.size w w':=by
 have IH:=g_ ih;clear ih
 have np:¬ (n:Int)<10:=by omega
 have e:=g_ (j3 hn)
 have q1:(n:Int).tdiv 10=((n / 10:Nat):Int):=y9 n 10
 have q2:(n:Int).tmod 10=((n % 10:Nat):Int):=uZ n 10
 have hR:n % 10<10:=Nat.mod_lt _ (by omega)
 have hQ:n / 10<=16777216:=bV (Nat.div_le_self _ _) hl
 have hD:(dec (n / 10)).length<=8:=qN 7 (n / 10) (by omega)
 generalize n % 10=R at *
 generalize n / 10=Q at *
 have q3:IntKind.i64.wrap (Q:Int)=(Q:Int):=vL Q (by omega)
 have q4:IntKind.i64.wrap (48+(R:Int))=48+(R:Int):=by rw [show (48:Int)+R=((48+R:Nat):Int) from by omega];exact vL _ (by omega)
 have q5:IntKind.u8.wrap (48+(R:Int))=48+(R:Int):=by simp [IntKind.wrap,IntKind.bits,IntKind.signed];omega
 have HR:=g_ hR
 have nJ:=fun w0=>zN (P:=Tryz.prog) (dec Q) [vY R] (by simp;omega) w0
 have hcv:=conv_newd hR w
 have hcv0:=fun w0=>xj hR w0
 go_enter Tryz.func35,Tryz.ntmps35
 go_wp2_with fail
 go_region_with (first
  | (go_at_call 35;refine (IH.out (w.alloc (.cells #[.int .u8 (48+(R:Int))] 5)).drew).mono ?_;rintro en w2 ⟨rfl,bY⟩;have hcv2:=conv_kept HR.out bY;have hbb:=Below.trans (((bZ w.heap.size w).alloc (hG _) (.cells #[.int .u8 (48+(R:Int))] 5)).drew) (bY.mono (yI w _)))
  | (go_at_call 35;refine (IH.out w.drew).mono ?_;rintro en w2 ⟨rfl,bY⟩;have hbb:=Below.trans ((bZ w.heap.size w).drew) bY))
 all_goals
  go_wp2_with fail
  go_ret
  refine ⟨by rw [e.out];rfl,?_⟩
  first
   | exact hbb
   | exact hbb.alloc hbb.size _
theorem l6Dec_any (n:Nat):n<=16777216->∀ w,Calls Tryz.prog 35 #[.int .i64 (n:Nat)] w fun en w'=>en=.returned (str (dec n))/\Below w.heap.size w w':=by
 induction n using Nat.strongRecOn with
 | _ n ih =>
   intro hl w
   by_cases h:n<10
   ·exact l6Dec_small n h w
   ·exact l6Dec_step n h hl (ih (n / 10) (Nat.div_lt_self (by omega) (by omega)) (bV (Nat.div_le_self _ _) hl)) w
def wD (b:Bd):Prop:=∀ (F:Nat->Prop) (w:World) (s v k y:Value),zC F w (qk b) [s,v,k,y] ->
 Calls Tryz.prog 14 #[.agg #[s,v,k,y]] w fun en w'=>en=.returned (str (kg b))/\Below w.heap.size w w'
abbrev xh (g:Nat) (ky:Value) (bI yo:Nat) (s0 v0 p0 q0 s1 v1 p1 q1:Value) (w':World):Prop :=
 w'.cell? ⟨g,3,none⟩=some ky/\w'.cell? ⟨bI,yo,none⟩=some s0/\w'.cell? ⟨bI,yo+1,none⟩=some v0/\w'.cell? ⟨bI,yo+2,none⟩=some p0/\w'.cell? ⟨bI,yo+3,none⟩=some q0 /\
  w'.cell? ⟨bI,yo+4,none⟩=some s1/\w'.cell? ⟨bI,yo+5,none⟩=some v1/\w'.cell? ⟨bI,yo+6,none⟩=some p1/\w'.cell? ⟨bI,yo+7,none⟩=some q1
theorem xh.below {g:Nat} {ky:Value} {bI yo:Nat} {s0 v0 p0 q0 s1 v1 p1 q1:Value} {w w':World} (h:xh g ky bI yo s0 v0 p0 q0 s1 v1 p1 q1 w) (hb:Below w.heap.size w w'):xh g ky bI yo s0 v0 p0 q0 s1 v1 p1 q1 w':=by
 have key:∀ (a:Addr) (v:Value),w.cell? a=some v->w'.cell? a=some v:=fun a v ha=>by
  rw [hb.cell (h_ w _ ha)];exact ha
 obtain ⟨h1,h2,h3,h4,h5,h6,h7,h8,h9⟩:=h
 exact ⟨key _ _ h1,key _ _ h2,key _ _ h3,key _ _ h4,key _ _ h5,key _ _ h6,key _ _ h7,key _ _ h8,key _ _ h9⟩
set_option maxRecDepth 100000 in
theorem l3Text_step (b:Bd) (hl:zD b<=1000000) (cT:lvB b) (ih:∀ b',zD b'<zD b->lvB b'->wD b'):wD b:=by
 intro F w s v k y hv
 have e1:=encN_lv hv
 subst e1
 obtain ⟨_,a2,c2,a3,c3,e,hk,hy⟩:=uY hv
 simp only [List.cons.injEq,and_true] at e
 obtain ⟨rfl,_,rfl,rfl⟩:=e
 cases b with
 | leaf c =>
   clear hv hk hy ih
   show Calls Tryz.prog 14 #[.agg #[str [c],.int .i64 (0:Nat),.slice a2 0 c2,.slice a3 0 c3]] w _
   go_enter Tryz.func14,Tryz.ntmps14
   go_wp2_with fail
   go_ret
   exact ⟨rfl,(bZ _ _).alloc (hG _) _⟩
 | ask lv ss yb nb =>
   have IH:=g_ ih;clear ih
   have bN:=vg (.ask lv ss yb nb)
   rw [gJ,kf] at bN
   change zD (.ask lv ss yb nb)=1+(zE ss+zE [yb,nb]) at bN
   have tH:zE [yb,nb]=zD yb+zD nb:=by simp [zE]
   rw [lvB] at cT
   obtain ⟨lv1,lv2,lv3,lv4⟩:=cT
   have t1:=vf ss lv2
   have t2:=qF yb lv3
   have t3:=qF nb lv4
   have t4:(dec lv).length<=5:=qN 4 lv (by omega)
   obtain ⟨_,_,ek,atk⟩:=pF.of hk
   simp only [Value.slice.injEq,true_and] at ek
   rw [<- ek.1] at atk;clear ek
   obtain ⟨_,_,ek,aty⟩:=pF.of hy
   simp only [Value.slice.injEq,true_and] at ek
   rw [<- ek.1] at aty;clear ek
   change pF F w ss a2 at atk
   change pF F w [yb,nb] a3 at aty
   obtain ⟨bI,yo,s0,v0,p2,m2,d2,p3,m3,d3,yt,ey,hyb0,tG,u0,u1,u2,u3,mC⟩:=aty 0 (by simp)
   obtain ⟨yb1,yo1,s1,v1,p4,m4,d4,p5,m5,d5,nt,nW,hyb1,dE,z0,z1,z2,z3,tj⟩:=aty 1 (by simp)
   rw [ey] at nW
   simp only [Option.some.injEq,Addr.mk.injEq,and_true] at nW
   obtain ⟨rfl,rfl⟩:=nW
   simp only [List.getElem?_cons_zero,Option.some.injEq] at tG
   simp only [List.getElem?_cons_succ,List.getElem?_cons_zero,Option.some.injEq] at dE
   subst tG;subst dE
   simp only [Nat.zero_mul,Nat.add_zero] at u0 u1 u2 u3
   simp only [Nat.one_mul,Nat.add_assoc,Nat.reduceAdd] at z0 z1 z2 z3
   have nss:ss.length<=16777216:=by have:=qz ss;omega
   have HSZ:=g_ bN;have HYN:=g_ tH
   have ATK:=g_ atk
   have LV:=g_ lv2;have LV3:=g_ lv3;have LV4:=g_ lv4
   have lvl:lv<=16777216:=by omega
   have aP:xh w.heap.size (.slice a3 2 c3) bI yo (str s0) (.int .i64 v0) (.slice p2 m2 d2) (.slice p3 m3 d3) (str s1) (.int .i64 v1) (.slice p4 m4 d4) (.slice p5 m5 d5) (w.alloc (.cells #[str [],.int .i64 lv,.slice a2 ss.length c2,.slice a3 2 c3] 43)) :=
    ⟨by simp,zK u0,zK u1,zK u2,zK u3,zK z0,zK z1,zK z2,zK z3⟩
   have tU:=g_ aP
   have tV:=g_ mC;have HRN:=g_ tj
   subst ey
   clear hv hk hy atk aty bN tH lv2 lv3 lv4 u0 u1 u2 u3 z0 z1 z2 z3 mC tj aP
   show Calls Tryz.prog 14 #[.agg #[str [],.int .i64 lv,.slice a2 ss.length c2,.slice (some ⟨bI,yo,none⟩) 2 c3]] w _
   have iW:=fun w0=>zN (P:=Tryz.prog) [40] (dec lv) (by simp;omega) w0
   go_enter Tryz.func14,Tryz.ntmps14
   go_wp2_with fail
   refine (l6Dec_any lv lvl _).mono ?_
   rintro en w1 ⟨rfl,bU⟩
   have dS:Below w.heap.size w w1:=Below.trans ((bZ w.heap.size w).alloc (hG _) (.cells #[str [],.int .i64 lv,.slice a2 ss.length c2,.slice (some ⟨bI,yo,none⟩) 2 c3] 43)) (bU.mono (by simp))
   have dB:w1.cell? ⟨w.heap.size,2,none⟩=some (.slice a2 ss.length c2):=(bU.cell (by simp)).trans (by simp)
   have iO:=g_ (tU.out.below bU)
   go_wp2_with fail
   clear iW
   go_loopw [3,4] (fun o i wr=>∃ k:Nat,k<=ss.length/\i=.int .i64 k/\o=str ([40]++dec lv++kE (ss.take k))/\Below w.heap.size w wr/\wr.cell? ⟨w.heap.size,2,none⟩=some (.slice a2 ss.length c2)/\xh w.heap.size (.slice (some ⟨bI,yo,none⟩) 2 c3) bI yo (str s0) (.int .i64 v0) (.slice p2 m2 d2) (.slice p3 m3 d3) (str s1) (.int .i64 v1) (.slice p4 m4 d4) (.slice p5 m5 d5) wr) (fun _ i _=>ss.length-(intOf i).toNat)
   case atStart=>exact ⟨0,Nat.zero_le _,rfl,by simp [kE],dS,dB,iO.out⟩
   case round =>
    clear dB iO tU dS
    obtain ⟨k,hk,rfl,rfl,hb,dB,aP⟩:=hrel
    have tU:=g_ aP;clear aP
    have bP:([40]++dec lv++kE (ss.take k)).length<=16777216:=by
     have h1:=pU ss k
     have h2:=HSZ.out
     simp only [List.length_append,List.length_cons,List.length_nil];omega
    by_cases bX:k<ss.length
    ·obtain ⟨bb,o,s',v',b2,n2,e2,b3,n3,e3,t,eb,hbb,ht,u0,u1,u2,u3,hr⟩:=ATK.out k bX
     subst eb
     have q0:=(hb.cell hbb).trans u0
     have q1:=(hb.cell hbb).trans u1
     have q2:=(hb.cell hbb).trans u2
     have q3:=(hb.cell hbb).trans u3
     have dJ:=zC.below (F':=fun _=>True) hb (fun _ _=>trivial) hr
     have b8:=vp ht
     have cv:=qI ss (k+1)
     have cc:=HSZ.out
     have b7:=qF t (lvBs_at _ LV.out k t ht)
     have C:=g_ (IH.out t (by omega) (lvBs_at _ LV.out k t ht) _ wr _ _ _ _ dJ)
     have HT:=g_ (textBs_take ht)
     have ht16:(kg t).length<=16777216:=by omega
     have dc:(k:Int)<(ss.length:Int):=by omega
     generalize hO:[40]++dec lv++kE (ss.take k)=O at *
     have HO:=g_ hO
     have fZ:=fun w0=>zN (P:=Tryz.prog) O [32] (by simp;omega) w0
     have e_:=fun w0=>zN (P:=Tryz.prog) (O++[32]) (kg t) (by simp;omega) w0
     clear hO b8 cv cc b7 ht u0 u1 u2 u3 hr dJ
     go_wp2_with fail
     refine C.out.mono ?_
     rintro en w2 ⟨rfl,bY⟩
     have bH:=zzT hb bY
     have hx2':w2.cell? ⟨w.heap.size,2,none⟩=some (.slice (some ⟨bb,o,none⟩) ss.length c2):=(bY.cell (h_ _ ⟨w.heap.size,2,none⟩ dB)).trans dB
     have HKY2:=g_ (tU.out.below bY)
     go_wp2_with fail
     go_roundw
     case rel=>exact ⟨k+1,by omega,by go_num,by rw [HT.out,<- HO.out];simp [str],bH,hx2',HKY2.out⟩
     case measure=>simp [intOf];omega
    ·obtain rfl:k=ss.length:=by omega
     rw [List.take_length] at bP ⊢
     have ru:¬ ((ss.length:Int)<(ss.length:Int)):=by omega
     have HE:Hid (kg (.ask lv ss yb nb)=((((([40]++dec lv++kE ss)++[32])++kg yb)++[32])++kg nb)++[41]):=by show kg _=_;rw [kg]
     generalize hO:[40]++dec lv++kE ss=O at *
     clear hO
     obtain ⟨fL,q0,q1,q2,q3,q4,q5,q6,q7⟩:=tU.out
     have tO:=(zC.below (F':=fun _=>True) hb (fun _ _=>trivial) tV.out).drew
     have tq:=zC.below (F':=fun _=>True) hb (fun _ _=>trivial) HRN.out
     have cc:=HSZ.out
     have b7:=HYN.out
     have y16:(kg yb).length<=16777216:=by omega
     have n16:(kg nb).length<=16777216:=by omega
     have pp:=zf yb;have pq:=zf nb
     have CY:=g_ (IH.out yb (by omega) LV3.out _ wr.drew _ _ _ _ tO)
     have CN:=fun W F' h=>IH.out nb (by omega) LV4.out F' W (str s1) (.int .i64 v1) (.slice p4 m4 d4) (.slice p5 m5 d5) h
     have CN':=g_ CN;clear CN
     have RN:=g_ tq
     have e16:(O++[32]).length=O.length+1:=by simp
     obtain ⟨O1,h1⟩:=zzM (O++[32])
     obtain ⟨O2,h2⟩:=zzM (O1++kg yb)
     obtain ⟨O3,h3⟩:=zzM (O2++[32])
     obtain ⟨O4,h4⟩:=zzM (O3++kg nb)
     obtain ⟨O5,h5⟩:=zzM (O4++[41])
     have l1:O1.length<=16777217:=by rw [h1];simp;omega
     have l2:O2.length<=33554433:=by rw [h2];simp;omega
     have l3:O3.length<=33554434:=by rw [h3];simp;omega
     have l4:O4.length<=50331650:=by rw [h4];simp;omega
     have fZ:=fun w0=>zN (P:=Tryz.prog) O [32] (by simp;omega) w0
     have e_:=fun w0=>zN (P:=Tryz.prog) O1 (kg yb) (by omega) w0
     have f8:=fun w0=>zN (P:=Tryz.prog) O2 [32] (by simp;omega) w0
     have f7:=fun w0=>zN (P:=Tryz.prog) O3 (kg nb) (by omega) w0
     have iX:=fun w0=>zN (P:=Tryz.prog) O4 [41] (by simp;omega) w0
     have HE5:Hid (O5=kg (.ask lv ss yb nb)):=by show O5=_;rw [HE.out,h5,h4,h3,h2,h1]
     rw [<- h1] at fZ;rw [<- h2] at e_;rw [<- h3] at f8;rw [<- h4] at f7;rw [<- h5] at iX
     clear h1 h2 h3 h4 h5 HE e16 l1 l2 l3 l4
     have hKd:xh w.heap.size (.slice (some ⟨bI,yo,none⟩) 2 c3) bI yo (str s0) (.int .i64 v0) (.slice p2 m2 d2) (.slice p3 m3 d3) (str s1) (.int .i64 v1) (.slice p4 m4 d4) (.slice p5 m5 d5) wr.drew:=tU.out
     clear cc b7 pp pq tO tq t1 t2 t3 t4
     go_wp2_with fail
     go_region_held3 (fun w'=>w'.cell? ⟨w.heap.size,3,none⟩=some (.slice (some ⟨bI,yo,none⟩) 2 c3)/\w'.cell? ⟨bI,yo,none⟩=some (str s0)/\w'.cell? ⟨bI,yo+1,none⟩=some (.int .i64 v0)/\w'.cell? ⟨bI,yo+2,none⟩=some (.slice p2 m2 d2)/\w'.cell? ⟨bI,yo+3,none⟩=some (.slice p3 m3 d3)/\w'.cell? ⟨bI,yo+4,none⟩=some (str s1)/\w'.cell? ⟨bI,yo+5,none⟩=some (.int .i64 v1)/\w'.cell? ⟨bI,yo+6,none⟩=some (.slice p4 m4 d4)/\w'.cell? ⟨bI,yo+7,none⟩=some (.slice p5 m5 d5))
      (first
       | with_reducible exact hKd
       | with_reducible exact mA
       | with_reducible exact hK4)
      (first
       | (go_at_call 14;refine (CN'.out _ _ rn3).mono ?_;rintro en w4 ⟨rfl,bC⟩;have hK4:=mA.below bC)
       | (go_at_call 14;refine CY.out.mono ?_;rintro en w3 ⟨rfl,bH⟩;have mA:=hKd.below bH;have rn3:=zC.below (F':=fun _=>True) bH (fun _ _=>trivial) RN.out.drew))
     go_wp2_with fail
     go_ret
     exact ⟨by rw [<- HE5.out];rfl,hb.trans ((((bZ _ wr).drew).trans (zzT bH bC)).mono hb.size)⟩
theorem gE (n:Nat):∀ b,zD b<=n->n<=1000000->lvB b->wD b:=by
 induction n with
 | zero=>intro b h _;have:=zf b;omega
 | succ n ih=>exact fun b h hn cT=>l3Text_step b (by omega) cT (fun b' h' ct=>ih b' (by omega) (by omega) ct)
set_option maxRecDepth 100000 in
theorem digits_small (n:Nat) (hn:n<10) (w:World):Calls Tryz.prog 29 #[.int .i64 (n:Nat)] w fun en w'=>en=.returned (str (dec n))/\Below w.heap.size w w':=by
 have np:(n:Int)<10:=by omega
 have e:=g_ (jk hn)
 have hcv:=xj hn w
 go_enter Tryz.func29,Tryz.ntmps29
 go_wp2_with fail
 go_ret
 exact ⟨by rw [e.out];rfl,(bZ _ _).alloc (hG _) _⟩
set_option maxRecDepth 100000 in
theorem digits_step (n:Nat) (hn:¬ n<10) (hl:n<=16777216) (ih:∀ w,Calls Tryz.prog 29 #[.int .i64 ((n / 10:Nat):Int)] w fun en w'=>en=.returned (str (dec (n / 10)))/\Below w.heap.size w w') (w:World) :
 Calls Tryz.prog 29 #[.int .i64 (n:Nat)] w fun en w'=>en=.returned (str (dec n))/\Below w.heap.size w w':=by
 have IH:=g_ ih;clear ih
 have np:¬ (n:Int)<10:=by omega
 have e:=g_ (j3 hn)
 have q1:(n:Int).tdiv 10=((n / 10:Nat):Int):=y9 n 10
 have q2:(n:Int).tmod 10=((n % 10:Nat):Int):=uZ n 10
 have hR:n % 10<10:=Nat.mod_lt _ (by omega)
 have hQ:n / 10<=16777216:=bV (Nat.div_le_self _ _) hl
 have hD:(dec (n / 10)).length<=8:=qN 7 (n / 10) (by omega)
 generalize n % 10=R at *
 generalize n / 10=Q at *
 have q3:IntKind.i64.wrap (Q:Int)=(Q:Int):=vL Q (by omega)
 have q4:IntKind.i64.wrap (48+(R:Int))=48+(R:Int):=by rw [show (48:Int)+R=((48+R:Nat):Int) from by omega];exact vL _ (by omega)
 have q5:IntKind.u8.wrap (48+(R:Int))=48+(R:Int):=by simp [IntKind.wrap,IntKind.bits,IntKind.signed];omega
 have HR:=g_ hR
 have nJ:=fun w0=>zN (P:=Tryz.prog) (dec Q) [vY R] (by simp;omega) w0
 have hcv:=conv_newd hR w
 have hcv0:=fun w0=>xj hR w0
 go_enter Tryz.func29,Tryz.ntmps29
 go_wp2_with fail
 go_region_with (first
  | (go_at_call 29;refine (IH.out (w.alloc (.cells #[.int .u8 (48+(R:Int))] 5)).drew).mono ?_;rintro en w2 ⟨rfl,bY⟩;have hcv2:=conv_kept HR.out bY;have hbb:=Below.trans (((bZ w.heap.size w).alloc (hG _) (.cells #[.int .u8 (48+(R:Int))] 5)).drew) (bY.mono (yI w _)))
  | (go_at_call 29;refine (IH.out w.drew).mono ?_;rintro en w2 ⟨rfl,bY⟩;have hbb:=Below.trans ((bZ w.heap.size w).drew) bY))
 all_goals
  go_wp2_with fail
  go_ret
  refine ⟨by rw [e.out];rfl,?_⟩
  first
   | exact hbb
   | exact hbb.alloc hbb.size _
theorem digits_any (n:Nat):n<=16777216->∀ w,Calls Tryz.prog 29 #[.int .i64 (n:Nat)] w fun en w'=>en=.returned (str (dec n))/\Below w.heap.size w w':=by
 induction n using Nat.strongRecOn with
 | _ n ih =>
   intro hl w
   by_cases h:n<10
   ·exact digits_small n h w
   ·exact digits_step n h hl (ih (n / 10) (Nat.div_lt_self (by omega) (by omega)) (bV (Nat.div_le_self _ _) hl)) w
theorem endLine_any (s text:Bs) (sz:Nat) (bN:sz<=1000) (w:World) (C:∀ y,Below w.heap.size w y->Calls Tryz.prog 27 #[str s,str text] y fun en w'=>en=.returned (.int .i64 (sz:Nat))/\Below y.heap.size y w') :
 Calls Tryz.prog 8 #[str s,str text] w fun en w'=>en=.returned (str ([110,111,100,101,115,32]++dec sz++[10]))/\Below w.heap.size w w':=by
 have CC:=g_ C
 have CD:=g_ (digits_any sz (by omega))
 have hdl:(dec sz).length<=4:=qN 3 sz (by omega)
 obtain ⟨O1,nU⟩:∃ O:Bs,[110,111,100,101,115,32]++dec sz=O:=⟨_,rfl⟩
 obtain ⟨O2,rK⟩:∃ O:Bs,O1++[10]=O:=⟨_,rfl⟩
 have s1:=fun w0=>zN (P:=Tryz.prog) [110,111,100,101,115,32] (dec sz) (by simp;omega) w0
 rw [nU] at s1
 have aU:O1.length<=10:=by rw [<- nU];simp;omega
 have s2:=fun w0=>zN (P:=Tryz.prog) O1 [10] (by simp;omega) w0
 rw [rK] at s2
 have HO:=g_ (show [110,111,100,101,115,32]++dec sz++[10]=O2 by rw [nU,rK])
 obtain ⟨D,hD⟩:=zzN (dec sz)
 rw [hD] at s1 CD HO
 rw [hD]
 clear C nU rK aU hdl hD
 go_enter Tryz.func8,Tryz.ntmps8
 go_wp2_with fail
 (with_reducible refine (CC.out _ (bZ _ _)).mono ?_)
 rintro en w1 ⟨rfl,bU⟩
 have bx:=g_ bU
 clear bU
 go_wp2_with fail
 (with_reducible refine (CD.out _).mono ?_)
 rintro en w2 ⟨rfl,bY⟩
 have cX:=g_ (zzT bx.out bY)
 clear bY
 go_wp2_with fail
 go_ret
 exact ⟨by show Ending.returned (str O2)=_;rw [<- HO.out];rfl,cX.out⟩
theorem i64_xor_nat (a b:Nat) (ha:a<9223372036854775808) (hb:b<9223372036854775808):bits .xor .i64 (a:Int) (b:Int)=((a ^^^ b:Nat):Int):=by
 have hx:a ^^^ b<2 ^ 63:=Nat.xor_lt_two_pow (by omega) (by omega)
 show IntKind.i64.wrap ((BitVec.ofInt 64 (a:Int) ^^^ BitVec.ofInt 64 (b:Int)).toNat:Int)=_
 rw [BitVec.toNat_xor,ofInt_u64 a (by omega),ofInt_u64 b (by omega)]
 generalize a ^^^ b=x at *
 simp [IntKind.wrap,IntKind.bits,IntKind.signed]
 omega
def qQ (w:World) (rd P:Nat):Prop :=
 ∃ (a:Option Addr) (n c p:Nat),w.heap[rd]? = some (.cells #[.slice a n c,.int .i64 (p:Nat)] 77 (0,0))/\p<=P/\n<=2000 /\
   (n=0\/∃ b o,a=some ⟨b,o,none⟩/\b<rd/\∀ k,k<n->∃ x:Nat,x<256/\w.cell? ⟨b,o+k,none⟩=some (.int .u8 x))
theorem qQ.lt {w:World} {rd P:Nat} (h:qQ w rd P):rd<w.heap.size:=by
 obtain ⟨a,n,c,p,h1,_⟩:=h;exact zZ h1
theorem qQ.mono {w:World} {rd P Q:Nat} (h:qQ w rd P) (k:P<=Q):qQ w rd Q:=by
 obtain ⟨a,n,c,p,h1,h2,h3⟩:=h;exact ⟨a,n,c,p,h1,bV h2 k,h3⟩
theorem qQ.below {w w':World} {rd P:Nat} (h:qQ w rd P) (hb:Below w.heap.size w w'):qQ w' rd P:=by
 obtain ⟨a,n,c,p,h1,h2,h3,h4⟩:=h
 refine ⟨a,n,c,p,(hb.block _ (zZ h1)).trans h1,h2,h3,?_⟩
 rcases h4 with h4 | ⟨b,o,e,hne,hk⟩
 ·exact .inl h4
 ·refine .inr ⟨b,o,e,hne,fun k mr=>?_⟩
  obtain ⟨x,hx,hc⟩:=hk k mr
  exact ⟨x,hx,(hb.cell (h_ w _ hc)).trans hc⟩
theorem qQ.but {m:Nat->Prop} {w w':World} {rd P:Nat} (h:qQ w rd P) (hb:But m w w') (hm:∀ i,i<=rd->¬ m i):qQ w' rd P:=by
 obtain ⟨a,n,c,p,h1,h2,h3,h4⟩:=h
 refine ⟨a,n,c,p,(hb.block _ (zZ h1) (hm _ (hG _))).trans h1,h2,h3,?_⟩
 rcases h4 with h4 | ⟨b,o,e,hne,hk⟩
 ·exact .inl h4
 ·refine .inr ⟨b,o,e,hne,fun k mr=>?_⟩
  obtain ⟨x,hx,hc⟩:=hk k mr
  exact ⟨x,hx,(hb.cell (h_ w _ hc) (hm _ (Nat.le_of_lt hne))).trans hc⟩
theorem qQ.drew {w:World} {rd P:Nat} (h:qQ w rd P):qQ w.drew rd P:=h
theorem qQ.drewN {w:World} {rd P:Nat} (h:qQ w rd P) (n:Nat):qQ (w.drewN n) rd P:=h
theorem qQ.alloc {w:World} {rd P:Nat} (h:qQ w rd P) (o:Obj):qQ (w.alloc o) rd P:=h.below ((bZ _ _).alloc (hG _) _)
theorem below_dN_but {m:Nat->Prop} {a w:World} (h:But m a w) (n:Nat):But m a (w.drewN n):=⟨h.os,h.tape,h.output,h.size,h.block⟩
def Picked (rd P n:Nat) (w:World) (en:Ending) (w':World):Prop :=
 ∃ v:Nat,en=.returned (.int .i64 (v:Nat))/\v<n/\But (· = rd) w w'/\qQ w' rd (P+1)
theorem vF {z:Int} {n:Nat} (e:z=(n:Int)) (h:n<9223372036854775808):IntKind.i64.wrap z=(n:Int):=by rw [e];exact vL n h
structure Mix (p m x1 x2 n:Nat) (I A B C J D E G H Q R X Y Z V:Nat):Prop where
 i:(p:Int).tmod (m:Int)=(I:Int)
 a:IntKind.i64.wrap ((x1:Int)*131)=(A:Int)
 b:IntKind.i64.wrap ((p:Int)*7)=(B:Int)
 c:IntKind.i64.wrap ((B:Int)+3)=(C:Int)
 j:(C:Int).tmod (m:Int)=(J:Int)
 d:IntKind.i64.wrap ((x2:Int)*1117)=(D:Int)
 e:IntKind.i64.wrap ((A:Int)+(D:Int))=(E:Int)
 g:IntKind.i64.wrap ((p:Int)*29)=(G:Int)
 h:IntKind.i64.wrap ((E:Int)+(G:Int))=(H:Int)
 q:(p:Int).tdiv (m:Int)=(Q:Int)
 r:IntKind.i64.wrap ((Q:Int)*53)=(R:Int)
 x:IntKind.i64.wrap ((H:Int)+(R:Int))=(X:Int)
 y:(X:Int).tdiv 64=(Y:Int)
 z:bits .xor .i64 (X:Int) (Y:Int)=(Z:Int)
 v:(Z:Int).tmod (n:Int)=(V:Int)
 vn:V<n
 wq:IntKind.i64.wrap (Q:Int)=(Q:Int)
 wy:IntKind.i64.wrap (Y:Int)=(Y:Int)
theorem mix_any (p m x1 x2 n:Nat) (hp:p<=1099511627776) (eE:x1<256) (dB:x2<256) (hn:0<n) :
 ∃ A B D E G H Q R X Y Z V:Nat,Mix p m x1 x2 n (p % m) A B (p*7+3) ((p*7+3) % m) D E G H Q R X Y Z V:=by
 have hq:p / m<=p:=Nat.div_le_self _ _
 have hX:x1*131+x2*1117+p*29+p / m*53<9223372036854775808:=by omega
 have hY:(x1*131+x2*1117+p*29+p / m*53) / 64<9223372036854775808:=by omega
 refine ⟨x1*131,p*7,x2*1117,x1*131+x2*1117,p*29,x1*131+x2*1117+p*29,p / m,p / m*53,x1*131+x2*1117+p*29+p / m*53,(x1*131+x2*1117+p*29+p / m*53) / 64,(x1*131+x2*1117+p*29+p / m*53) ^^^ ((x1*131+x2*1117+p*29+p / m*53) / 64),((x1*131+x2*1117+p*29+p / m*53) ^^^ ((x1*131+x2*1117+p*29+p / m*53) / 64)) % n,?_⟩
 exact ⟨uZ _ _,vF (by omega) (by omega),vF (by omega) (by omega),vF (by omega) (by omega),uZ _ _,vF (by omega) (by omega),vF (by omega) (by omega),vF (by omega) (by omega),vF (by omega) (by omega),
  y9 _ _,vF (by omega) (by omega),vF (by omega) hX,y9 _ 64,i64_xor_nat _ _ hX hY,uZ _ _,Nat.mod_lt _ hn,vL _ (by omega),vL _ hY⟩
set_option maxRecDepth 100000 in
theorem jw (rd P n:Nat) (w:World) (h:qQ w rd P) (hn:0<n) (cr:n<=16777216) (hP:P<=1099511627776) :
 Calls Tryz.prog 12 #[.pointer (some ⟨rd,0,none⟩),.int .i64 (n:Nat)] w (Picked rd P n w):=by
 obtain ⟨a,m,c,p,h1,hp,hm,hcs⟩:=h
 have hpP:p<=1099511627776:=by omega
 have c0:w.cell? ⟨rd,0,none⟩=some (.slice a m c):=by simp [World.cell?,h1]
 have c1:w.cell? ⟨rd,1,none⟩=some (.int .i64 (p:Nat)):=by simp [World.cell?,h1]
 have f1:w.frozen? ⟨rd,1,none⟩=false:=by simp [World.frozen?,h1]
 have bX:=zZ h1
 obtain ⟨W,hW⟩:=zzN (w.setCell ⟨rd,1,none⟩ (.int .i64 ((p:Int)+1)))
 have cU:W.heap[rd]? = some (.cells #[.slice a m c,.int .i64 ((p+1:Nat):Int)] 77 (0,0)):=by
  have h':w.heap[rd]=.cells #[.slice a m c,.int .i64 (p:Nat)] 77 (0,0):=by simpa [Array.getElem?_eq_getElem bX] using h1
  rw [<- hW]
  show (w.heap.modify rd _)[rd]? = _
  rw [Array.getElem?_eq_getElem (by simpa using bX),Array.getElem_modify_self,h']
  simp
 have cC:But (· = rd) w W:=by rw [<- hW];exact (But.refl (· = rd) _).setCell (p:=⟨rd,1,none⟩) (.inl rfl) _
 have d0:W.cell? ⟨rd,0,none⟩=some (.slice a m c):=by simp [World.cell?,cU]
 have d1:W.cell? ⟨rd,1,none⟩=some (.int .i64 ((p:Int)+1)):=by simp [World.cell?,cU]
 have cf:qQ W rd (P+1):=by
  refine ⟨a,m,c,p+1,cU,by omega,hm,?_⟩
  rcases hcs with h4 | ⟨b,o,e,hne,hk⟩
  ·exact .inl h4
  ·refine .inr ⟨b,o,e,hne,fun k mr=>?_⟩
   obtain ⟨x,hx,hc⟩:=hk k mr
   exact ⟨x,hx,(cC.cell (h_ w _ hc) (fun e=>Nat.ne_of_lt hne e)).trans hc⟩
 have RD:=g_ cf;have BT:=g_ cC
 have g0:¬ (n:Int)<1:=by omega
 have gn:((n:Int) == 0)=false:=by rw [beq_eq_false_iff_ne];omega
 have hWb:∀ (b o:Nat) (v:Value),b≠rd->w.cell? ⟨b,o,none⟩=some v->W.cell? ⟨b,o,none⟩=some v:=fun b o v hne hc =>
  (cC.cell (p:=⟨b,o,none⟩) (h_ w ⟨b,o,none⟩ hc) (fun e=>hne e)).trans hc
 have WB:=g_ hWb;have sR:=g_ hcs;have HW:=g_ hW
 clear cf cC h1 cU hWb hcs hW
 go_enter Tryz.func12,Tryz.ntmps12
 go_upto_region 2 with (fail)
 rw [HW.out]
 clear c0 c1 f1
 rcases sR.out with h0 | ⟨b,o,e,hne,hk⟩
 ·subst h0
  go_wp2_with fail
  go_ret
  exact ⟨0,rfl,hn,BT.out,RD.out⟩
 ·subst e
  have HK:=g_ hk;clear hk
  by_cases t7:m=0
  ·subst t7
   go_wp2_with fail
   go_ret
   exact ⟨0,rfl,hn,BT.out,RD.out⟩
  have gm:((m:Int) == 0)=false:=by rw [beq_eq_false_iff_ne];omega
  by_cases hpm:p<m
  ·obtain ⟨x,hx,hc⟩:=HK.out p hpm
   have e1:=WB.out _ _ _ (Nat.ne_of_lt hne) hc
   have hpm':(p:Int)<(m:Int):=by omega
   have et:(x:Int).tmod (n:Int)=((x % n:Nat):Int):=uZ _ _
   have hv:x % n<n:=Nat.mod_lt _ hn
   have HV:=g_ hv;clear hv hc
   go_wp2_with fail
   go_ret
   exact ⟨x % n,rfl,HV.out,BT.out,RD.out⟩
  ·have hpm':¬ (p:Int)<(m:Int):=by omega
   obtain ⟨x1,eE,c_⟩:=HK.out (p % m) (Nat.mod_lt _ (by omega))
   obtain ⟨x2,dB,da⟩:=HK.out ((p*7+3) % m) (Nat.mod_lt _ (by omega))
   have e1:=WB.out _ _ _ (Nat.ne_of_lt hne) c_
   have e2:=WB.out _ _ _ (Nat.ne_of_lt hne) da
   obtain ⟨A,B,D,E,G,H,Q,R,X,Y,Z,V,M⟩:=mix_any p m x1 x2 n hpP eE dB hn
   have hI:p % m<m:=Nat.mod_lt _ (by omega)
   have hJ:(p*7+3) % m<m:=Nat.mod_lt _ (by omega)
   generalize p % m=I at *
   generalize (p*7+3) % m=J at *
   generalize p*7+3=C at *
   have hI':(I:Int)<(m:Int):=by omega
   have hJ':(J:Int)<(m:Int):=by omega
   have q1:=M.i;have q2:=M.a;have q3:=M.b;have q4:=M.c;have q5:=M.j;have q6:=M.d;have q7:=M.e;have q8:=M.g;have q9:=M.h
   have q10:=M.q;have q11:=M.r;have q12:=M.x;have q13:=M.y;have q14:=M.z;have q15:=M.v;have q16:=M.wq;have q17:=M.wy
   have MV:=g_ M.vn
   clear c_ da M
   go_wp2_with fail
   go_quiet (fail)
   go_wp2_with fail
   go_ret
   exact ⟨V,rfl,MV.out,below_dN_but BT.out _,RD.out.drewN _⟩
def uu (w:World) (rd:Nat) (l:Value) (xs:List Bs):Prop :=
 ∃ b o c,l=.slice (some ⟨b,o,none⟩) xs.length c/\b≠rd/\∀ (k:Nat) (s:Bs),xs[k]? = some s->w.cell? ⟨b,o+k,none⟩=some (str s)
theorem uu.new {w:World} {rd:Nat} (cf:rd<w.heap.size) (xs:List Bs) (n:Nat) (hn:n=xs.length) (e:TypeId):uu (w.alloc (.cells (xs.map str).toArray e)) rd (.slice (some ⟨w.heap.size,0,none⟩) n n) xs:=by
 subst hn
 refine ⟨w.heap.size,0,_,rfl,by omega,fun k s hs=>?_⟩
 rw [Nat.zero_add]
 simp only [World.cell?,zO]
 simp [hs]
def Took (rd P:Nat) (xs:List Bs) (w:World) (en:Ending) (w':World):Prop :=
 ∃ s∈xs,en=.returned (str s)/\But (· = rd) w w'/\qQ w' rd P
theorem wU (rd P:Nat) (l:Value) (xs:List Bs) (w:World) (h:qQ w rd P) (hl:uu w rd l xs) (hx:0<xs.length) (dB:xs.length<=16777216) (hP:P<=1099511627776) :
 Calls Tryz.prog 30 #[.pointer (some ⟨rd,0,none⟩),l] w (Took rd (P+1) xs w):=by
 obtain ⟨b,o,c,rfl,hne,hk⟩:=hl
 have HK:=g_ hk;clear hk
 go_enter Tryz.func30,Tryz.ntmps30
 go_wp2_with fail
 refine (jw rd P xs.length w h hx dB hP).mono ?_
 rintro en w1 ⟨v,rfl,hv,hb,hr⟩
 obtain ⟨s,hs⟩:∃ s,xs[v]? = some s:=⟨xs[v],by simp [hv]⟩
 have hc:=HK.out v s hs
 have c_:w1.cell? ⟨b,o+v,none⟩=some (str s):=(hb.cell (p:=⟨b,o+v,none⟩) (h_ w ⟨b,o+v,none⟩ hc) (fun e=>hne e)).trans hc
 have mw:(v:Int)<(xs.length:Int):=by omega
 have HM:=g_ (List.mem_of_getElem? hs)
 clear hs hc
 go_wp2_with fail
 go_ret
 exact ⟨s,HM.out,rfl,hb,hr⟩
def jK:List Bs:=[[98],[40,62,32,98,32,98,41],[40,62,32,98,32,40,62,32,98,32,98,41,41],[40,62,32,40,62,32,98,32,98,41,32,98,41],[40,62,32,40,62,32,98,32,98,41,32,40,62,32,98,32,98,41,41],[40,62,32,40,62,32,40,62,32,98,32,98,41,32,98,41,32,98,41],[40,62,32,40,62,32,98,32,40,62,32,98,32,98,41,41,32,98,41],[40,62,32,98,32,40,62,32,40,62,32,98,32,98,41,32,98,41,41]]
def ut:List Bs:=[[],[99],[40,62,32,98,41],[40,62,32,32,98,32,98,41],[40,62,32,98,32,98,32,98,41],[98,32],[40,62,32,40,62,32,40,62,32,40,62,32,98,32,98,41,32,40,62,32,98,32,98,41,41,32,40,62,32,98,32,98,41,41,32,40,62,32,98,32,40,62,32,98,32,98,41,41,41]]
def yJ:List Bs:=[[],[120],[40,48,32,116,41],[40,57,32,116,32,102,41],[40,48,32,32,116,32,102,41],[40,48,48,32,116,32,102,41],[117,32],[40,48,32,116,32,102,32,116,32,102,41]]
def qZ:List Bs:=[[116],[102],[116],[102],[117]]
set_option maxRecDepth 100000 in
theorem un (rd P:Nat) (w:World) (h:qQ w rd P) (hP:P<=1099511627776) :
 Calls Tryz.prog 10 #[.pointer (some ⟨rd,0,none⟩)] w (Took rd (P+1) jK w):=by
 have bX:=h.lt
 go_enter Tryz.func10,Tryz.ntmps10
 go_wp2_with fail
 refine (wU rd P _ jK _ (h.alloc _) (uu.new bX jK 8 rfl _) (by decide) (by decide) hP).mono ?_
 rintro en w1 ⟨s,hs,rfl,hb,hr⟩
 have HM:=g_ hs;clear hs
 go_wp2_with fail
 go_ret
 exact ⟨s,HM.out,rfl,((But.refl _ w).alloc _).trans hb,hr⟩
set_option maxRecDepth 100000 in
theorem l91Odd_any (rd P:Nat) (w:World) (h:qQ w rd P) (hP:P+1<=1099511627776) :
 Calls Tryz.prog 33 #[.pointer (some ⟨rd,0,none⟩)] w (Took rd (P+2) (jK++ut) w):=by
 go_enter Tryz.func33,Tryz.ntmps33
 go_wp2_with fail
 refine (jw rd P 12 w h (by omega) (by omega) (by omega)).mono ?_
 rintro en w1 ⟨v,rfl,hv,bU,cW⟩
 have bX:=cW.lt
 by_cases nN:v=0
 ·subst nN
  go_wp2_with fail
  refine (wU rd (P+1) _ ut _ (cW.alloc _) (uu.new bX ut 7 rfl _) (by decide) (by decide) hP).mono ?_
  rintro en w2 ⟨s,hs,rfl,hb,hr⟩
  have HM:=g_ hs;clear hs
  go_wp2_with fail
  go_ret
  exact ⟨s,List.mem_append_right _ HM.out,rfl,(bU.alloc _).trans hb,hr⟩
 ·have dm:((v:Int) == 0)=false:=by rw [beq_eq_false_iff_ne];omega
  go_wp2_with fail
  refine (un rd (P+1) w1 cW hP).mono ?_
  rintro en w2 ⟨s,hs,rfl,hb,hr⟩
  have HM:=g_ hs;clear hs
  go_wp2_with fail
  go_ret
  exact ⟨s,List.mem_append_left _ HM.out,rfl,bU.trans hb,hr⟩
end Go.Proofs.YtepgfdhkkjfmhabGreatDoor

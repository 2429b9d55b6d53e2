/- Walks of functions that the statement reaches, and plain words. No conditions. -/
import Derived.Test.YthoimoenbccflaaDoorQ11
set_option linter.unusedVariables false
set_option linter.unusedSimpArgs false
set_option maxHeartbeats 8000000
namespace Go.Proofs.YthoimoenbccflaaDoor
open Go.RowKit
section
variable {P:Program} {ops:Array Oper} {Q:Exit->Act->World->Prop} {md:Region.Mode} {S:World->Prop} {T:Nat->Bool}
theorem wpAnyS_firstD {i:Nat} {oi:Oper} {v:Value} {D:List Nat} (hi:ops[i]? = some oi) (hsel:∀ (j:Nat) (o:Oper) cs b,ops[j]? = some o->o.op≠.select cs b)
 (hQ:∀ c a w,Q (.panic c) (a.put oi.dst v) w->Q (.panic c) a w)
 (hT:∀ j oj,ops[j]? = some oj->T j=true->j∈D) (hD:∀ j∈D,∀ oj,ops[j]? = some oj->∃ e∈oj.after,Region.binds md e=true/\(e.on=i\/e.on∈D)) (hTi:T i=false) :
 ∀ (fuel:Nat) (listed:Array Bool) (a:Act) (w:World),(∀ j∈D,listed.getD j false=false) ->
   (∀ j oj,ops[j]? = some oj->j≠i->listed.getD j true=false->(∀ e∈oj.after,Region.binds md e=true->e.on≠i)->oi.apart ops oj=true) ->
   i∈Region.ready md ops listed->YieldsIf P ops S oi v a->S w ->
   wpAnyS P md ops Q S T fuel (listed.setIfInBounds i true) (a.put oi.dst v) w->wpAnyS P md ops Q S T (fuel+1) listed a w:=by
 intro fuel
 induction fuel with
 | zero =>
   intro listed a w _ _ hr hy hS H
   refine ⟨fun h=>(by rw [h] at hr;cases hr),fun j hj=>?_⟩
   by_cases hji:j=i
   ·subst hji;exact hy.wpOp hi hS ⟨fun _=>hS,H⟩
   ·have:=ready_keep hj hji
    rw [H.1] at this
    cases this
 | succ fuel ih =>
   intro listed a w hDl hfree hr hy hS H
   refine ⟨fun h=>(by rw [h] at hr;cases hr),fun j hj=>?_⟩
   by_cases hji:j=i
   ·subst hji;exact hy.wpOp hi hS ⟨fun _=>hS,H⟩
   ·have h1:=H.2 j (ready_keep hj hji)
    obtain ⟨hjun,oj,hoj,hall⟩:=ready_spec hj
    have hnot:∀ e∈oj.after,Region.binds md e=true->e.on≠i:=fun e he hb heq=>by
     have h1:=hall e he hb
     have h0:=(ready_spec hr).1
     rw [heq] at h1
     simp only [Array.getD_eq_getD_getElem?] at h0 h1
     rcases Nat.lt_or_ge i listed.size with h' | h'
     ·simp [h'] at h0 h1;rw [h0] at h1;cases h1
     ·simp [Array.getElem?_eq_none h'] at h1
    have hDj:j ∉ D:=fun hd=>by
     obtain ⟨e,he,hb,heq⟩:=hD j hd oj hoj
     rcases heq with heq | heq
     ·exact hnot e he hb heq
     ·have h1:=hall e he hb
      rw [hDl _ heq] at h1;cases h1
    have hTj:T j=false:=by
     cases hT':T j with
     | false=>rfl
     | true=>exact absurd (hT j oj hoj hT') hDj
    have h2:=wpOp_putIf hoj (hfree j oj hoj hji hjun hnot) (fun cs b=>hsel i oi cs b hi) (fun cs b=>hsel j oj cs b hoj) hQ hy h1
    have hDl':∀ k∈D,(listed.setIfInBounds j true).getD k false=false:=fun k hk=>by
     have hkj:j≠k:=fun e=>hDj (e ▸ hk)
     have:=hDl k hk
     simp only [Array.getD_eq_getD_getElem?] at this ⊢
     rw [Array.getElem?_setIfInBounds_ne hkj];exact this
    have hfree':∀ k ok,ops[k]? = some ok->k≠i->(listed.setIfInBounds j true).getD k true=false ->
     (∀ e∈ok.after,Region.binds md e=true->e.on≠i)->oi.apart ops ok=true:=fun k ok hk hki hun hno=>by
     refine hfree k ok hk hki ?_ hno
     by_cases hjk:j=k
     ·subst hjk;exact hjun
     ·simp only [Array.getD_eq_getD_getElem?] at hun ⊢
      rw [Array.getElem?_setIfInBounds_ne hjk] at hun;exact hun
    refine wpOp_mono (fun a' w' h3=>⟨h3.2.1,ih (listed.setIfInBounds j true) a' w' hDl' hfree' (ready_keep hr (Ne.symm hji)) h3.1 (h3.2.1 hTj) ?_⟩) h2
    rw [Array.setIfInBounds_comm _ _ hji]
    exact h3.2.2
def waitD (md:Region.Mode) (ops:Array Oper) (T:Nat->Bool) (D:List Nat) (listed:Array Bool) (i:Nat):Bool :=
 !T i && ((List.range ops.size).all (fun j=>!T j || D.contains j) && D.all fun j=>!listed.getD j false && ((ops[j]?).map fun o=>o.after.any fun e=>Region.binds md e && (e.on == i || D.contains e.on)).getD true)
theorem wpAnyS_takeD (i:Nat) (D:List Nat) {v:Value} {fuel:Nat} {listed:Array Bool} {a:Act} {w:World}
 (hs:Region.noSelect ops=true) (hf:Region.free md ops listed i=true) (hr:(Region.ready md ops listed).contains i=true) (ht:waitD md ops T D listed i=true)
 (hQ:∀ d c a w,Q (.panic c) (a.put d v) w->Q (.panic c) a w) (hS:S w)
 (hy:∀ oi,ops[i]? = some oi->YieldsIf P ops S oi v a)
 (h:∀ d,(ops[i]?).bind (·.dst)=d->wpAnyS P md ops Q S T fuel (listed.setIfInBounds i true) (a.put d v) w):wpAnyS P md ops Q S T (fuel+1) listed a w:=by
 have hm:i∈Region.ready md ops listed:=by simpa using hr
 obtain ⟨_,oi,hi,_⟩:=ready_spec hm
 unfold waitD at ht
 rw [Bool.and_eq_true,Bool.and_eq_true] at ht
 obtain ⟨h1,h2,h3⟩:=ht
 rw [List.all_eq_true] at h2 h3
 refine wpAnyS_firstD (D:=D) hi (Region.noSelect_spec hs) (fun c a w=>hQ _ c a w) (fun j oj hj hT=>?_) (fun j hj oj ho=>?_) (by simpa using h1) fuel listed a w (fun j hj=>?_) (Region.free_spec hi hf) hm (hy oi hi) hS (h _ (by rw [hi];rfl))
 ·have:=h2 j (List.mem_range.2 (Array.getElem?_eq_some_iff.1 hj).1)
  rw [hT] at this;simpa using this
 ·have:=h3 j hj
  rw [Bool.and_eq_true,ho] at this
  have:=this.2
  simp only [Option.map_some,Option.getD_some] at this
  rw [Array.any_eq_true'] at this
  obtain ⟨e,he,h4⟩:=this
  rw [Bool.and_eq_true,Bool.or_eq_true,beq_iff_eq,List.contains_iff_mem] at h4
  exact ⟨e,he,h4⟩
 ·have:=h3 j hj
  rw [Bool.and_eq_true] at this
  simpa using this.1
end
structure Kv (va:Nat) (vw:Value) (w:World) (vw':Value) (w':World):Prop where
 but:But (Mv va vw) w w'
 row:∀ g,vw'.ownBlock=some g->vw.ownBlock=some g\/w.heap.size<=g
theorem Kv.obj {va:Nat} {vw vw':Value} {w w':World} (h:Kv va vw w vw' w') {b:Nat} {o:Obj} (hF:Fv va vw b) (ho:w.heap[b]? = some o):Fv va vw' b/\w'.heap[b]? = some o :=
 ⟨⟨hF.1,fun e=>by
   rcases h.row b e with h1 | h1
   ·exact hF.2 h1
   ·have:=lt_of_heap ho;omega⟩,by rw [h.but.block b (lt_of_heap ho) (fun e=>e.elim hF.1 hF.2)];exact ho⟩
theorem Kv.rep {va:Nat} {vw vw':Value} {w w':World} (h:Kv va vw w vw' w') {d:DV} {x:Value} (hr:Rep (Fv va vw) w d x):Rep (Fv va vw') w' d x:=Fv.keep h.but h.row hr
theorem Kv.trans {va:Nat} {vw vw' vw'':Value} {w w' w'':World} (h:Kv va vw w vw' w') (k:Kv va vw' w' vw'' w''):Kv va vw w vw'' w'' :=
 ⟨h.but.trans' k.but (fun i hi hm=>hm.imp id (fun e=>(h.row i e).resolve_right (by omega))),fun g hg=>(k.row g hg).elim (fun e=>h.row g e) (fun e=>.inr (Nat.le_trans h.but.size e))⟩
theorem Kv.below {va:Nat} {vw:Value} {w w':World} (hb:Below w.heap.size w w'):Kv va vw w vw w':=⟨But.ofBelow hb,fun _ hg=>.inl hg⟩
theorem AddIn.kv {w:World} {va:Nat} {kv:Value} {va2:Option Addr} {vc:Nat} {us:List (Value×Value)} {L:List Pl} {l:Pl} {a3 a4:Option Addr} {n3 c3 c4:Nat} {B:Nat} {W:World} (_h:AddIn w va kv va2 vc us L l a3 a4 n3 c3 c4 B W) {a5:Option Addr} {c5:Nat} {w5:World} {o:Obj}
 (hb5:But (fun b=>(Value.slice va2 us.length vc).ownBlock=some b) (W.drew.alloc o) w5) (hg5:∀ g,(Value.slice a5 (us.length+1) c5).ownBlock=some g->(Value.slice va2 us.length vc).ownBlock=some g\/W.heap.size<=g) :
 Kv va (.slice va2 us.length vc) W (.slice a5 (us.length+1) c5) (w5.setCell ⟨va,1,none⟩ (.slice a5 (us.length+1) c5)) :=
 ⟨((But.ofBelow ((Below.drew (Below.refl W.heap.size W)).alloc (Nat.le_refl _) _):But (Mv va (.slice va2 us.length vc)) W (W.drew.alloc o)).trans (hb5.weak fun i _ hi=>.inr hi)).setCell (p:=⟨va,1,none⟩) (.inl (.inl rfl)) _,hg5⟩
structure AskC (t:Ty) (hand:List Ty) (lv:List Place) (bg:Place) (l:Nat) (ss:List Bd) (y n:Bd) (v:Pl) (pl:Place) (a:Ty):Prop where
 t15:atomsT t<=15
 hl:lv[l]? = some pl
 hat:atT t pl.2=some a
 pf:PlFit t lv hand v.length
 fs:fitBs (hands hand a.args) ss
 fy:fitB hand y
 fn:fitB hand n
 len:ss.length=a.args.length
 p7:pl.2.length<=7
 a7:a.args.length<=7
 bgl:bg.2.length<=1000
 v1:1<=v.length
 v58:v.length<=58
 ll:lv.length<=8*(v.length+1)
theorem AskC.of {t:Ty} {l:Nat} {ss:List Bd} {y n:Bd} {hand:List Ty} {lv:List Place} {bg:Place} {v:Pl} {kv bv lsl mv pt:Value} {va:Nat} {vw:Value} {us:List (Value×Value)} {L:List Pl} {w:World}
 (h:CollIn t (.ask l ss y n) hand lv bg v kv bv lsl mv pt va vw us L w) (hv:¬ 59<=v.length):∃ pl a,AskC t hand lv bg l ss y n v pl a:=by
 have hf:=h.fit
 have hf2:=fit_parts hf
 rw [fitB] at hf
 obtain ⟨a,h1,h2,h3,h4⟩:=hf
 obtain ⟨a',h1',_,hlen⟩:=hf2
 obtain rfl:a=a':=Option.some.inj (h1.symm.trans h1')
 obtain ⟨pl,hl,hat,_⟩:=h.pf.each l a h1
 have e1:=atT_len _ _ _ hat
 have e2:=args_len a
 have e3:=h.t15
 exact ⟨pl,a,h.t15,hl,hat,h.pf,h2,h3,h4,hlen,by omega,by omega,h.bgl,h.v1,by omega,h.ll⟩
structure AskV (t:Ty) (l:Nat) (ss:List Bd) (y n:Bd) (lv:List Place) (bg:Place) (asked:Pl) (kv bv lsl mv pt:Value) (B0 B1:Nat) (va:Nat) (vw:Value) (w:World):Prop where
 g:Glob w
 ng:∀ g,Mv va vw g->NotG g
 rk:Rep (Fv va vw) w (encK t) kv
 rb:Rep (Fv va vw) w (encB (.ask l ss y n)) bv
 rl:LvRep (Fv va vw) w lv lsl
 rm:MvRep (Fv va vw) w asked mv
 rp:PtRep (Fv va vw) w asked pt
 f0:Fv va vw B0
 b0:w.heap[B0]? = some (.cells #[bv,lsl,.int .i64 (bg.1:Nat),str bg.2] 56 (0,0))
 f1:Fv va vw B1
 b1:w.heap[B1]? = some (.cells #[mv,pt] 39 (0,0))
theorem AskV.keep {t:Ty} {l:Nat} {ss:List Bd} {y n:Bd} {lv:List Place} {bg:Place} {asked:Pl} {kv bv lsl mv pt:Value} {B0 B1:Nat} {va:Nat} {vw vw':Value} {w w':World}
 (h:AskV t l ss y n lv bg asked kv bv lsl mv pt B0 B1 va vw w) (k:Kv va vw w vw' w'):AskV t l ss y n lv bg asked kv bv lsl mv pt B0 B1 va vw' w' :=
 ⟨h.g.but k.but h.ng,fun g hg=>hg.elim (fun e=>h.ng g (.inl e)) (fun e=>(k.row g e).elim (fun e=>h.ng g (.inr e)) (fun e=>h.g.new e)),k.rep h.rk,k.rep h.rb,k.rep h.rl,k.rep h.rm,k.rep h.rp,
  (k.obj h.f0 h.b0).1,(k.obj h.f0 h.b0).2,(k.obj h.f1 h.b1).1,(k.obj h.f1 h.b1).2⟩
def BehC (o:Option (List Pl)) (kv:Value) (mvn ptn:Value) (va:Nat) (vw:Value) (us:List (Value×Value)) (L:List Pl) (wz:World) (en:Ending) (w':World):Prop :=
 ∃ (a:Nat) (la:Option Addr) (ln lc bgn:Nat) (bgp:Bs),en=.returned (.agg #[.pointer (some ⟨a,0,none⟩),.slice la ln lc,.int .i64 (bgn:Nat),str bgp])/\Below wz.heap.size wz w' /\
   Calls Tryd.prog 13 #[.pointer (some ⟨va,0,none⟩),.agg #[.pointer (some ⟨a,0,none⟩),.slice la ln lc,.int .i64 (bgn:Nat),str bgp],.agg #[mvn,ptn]] w' (CollOut o kv va vw us L w')
structure AnsIn (kv:Value) (M:Bs) (k z:Nat) (asked:Pl) (mvn ptn:Value) (va:Nat) (vw:Value) (us:List (Value×Value)) (L:List Pl) (w:World):Prop where
 blk:w.heap[va]? = some (.cells #[kv,vw] 50 (0,0))
 pls:PlsAt w L vw us
 cnt:L.length+z<=1000
 play:PlayAt w (asked++[(M,(k:Int))]) mvn ptn
 fresh:∀ g,mvn.ownBlock=some g\/ptn.ownBlock=some g->Fv va vw g
theorem AnsIn.coll {t:Ty} {l:Nat} {ss:List Bd} {y n:Bd} {hand:List Ty} {lv:List Place} {bg:Place} {v:Pl} {pl:Place} {a:Ty} {kv bv lsl mv pt:Value} {B0 B1:Nat} {va:Nat} {vw:Value} {us:List (Value×Value)} {L:List Pl} {wx w':World} {M:Bs} {z:Nat} {x:Bs×Int} {mvn ptn:Value}
 (hc:AskC t hand lv bg l ss y n v pl a) (hA:AskV t l ss y n lv bg (v++[x]) kv bv lsl mv pt B0 B1 va vw wx) (hI:AnsIn kv M v.length z (v++[x]) mvn ptn va vw us L wx) (hb:Below wx.heap.size wx w')
 {b:Bd} {hand':List Ty} {lv':List Place} {bg':Place} {bv' lsl':Value} (hr:Rep (Fv va vw) w' (encB b) bv') (hrl:LvRep (Fv va vw) w' lv' lsl') (hf:fitB hand' b) (hpf:PlFit t lv' hand' (v.length+2)) (hbg:bg'.2.length<=1000) (hll:lv'.length<=lv.length+7) (hz:sizeB b<=z) :
 CollIn t b hand' lv' bg' (v++[x]++[(M,(v.length:Int))]) kv bv' lsl' mvn ptn va vw us L w':=by
 have hl:(v++[x]++[(M,(v.length:Int))]).length=v.length+2:=by simp
 have hmv:=(hI.play.below hb).mv hI.fresh
 refine { g:=hA.g.below hb,t15:=hc.t15,rk:=hA.rk.below hb (fun _ h=>h),rb:=hr,rl:=hrl,rm:=hmv.1,rp:=hmv.2,fit:=hf,pf:=by rw [hl];exact hpf,bgl:=hbg,v1:=by rw [hl];omega,v60:=?_,ll:=?_,blk:=(hb.block _ (lt_of_heap hI.blk)).trans hI.blk,pls:=hI.pls.below hb,cnt:=?_,ng:=hA.ng }
 ·rw [hl];have:=hc.v58;omega
 ·rw [hl];have:=hc.ll;omega
 ·have:=hI.cnt;omega
theorem ask_leafstep (c:UInt8) (hcc:c=116\/c=102) {t:Ty} {l:Nat} {ss:List Bd} {y n:Bd} {hand:List Ty} {lv:List Place} {bg:Place} {v:Pl} {pl:Place} {a:Ty} {kv bv lsl mv pt:Value} {B0 B1:Nat} {va:Nat} {vw:Value} {us:List (Value×Value)} {L:List Pl} {wx wz:World} {z:Nat} {x:Bs×Int} {mvn ptn:Value}
 (b:Bd) (hbb:b=if c=116 then y else n) (ih:CollSaid t b) (hfb:fitB hand b) (hc:AskC t hand lv bg l ss y n v pl a) (hA:AskV t l ss y n lv bg (v++[x]) kv bv lsl mv pt B0 B1 va vw wx)
 (hI:AnsIn kv (c::pl.2) v.length z (v++[x]) mvn ptn va vw us L wx) (hz:sizeB b<=z) (hwz:Below wx.heap.size wx wz) :
 Calls Tryd.prog 32 #[.agg #[bv,lsl,.int .i64 (bg.1:Nat),str bg.2],kv,str (c::pl.2),.int .i64 ((v.length+1:Nat):Int)] wz (BehC (viewsB t b lv bg (v++[x]++[(c::pl.2,(v.length:Int))])) kv mvn ptn va vw us L wz):=by
 obtain ⟨la,lc,rfl,_⟩:=hA.rl.open
 obtain ⟨kb,ks,rfl,_⟩:=encK_open hA.rk
 refine (behind_ans c hcc (Fv va vw) l ss y n bv _ la lv.length lc bg (c::pl.2) (v.length+1) wz (hA.rb.below hwz (fun _ h=>h)) (by simp) rfl ⟨_,rfl⟩).mono ?_
 rintro en w' ⟨a0,rfl,hb,hr⟩
 rw [<- hbb] at hr
 have hb':=hwz.trans (hb.mono hwz.size)
 refine ⟨a0,la,lv.length,lc,bg.1,bg.2,rfl,hb,ih hand lv bg _ _ _ _ _ _ va vw us L w' ?_⟩
 exact AnsIn.coll hc hA hI hb' (hr.below hb (fun _ h=>h)) (hA.rl.below hb' (fun _ h=>h)) hfb (hc.pf.mono (by omega)) hc.bgl (by omega) hz
theorem ask_kidstep {t:Ty} {l:Nat} {ss:List Bd} {y n:Bd} {hand:List Ty} {lv:List Place} {bg:Place} {v:Pl} {pl:Place} {a:Ty} {kv bv lsl mv pt:Value} {B0 B1:Nat} {va:Nat} {vw:Value} {us:List (Value×Value)} {L:List Pl} {wx wz:World} {z j:Nat} {x:Bs×Int} {mvn ptn:Value}
 (s:Bd) (hs:ss[j]? = some s) (ih:CollSaid t s) (hc:AskC t hand lv bg l ss y n v pl a) (hA:AskV t l ss y n lv bg (v++[x]) kv bv lsl mv pt B0 B1 va vw wx)
 (hI:AnsIn kv (113::(pl.2++dec j)) v.length z (v++[x]) mvn ptn va vw us L wx) (hz:sizeB s<=z) (hwz:Below wx.heap.size wx wz) :
 Calls Tryd.prog 32 #[.agg #[bv,lsl,.int .i64 (bg.1:Nat),str bg.2],kv,str (113::(pl.2++dec j)),.int .i64 ((v.length+1:Nat):Int)] wz (BehC (viewsB t s (lv++placesOf (argsAt t (pl.2++dec j)) (v.length+1) (pl.2++dec j)) (v.length+1,pl.2++dec j) (v++[x]++[(113::(pl.2++dec j),(v.length:Int))])) kv mvn ptn va vw us L wz):=by
 have hj:=(List.getElem?_eq_some_iff.1 hs).1
 have hl:=hc.len
 have h7:=hc.a7
 obtain ⟨h',hh',hfs⟩:=fitBs_at ss _ hc.fs j s hs
 rw [hands,List.getElem?_map,Option.map_eq_some_iff] at hh'
 obtain ⟨aj,haj,rfl⟩:=hh'
 have hat:atT t (pl.2++dec j)=some aj:=by rw [atT_append,hc.hat,Option.bind_some,dec_small (by omega),atT_digit _ (by omega)];exact haj
 have e0:argsAt t (pl.2++dec j)=aj.args.length:=by unfold argsAt;rw [hat]
 have e1:=atT_len _ _ _ hat
 have e2:=args_len aj
 have e3:=hc.t15
 have e4:=hc.ll
 have e5:=hc.v58
 rw [e0]
 refine (behind_q (Fv va vw) t aj l j ss s y n bv kv lsl lv bg (pl.2++dec j) (v.length+1) wz (hA.g.below hwz) (hA.rb.below hwz (fun _ h=>h)) (hA.rk.below hwz (fun _ h=>h)) (hA.rl.below hwz (fun _ h=>h)) hc.t15 hs (by omega)
  (by rw [dec_small (by omega)];simp) (by omega) (by simp only [dec_small (show j<10 by omega)];simp) hat (by omega) (by omega)).mono ?_
 rintro en w' ⟨a0,la,lc,rfl,hb,hr,hlv⟩
 have hb':=hwz.trans (hb.mono hwz.size)
 have hva:=lt_of_heap hI.blk
 have hF:∀ b,wz.heap.size<=b->Fv va vw b:=fun b hb=>⟨fun e=>by have:=hwz.size;omega,fun e=>by have:=hI.pls.lt (.inl e);have:=hwz.size;omega⟩
 refine ⟨a0,la,_,lc,v.length+1,pl.2++dec j,rfl,hb,ih (hand++aj.args) (lv++placesOf aj.args.length (v.length+1) (pl.2++dec j)) (v.length+1,pl.2++dec j) _ _ _ _ _ _ va vw us L w' ?_⟩
 exact AnsIn.coll hc hA hI hb' (hr.below hb (fun _ h=>h)) (hlv.but (m:=fun _=>False) (But.refl _ _) fun b h=>⟨id,hF b h⟩) hfs (hc.pf.kid (by omega) (by omega) hat (by omega)) (by show (pl.2++dec j).length<=_;omega) (by rw [List.length_append,placesOf_length];omega) hz
theorem ask_step {t:Ty} {l:Nat} {ss:List Bd} {y n:Bd} (ihs:∀ s∈ss,CollSaid t s) (ihy:CollSaid t y) (ihn:CollSaid t n) {hand:List Ty} {lv:List Place} {bg:Place} {v:Pl} {pl:Place} {a:Ty} (hc:AskC t hand lv bg l ss y n v pl a) (j:Nat) (hj:j<ss.length+2) (x:Bs×Int) :
 ∃ M o z,(ansAll ss.length pl.2)[j]? = some M/\(viewsAll t ss y n pl.2 v.length lv bg (v++[x]))[j]? = some o/\(szAll ss y n)[j]? = some z/\(∀ out,o=some out->out.length<=z)/\M.length<=1000 /\
   ∀ (kv bv lsl mv pt:Value) (B0 B1 va:Nat) (vw:Value) (us:List (Value×Value)) (L:List Pl) (wx wz:World) (mvn ptn:Value),AskV t l ss y n lv bg (v++[x]) kv bv lsl mv pt B0 B1 va vw wx->AnsIn kv M v.length z (v++[x]) mvn ptn va vw us L wx->Below wx.heap.size wx wz ->
     Calls Tryd.prog 32 #[.agg #[bv,lsl,.int .i64 (bg.1:Nat),str bg.2],kv,str M,.int .i64 ((v.length:Int)+1)] wz (BehC o kv mvn ptn va vw us L wz):=by
 obtain ⟨M,o,h1,h2,h3⟩:=ans_at t ss y n pl.2 v.length lv bg (v++[x]) j hj
 obtain ⟨z,h4,h5⟩:=h3.size
 have p7:=hc.p7
 have a7:=hc.a7
 have hl:=hc.len
 refine ⟨M,o,z,h1,h2,h4,h5,?_,?_⟩
 ·cases h3 with
  | kid s hs =>
    have hj:=(List.getElem?_eq_some_iff.1 hs).1
    rw [dec_small (by omega)];simp;omega
  | yes _=>simp;omega
  | no _=>simp;omega
 ·intro kv bv lsl mv pt B0 B1 va vw us L wx wz mvn ptn hA hI hwz
  cases h3 with
  | kid s hs =>
    have hj:=(List.getElem?_eq_some_iff.1 hs).1
    rw [szAll,List.getElem?_append_left (by rw [List.length_map];exact hj),List.getElem?_map,hs] at h4
    exact ask_kidstep s hs (ihs s (List.mem_of_getElem? hs)) hc hA hI (Nat.le_of_eq (Option.some.inj h4)) hwz
  | yes e =>
    subst e
    rw [szAll,List.getElem?_append_right (by rw [List.length_map];omega),List.length_map,Nat.sub_self] at h4
    exact ask_leafstep 116 (.inl rfl) y rfl ihy hc.fy hc hA hI (Nat.le_of_eq (Option.some.inj h4)) hwz
  | no e =>
    subst e
    rw [szAll,List.getElem?_append_right (by rw [List.length_map];omega),List.length_map,Nat.add_sub_cancel_left] at h4
    exact ask_leafstep 102 (.inr rfl) n rfl ihn hc.fn hc hA hI (Nat.le_of_eq (Option.some.inj h4)) hwz
set_option maxRecDepth 100000 in
theorem coll_ask (t:Ty) (l:Nat) (ss:List Bd) (y n:Bd) (ihs:∀ s∈ss,CollSaid t s) (ihy:CollSaid t y) (ihn:CollSaid t n) (hand:List Ty) (lv:List Place) (bg:Place) (v:Pl) (kv bv lsl mv pt:Value) (va:Nat) (vw:Value) (us:List (Value×Value)) (L:List Pl) (w:World) (h:CollIn t (.ask l ss y n) hand lv bg v kv bv lsl mv pt va vw us L w) (hv:¬ 59<=v.length) :
 Calls Tryd.prog 13 #[.pointer (some ⟨va,0,none⟩),.agg #[bv,lsl,.int .i64 (bg.1:Nat),str bg.2],.agg #[mv,pt]] w (CollOut (viewsB t (.ask l ss y n) lv bg v) kv va vw us L w):=by
 obtain ⟨⟨pb,p⟩,a,hc⟩:=AskC.of h hv
 have CI:=Lib.hid (fun wz (hz:But (Mv va vw) w wz)=>isList_ask (fun _=>True) wz l ss y n bv (h.rb.but hz (fun b hb=>⟨fun e=>e.elim hb.1 hb.2,trivial⟩)))
 have CT:=Lib.hid (fun wz (hz:Below w.heap.size w wz)=>tells_ask (Fv va vw) l ss y n bv lsl lv bg (pb,p) wz (h.rb.below hz (fun _ h=>h)) (h.rl.below hz (fun _ h=>h)) hc.hl (by have:=hc.p7;omega) (by have:=hc.ll;have:=hc.v58;omega))
 have CWI:=Lib.hid (fun wz (hz:Below w.heap.size w wz)=>with_any v mv pt (113::p) (pb:Int) wz (h.rm.src.below hz) (h.rp.src.below hz) (by have:=h.v60;omega))
 have SP:=Lib.hid (fun j hj=>ask_step ihs ihy ihn hc j hj (113::p,(pb:Int)))
 obtain ⟨kb,ks,rfl,_⟩:=encK_open h.rk
 obtain ⟨b,sl,yv,nv,rfl,hFb,hbc,hsl,_⟩:=ask_open h.rb
 obtain ⟨sa,sc,rfl,_⟩:=Rep_sl1_open hsl
 obtain ⟨a1,c1,rfl⟩:=h.rm.src.slice
 obtain ⟨a2,c2,rfl⟩:=h.rp.src.slice
 obtain ⟨la,lc,rfl,_⟩:=h.rl.open
 obtain ⟨va2,vc,rfl⟩:=h.pls.own.slice
 obtain ⟨W,hW,hbW,hz,b0,b1⟩:=boxes_2 w (.cells #[.pointer (some ⟨b,0,none⟩),.slice la lv.length lc,.int .i64 (bg.1:Nat),str bg.2] 56) (.cells #[.slice a1 v.length c1,.slice a2 v.length c2] 39)
 obtain ⟨e0,e1,e2,e3⟩:=cells_4 b0
 obtain ⟨v0,_,_,_⟩:=cells_2 b1
 have d0:W.cell? ⟨b,0,none⟩=some (.string ⟨#[]⟩):=(hbW.cell (by exact lt_of_heap hbc)).trans (by simp [World.cell?,hbc])
 have hvI:¬ (60:Int)<=(v.length:Int):=by omega
 have hvJ:¬ (59:Int)<=(v.length:Int):=by omega
 have HW:=Lib.hid (And.intro hW (And.intro hbW (And.intro hz (And.intro b0 b1))))
 have HBC:=Lib.hid (And.intro hFb hbc)
 have H:=Lib.hid h
 have HC:=Lib.hid hc
 obtain ⟨M,hM⟩:∃ M,M=113::p:=⟨_,rfl⟩
 rw [<- hM] at CT CWI
 have HM:=Lib.hid hM
 clear h hW hbW hz b0 b1 hbc hFb hsl hv hM hc
 go_enter Tryd.func13,Tryd.ntmps13
 go_upto_region 1 with (fail)
 rw [HW.out.1]
 go_wp2_with fail
 (with_reducible refine (CI.out W (But.ofBelow HW.out.2.1)).mono ?_)
 rintro en wA ⟨rfl,ew⟩
 subst ew
 go_wp2_with fail
 (with_reducible refine (CT.out wA HW.out.2.1).mono ?_)
 rintro en w1 ⟨rfl,hb1⟩
 have HB1:=Lib.hid (HW.out.2.1.trans (hb1.mono HW.out.2.1.size))
 have bx1:=(hb1.block _ (lt_of_heap HW.out.2.2.2.2)).trans HW.out.2.2.2.2
 have by1:=(hb1.block _ (lt_of_heap HW.out.2.2.2.1)).trans HW.out.2.2.2.1
 obtain ⟨x0,x1,_,_⟩:=cells_2 bx1
 have HX:=Lib.hid (And.intro bx1 by1)
 clear hb1 bx1 by1 e0 e1 e2 e3 v0 d0
 go_wp2_with fail
 (with_reducible refine (CWI.out w1 HB1.out).mono ?_)
 rintro en w2 ⟨mv2,pt2,rfl,hp2,hb2,hf2⟩
 obtain ⟨l3,hl3⟩:∃ l3,v++[(M,(pb:Int))]=l3:=⟨_,rfl⟩
 rw [hl3] at hp2
 obtain ⟨n3,hn3⟩:∃ n3,l3.length=n3:=⟨_,rfl⟩
 have hn3v:n3=v.length+1:=by rw [<- hn3,<- hl3];simp
 have HL3:=Lib.hid (And.intro hl3 (And.intro hn3 hn3v))
 obtain ⟨a3,c3,e3⟩:=hp2.1.slice
 obtain ⟨a4,c4,e4⟩:=hp2.2.slice
 rw [hn3] at e3 e4
 subst e3;subst e4
 have hw12:Below w.heap.size w w2:=HB1.out.trans (hb2.mono HB1.out.size)
 have hs1:w.heap.size+2<=w1.heap.size:=by have:=lt_of_heap HX.out.1;omega
 have bx2:=(hb2.block _ (lt_of_heap HX.out.1)).trans HX.out.1
 have by2:=(hb2.block _ (lt_of_heap HX.out.2)).trans HX.out.2
 have f0:=frozen_4 bx2 0;have f1:=frozen_4 bx2 1
 obtain ⟨x0,x1,_,_⟩:=cells_2 bx2
 obtain ⟨W3,hW3⟩:∃ W3,(w2.setCell ⟨w.heap.size+1,0,none⟩ (.slice a3 n3 c3)).setCell ⟨w.heap.size+1,1,none⟩ (.slice a4 n3 c4)=W3:=⟨_,rfl⟩
 have oth:∀ g,g≠w.heap.size+1->W3.heap[g]? = w2.heap[g]?:=fun g hg=>by rw [<- hW3,Below.heap_setCell _ _ _ _ (by show g≠w.heap.size+1;exact hg),Below.heap_setCell _ _ _ _ (by show g≠w.heap.size+1;exact hg)]
 have hb3:Below w.heap.size w W3:=by rw [<- hW3];exact (hw12.setCell (p:=⟨w.heap.size+1,0,none⟩) (Nat.le_succ _) _).setCell (p:=⟨w.heap.size+1,1,none⟩) (Nat.le_succ _) _
 have ADD:AddIn w va (.pointer (some ⟨kb,0,none⟩)) va2 vc us L l3 a3 a4 n3 c3 c4 (w.heap.size+1) W3:=by
  have hlt:∀ {g:Nat},PlB (.slice va2 us.length vc) us g->g<w.heap.size:=fun hg=>H.out.pls.lt hg
  refine ⟨(H.out.pls.below hb3).own,H.out.pls.below hb3,⟨?_,?_⟩,(hb3.block _ (lt_of_heap H.out.blk)).trans H.out.blk,by rw [<- hW3];exact set_two bx2 _ _,fun e=>H.out.pls.not_at H.out.blk (.inl e),fun e=>by have:=hlt (.inl e);omega,fun g hg=>by have:=hf2 g hg;omega,fun g hg=>hlt hg⟩
  ·rw [<- hn3];rw [<- hn3] at hp2;exact hp2.1.keep fun g o hg ho=>by
    have:=hf2 g (.inl (by rw [<- hn3];exact hg))
    rw [oth g (by omega)];exact ho
  ·rw [<- hn3];rw [<- hn3] at hp2;exact hp2.2.keep fun g o hg ho=>by
    have:=hf2 g (.inr (by rw [<- hn3];exact hg))
    rw [oth g (by omega)];exact ho
 have AV3:AskV t l ss y n lv bg l3 (.pointer (some ⟨kb,0,none⟩)) (.pointer (some ⟨b,0,none⟩)) (.slice la lv.length lc) (.slice a3 n3 c3) (.slice a4 n3 c4) w.heap.size (w.heap.size+1) va (.slice va2 us.length vc) W3:=by
  have hF:∀ g,w.heap.size<=g->Fv va (.slice va2 us.length vc) g:=fun g hg=>⟨fun e=>by have:=lt_of_heap H.out.blk;omega,fun e=>by have:=H.out.pls.lt (.inl e);omega⟩
  have hmv:=ADD.play.mv (F:=Fv va (.slice va2 us.length vc)) (fun g hg=>hF g (ADD.new g hg))
  exact ⟨H.out.g.below hb3,H.out.ng,H.out.rk.below hb3 (fun _ h=>h),H.out.rb.below hb3 (fun _ h=>h),H.out.rl.below hb3 (fun _ h=>h),hmv.1,hmv.2,hF _ (Nat.le_refl _),(oth w.heap.size (by omega)).trans by2,hF _ (Nat.le_succ _),ADD.box⟩
 have H3:=Lib.hid ADD
 have HV3:=Lib.hid AV3
 have HB3:=Lib.hid (And.intro hW3 (And.intro hb3 ((oth w.heap.size (by omega)).trans by2)))
 have husl:us.length<=1000:=by have h1:=H.out.cnt;have h2:=PlsAt.length H.out.pls;omega
 clear ADD AV3 hW3 hb3 oth by2 hb2 hf2 hp2 hw12 hn3 hl3 hs1 hn3v
 go_upto_region 7 with (fail)
 rw [HB3.out.1]
 clear x0 x1 f0 f1 bx2
 refine wp_region_noPanic ?_
 refine wp_region_S (fun w'=>w'.cell? ⟨va,1,none⟩=some (.slice va2 us.length vc)/\w'.cell? ⟨w.heap.size+1,0,none⟩=some (.slice a3 n3 c3)/\w'.cell? ⟨w.heap.size+1,1,none⟩=some (.slice a4 n3 c4)) (fun i=>i == 10) (by kernel_rfl) ?_
 have hSd:(fun w'=>w'.cell? ⟨va,1,none⟩=some (.slice va2 us.length vc)/\w'.cell? ⟨w.heap.size+1,0,none⟩=some (.slice a3 n3 c3)/\w'.cell? ⟨w.heap.size+1,1,none⟩=some (.slice a4 n3 c4)) W3.drew:=H3.out.cells
 refine wpAnyS_take 0 (v:=?_) (by kernel_rfl) (by kernel_rfl) (by kernel_rfl) (by kernel_rfl) (fun _ _ _ _ h=>h) hSd ?_ ?_
 rotate_left
 ·(intro oi ho;simp at ho;subst ho;refine Or.inl ⟨by rfl,fun w' hw'=>?_⟩;go_simp;try with_reducible rfl)
 (intro d hd;simp at hd;subst hd;simp only [Act.put,List.setIfInBounds_toArray,List.set_cons_zero,List.set_cons_succ])
 refine wpAnyS_take 1 (v:=?_) (by kernel_rfl) (by kernel_rfl) (by kernel_rfl) (by kernel_rfl) (fun _ _ _ _ h=>h) hSd ?_ ?_
 rotate_left
 ·(intro oi ho;simp at ho;subst ho;refine Or.inl ⟨by rfl,fun w' hw'=>?_⟩;go_simp;try with_reducible rfl)
 (intro d hd;simp at hd;subst hd;simp only [Act.put,List.setIfInBounds_toArray,List.set_cons_zero,List.set_cons_succ])
 refine wpAnyS_take 2 (v:=?_) (by kernel_rfl) (by kernel_rfl) (by kernel_rfl) (by kernel_rfl) (fun _ _ _ _ h=>h) hSd ?_ ?_
 rotate_left
 ·(intro oi ho;simp at ho;subst ho;refine Or.inl ⟨by rfl,fun w' hw'=>?_⟩;go_simp;try with_reducible rfl)
 (intro d hd;simp at hd;subst hd;simp only [Act.put,List.setIfInBounds_toArray,List.set_cons_zero,List.set_cons_succ])
 refine wpAnyS_take 3 (v:=?_) (by kernel_rfl) (by kernel_rfl) (by kernel_rfl) (by kernel_rfl) (fun _ _ _ _ h=>h) hSd ?_ ?_
 rotate_left
 ·(intro oi ho;simp at ho;subst ho;refine Or.inl ⟨by rfl,fun w' hw'=>?_⟩;go_simp;try with_reducible rfl)
 (intro d hd;simp at hd;subst hd;simp only [Act.put,List.setIfInBounds_toArray,List.set_cons_zero,List.set_cons_succ])
 refine wpAnyS_take 4 (v:=?_) (by kernel_rfl) (by kernel_rfl) (by kernel_rfl) (by kernel_rfl) (fun _ _ _ _ h=>h) hSd ?_ ?_
 rotate_left
 ·(intro oi ho;simp at ho;subst ho;refine Or.inl ⟨by rfl,fun w' hw'=>?_⟩;obtain ⟨e0,e1,e2⟩:=hw';go_simp;try with_reducible rfl)
 (intro d hd;simp at hd;subst hd;simp only [Act.put,List.setIfInBounds_toArray,List.set_cons_zero,List.set_cons_succ])
 refine wpAnyS_take 5 (v:=?_) (by kernel_rfl) (by kernel_rfl) (by kernel_rfl) (by kernel_rfl) (fun _ _ _ _ h=>h) hSd ?_ ?_
 rotate_left
 ·(intro oi ho;simp at ho;subst ho;refine Or.inl ⟨by rfl,fun w' hw'=>?_⟩;obtain ⟨e0,e1,e2⟩:=hw';go_simp;try with_reducible rfl)
 (intro d hd;simp at hd;subst hd;simp only [Act.put,List.setIfInBounds_toArray,List.set_cons_zero,List.set_cons_succ])
 refine wpAnyS_one 6 (by kernel_rfl) ?_
 (intro o6 ho K' hK;simp at ho;subst ho)
 go_simp
 refine hK.out _ _ ?_ ?_
 ·exact fun _=>⟨cell_alloc hSd.1,cell_alloc hSd.2.1,cell_alloc hSd.2.2⟩
 clear hK K'
 (try simp only [Act.put,List.setIfInBounds_toArray,List.set_cons_zero,List.set_cons_succ])
 refine wpAnyS_one 7 (by kernel_rfl) ?_
 (intro o7 ho K' hK;simp at ho;subst ho)
 refine step_append_gen (by rfl) _ _ _ (by rfl) 39 (.agg #[.slice none 0 0,.slice none 0 0]) 2 48 Tryd.underlying22 Tryd.infoPlay rfl (by decide) (.slice va2 us.length vc) us.length (plC us) (by rfl) (H3.out.own.alloc _) _ 1 [.slice a3 n3 c3,.slice a4 n3 c4] (by rfl) (SrcSl.litk #[.slice a3 n3 c3,.slice a4 n3 c4] rfl (by simp [Value.oneCell']) _ (by simp)) (by unfold maxLen;omega) (by omega) ?_
 intro a5 c5 w5 ho5 hb5 hg5
 have hS5:w5.cell? ⟨va,1,none⟩=some (.slice va2 us.length vc)/\w5.cell? ⟨w.heap.size+1,0,none⟩=some (.slice a3 n3 c3)/\w5.cell? ⟨w.heap.size+1,1,none⟩=some (.slice a4 n3 c4):=⟨(hb5.cell (World.block_lt_of_cell? _ _ (cell_alloc hSd.1)) H3.out.nva).trans (cell_alloc hSd.1),(hb5.cell (World.block_lt_of_cell? _ _ (cell_alloc hSd.2.1)) H3.out.nvb).trans (cell_alloc hSd.2.1),(hb5.cell (World.block_lt_of_cell? _ _ (cell_alloc hSd.2.2)) H3.out.nvb).trans (cell_alloc hSd.2.2)⟩
 refine hK.out _ _ ?_ ?_
 ·exact fun _=>hS5
 clear hK K'
 (try simp only [Act.put,List.setIfInBounds_toArray,List.set_cons_zero,List.set_cons_succ])
 refine wpAnyS_one 8 (by kernel_rfl) ?_
 (intro o8 ho K' hK;simp at ho;subst ho)
 go_simp
 refine hK.out _ _ ?_ ?_
 ·exact fun _=>hS5
 clear hK K'
 (try simp only [Act.put,List.setIfInBounds_toArray,List.set_cons_zero,List.set_cons_succ])
 refine wpAnyS_one 9 (by kernel_rfl) ?_
 (intro o9 ho K' hK;simp at ho;subst ho)
 go_simp
 refine hK.out _ _ ?_ ?_
 ·exact fun _=>hS5
 clear hK K'
 (try simp only [Act.put,List.setIfInBounds_toArray,List.set_cons_zero,List.set_cons_succ])
 refine wpAnyS_one 10 (by kernel_rfl) ?_
 (intro o10 ho K' hK;simp at ho;subst ho)
 have f5:w5.frozen? ⟨va,1,none⟩=false:=H3.out.frz w5 hb5
 obtain ⟨e0,e1,e2⟩:=hS5
 go_simp
 refine hK.out _ _ ?_ ?_
 ·intro h;simp at h
 clear hK K'
 (try simp only [Act.put,List.setIfInBounds_toArray,List.set_cons_zero,List.set_cons_succ])
 refine wpAnyS_done (by kernel_rfl) (NoPanic.normal ?_) _
 have hg5':∀ g,(Value.slice a5 (us.length+1) c5).ownBlock=some g->(Value.slice va2 us.length vc).ownBlock=some g\/W3.heap.size<=g:=fun g hg=>(hg5 g hg).imp id fun e=>by rw [e];simp
 have hkv:=H3.out.kv hb5 hg5'
 obtain ⟨V,hV,hbV,hvV,hpV,hgV,hoV⟩:=H3.out.done ho5 hb5 hg5' HB3.out.2.1 (lt_of_heap H.out.blk)
 rw [hV] at hkv ⊢
 have hAV:=HV3.out.keep hkv
 obtain ⟨s0,s1,s2,s3⟩:=cells_4 hAV.b0
 obtain ⟨t0,t1,_,_⟩:=cells_2 hAV.b1
 have CV:=Lib.hid (CI.out V hbV)
 have hbV2:V.heap[b]? = w.heap[b]?:=hbV.block _ (lt_of_heap HBC.out.2) (fun e=>e.elim HBC.out.1.1 HBC.out.1.2)
 have u2:V.cell? ⟨b,2,none⟩=some (.slice sa ss.length sc):=by simp [World.cell?,hbV2,HBC.out.2]
 have KV:Kv va (.slice va2 us.length vc) w (.slice a5 (us.length+1) c5) V:=⟨hbV,hgV⟩
 have HV:=Lib.hid (And.intro KV (And.intro hvV (And.intro hpV hAV)))
 clear hV hbV hvV hpV hgV hoV hSd ho5 hb5 hg5 hg5' f5 hkv hAV KV hbV2
 have hn31:IntKind.i64.wrap ((n3:Int)-1)=(v.length:Int):=by rw [HL3.out.2.2,show ((v.length+1:Nat):Int)-1=(v.length:Int) from by omega];exact wrap_nat _ (by have:=HC.out.v58;omega)
 go_wp2_with fail
 (with_reducible refine CV.out.mono ?_)
 rintro en wB ⟨rfl,ew⟩
 subst ew
 have hM:=HM.out
 subst hM
 have ex:(⟨(113::p).toArray⟩:ByteArray).extract 1 (p.length+1)=⟨p.toArray⟩:=ext_tail 113 p
 go_wp2_with fail
 go_loopw [11,72] (fun o i wr=>∃ k:Nat,k<=ss.length/\i=.int .i64 k/\∃ a c,o=.slice a k c/\Own wr 9 1 (.slice a k c) k ((ansL k p).map str)/\Below wB.heap.size wB wr/\(∀ g,(Value.slice a k c).ownBlock=some g->wB.heap.size<=g)) (fun _ i _=>ss.length-(intOf i).toNat)
 case atStart=>exact ⟨0,Nat.zero_le _,rfl,none,0,rfl,World.ownsRow_nil _ _ _ _,Below.refl _ _,fun g h=>by simp [Value.ownBlock] at h⟩
 case round =>
  obtain ⟨k,hk,rfl,a6,c6,rfl,ho,hb,hf⟩:=hrel
  have HO:=Lib.hid ho;have HF:=Lib.hid hf;have HB:=Lib.hid hb
  clear ho hf hb
  have hss7:ss.length<=7:=by have h1:=HC.out.len;have h2:=HC.out.a7;omega
  by_cases hlt:k<ss.length
  ·have hlt':(k:Int)<(ss.length:Int):=by omega
   have hk10:k<10:=by omega
   have ha1:=fun w0=>add_str (P:=Tryd.prog) [113] p (by have:p.length<=7:=HC.out.p7;simp;omega) w0
   have ha2:=fun w0=>add_str (P:=Tryd.prog) (113::p) [digit k] (by have:p.length<=7:=HC.out.p7;simp;omega) w0
   rw [List.singleton_append] at ha1
   obtain ⟨R,hR⟩:∃ R,R=113::p++[digit k]:=⟨_,rfl⟩
   rw [<- hR] at ha2
   obtain ⟨Q,hQ⟩:∃ Q,Q=113::p:=⟨_,rfl⟩
   rw [<- hQ] at ha1 ha2
   have HR:=Lib.hid (And.intro hQ hR)
   clear hQ hR
   have hcv:=fun w0=>conv_digit k hk10 w0
   have hw1:IntKind.i64.wrap (48+(k:Int))=48+(k:Int):=by rw [show 48+(k:Int)=((48+k:Nat):Int) from by omega];exact wrap_nat _ (by omega)
   have hw2:IntKind.i32.wrap (48+(k:Int))=48+(k:Int):=by simp [IntKind.wrap,IntKind.bits,IntKind.signed];omega
   go_wp2_with (at_builtin;refine wpList_append_gen rfl _ _ 36 rfl 9 (str []) 1 16 Tryd.underlying36 Tryd.infoStr2 rfl (by decide) (.slice a6 k c6) k ((ansL k p).map str) rfl ?c1 _ 1 [str R] rfl ?c2 ?c3 ?c4 ?_)
   case c1=>exact HO.out.alloc _
   case c2=>exact SrcSl.litk #[str R] rfl (by simp [str,Value.oneCell']) _ (by simp)
   case c3=>unfold maxLen;omega
   case c4=>omega
   intro a7 c7 w7 ho7 hb7 hg7
   have hA:Own w7 9 1 (.slice a7 (k+1) c7) (k+1) ((ansL (k+1) p).map str):=by
    rw [ansL_succ,List.map_append,dec_small hk10]
    rw [HR.out.2] at ho7;exact ho7
   have hb17:Below wB.heap.size wB w7:=by
    refine (HB.out.alloc HB.out.size _).trans (hb7.toBelow (by rw [size_alloc];have:=HB.out.size;omega) fun i hi e=>?_)
    have:=HF.out i e;omega
   have hf7:∀ g,(Value.slice a7 (k+1) c7).ownBlock=some g->wB.heap.size<=g:=by
    intro g h
    rcases hg7 g h with h | h
    ·exact HF.out g h
    ·have h2:=HB.out.size
     omega
   have HA:=Lib.hid (And.intro hA (And.intro hb17 hf7));clear hA hb17 hf7 ho7 hb7 hg7
   go_wp2_with fail
   go_roundw
   case rel=>exact ⟨k+1,by omega,by go_num,a7,c7,rfl,HA.out.1,HA.out.2.1,HA.out.2.2⟩
   case measure=>simp [intOf];omega
  ·obtain rfl:k=ss.length:=by omega
   have hR116:=fun w0=>add_str (P:=Tryd.prog) [116] p (by have:p.length<=7:=HC.out.p7;simp;omega) w0
   have hR102:=fun w0=>add_str (P:=Tryd.prog) [102] p (by have:p.length<=7:=HC.out.p7;simp;omega) w0
   rw [List.singleton_append] at hR116 hR102
   go_wp2_with (at_builtin;refine wpList_append_gen rfl _ _ 36 rfl 9 (str []) 1 16 Tryd.underlying36 Tryd.infoStr2 rfl (by decide) (.slice a6 ss.length c6) ss.length ((ansL ss.length p).map str) rfl ?c1 _ 2 [str (116::p),str (102::p)] rfl ?c2 ?c3 ?c4 ?_)
   case c1=>exact HO.out.alloc _
   case c2=>exact SrcSl.lits #[str (116::p),str (102::p)] 2 rfl (by simp [str,Value.oneCell']) _ (by rfl)
   case c3=>unfold maxLen;omega
   case c4=>omega
   intro a7 c7 w7 ho7 hb7 hg7
   have hbC:Below wB.heap.size wB w7:=by
    refine (HB.out.alloc HB.out.size _).trans (hb7.toBelow (by rw [size_alloc];have:=HB.out.size;omega) fun i hi e=>?_)
    have:=HF.out i e;omega
   have hfC:∀ g,(Value.slice a7 (ss.length+2) c7).ownBlock=some g->wB.heap.size<=g:=by
    intro g h
    rcases hg7 g h with h | h
    ·exact HF.out g h
    ·have h2:=HB.out.size
     omega
   obtain ⟨vw1,hvw1⟩:∃ x,Value.slice a5 (us.length+1) c5=x:=⟨_,rfl⟩
   rw [hvw1] at HV
   have hblkB:=HV.out.2.1
   have RA:Rep (Fv va vw1) w7 (.sl 9 1 (ss.length+2) (((ansAll ss.length p).map str).map DV.val)) (.slice a7 (ss.length+2) c7):=by
    have ho7':Own w7 9 1 (.slice a7 (ss.length+2) c7) (ss.length+2) ((ansAll ss.length p).map str):=by rw [ansAll,List.map_append];exact ho7
    refine ho7'.rep (fun g hg=>⟨fun e=>?_,fun e=>?_⟩) ((Reps_vals _ _).2 rfl)
    ·have h1:=hfC g hg;have h2:=lt_of_heap hblkB;omega
    ·have h1:=hfC g hg;have h2:=HV.out.2.2.1.lt (.inl e);omega
   have HC7:=Lib.hid (And.intro (HV.out.2.2.2.keep (Kv.below hbC)) (And.intro ((hbC.block _ (lt_of_heap hblkB)).trans hblkB) (And.intro (PlsG.below HV.out.2.2.1 hbC:PlsAt w7 _ _ _) (And.intro RA (HV.out.1.trans (Kv.below hbC))))))
   have HN:=Lib.hid (And.intro H3.out.new HB1.out)
   clear hvw1 ho7 hb7 hg7 hbC hfC hblkB RA hR116 hR102 u2 s0 s1 s2 s3 t0 t1 e0 e1 e2
   have hvl1:IntKind.i64.wrap ((v.length:Int)+1)=(v.length:Int)+1:=by rw [show (v.length:Int)+1=((v.length+1:Nat):Int) from by omega];exact wrap_nat _ (by have:=HC.out.v58;omega)
   go_wp2_with fail
   go_loopw [94] (fun i wr=>∃ k:Nat,k<=ss.length+2/\i=.int .i64 k/\∃ av vwk usk,joinO ((viewsAll t ss y n p v.length lv bg l3).take k)=some av/\Kv va vw1 w7 vwk wr/\wr.heap[va]? = some (.cells #[.pointer (some ⟨kb,0,none⟩),vwk] 50 (0,0)) /\
    PlsAt wr (L++[l3]++av) vwk (us++[(.slice a3 n3 c3,.slice a4 n3 c4)]++usk)/\(∀ u∈usk,∀ g,u.1.ownBlock=some g\/u.2.ownBlock=some g->w.heap.size<=g)/\av.length<=((szAll ss y n).take k).sum) (fun i _=>ss.length+2-(intOf i).toNat)
   case atStart=>exact ⟨0,Nat.zero_le _,rfl,[],vw1,[],rfl,Kv.below (Below.refl _ _),HC7.out.2.1,by rw [List.append_nil,List.append_nil];exact HC7.out.2.2.1,fun u hu=>by simp at hu,by simp⟩
   case round =>
    rename_i wr
    obtain ⟨k,hk,rfl,av,vwk,usk,hjo,hkv,hblk,hpls,hnew,hlen⟩:=hrel
    have hAk:=HC7.out.1.keep hkv
    by_cases hlt:k<ss.length+2
    ·have hlt':(k:Int)<((ss.length+2:Nat):Int):=by omega
     obtain ⟨M',o,z,hM',ho,hz,hoz,hM1,hstep⟩:=SP.out k hlt
     have hM'':(ansAll ss.length p)[k]? = some M':=hM'
     obtain ⟨ra,rc,e,_,_,hats⟩:=Rep_sl1_open (hkv.rep HC7.out.2.2.2.1)
     simp only [Value.slice.injEq] at e
     obtain ⟨rfl,_,rfl⟩:=e
     obtain ⟨rb,ro,ru,rd,rfl,_,_,hrd,hrc,hru⟩:=hats k hlt
     rw [List.getElem?_map,List.getElem?_map,hM''] at hrd
     obtain rfl:=Option.some.inj hrd
     rw [Rep_val] at hru
     subst hru
     rw [show (113::p,(pb:Int))=((113::p,(pb:Int)):Bs×Int) from rfl] at hstep
     have HS:=Lib.hid (And.intro hjo (And.intro hkv (And.intro hblk (And.intro hpls (And.intro hnew hlen)))))
     have HO2:=Lib.hid (And.intro ho (And.intro hz (And.intro hoz hstep)))
     have HAK:=Lib.hid hAk
     obtain ⟨t0,t1,_,_⟩:=cells_2 hAk.b1
     have CN:=Lib.hid (with_any l3 (.slice a3 n3 c3) (.slice a4 n3 c4) M' (v.length:Int) wr hAk.rm.src hAk.rp.src (by have h1:=HL3.out;have:=HC.out.v58;omega))
     clear hjo hkv hblk hpls hnew hlen ho hz hoz hstep hats hrd hM' hM'' hAk hM1
     go_wp2_with fail
     (with_reducible refine CN.out.mono ?_)
     rintro en w8 ⟨mvn,ptn,rfl,hpn,hb8,hf8⟩
     obtain ⟨a8,c8,e8⟩:=hpn.1.slice
     obtain ⟨a9,c9,e9⟩:=hpn.2.slice
     have hln:(l3++[(M',(v.length:Int))]).length=v.length+2:=by rw [List.length_append,HL3.out.2.1,HL3.out.2.2];simp
     rw [hln] at e8 e9
     subst e8;subst e9
     obtain ⟨W9,hW9,hbW9,hz9,bx9⟩:=box_1 w8 (.cells #[.slice a8 (v.length+2) c8,.slice a9 (v.length+2) c9] 39)
     have hb89:Below wr.heap.size wr W9:=hb8.trans (hbW9.mono hb8.size)
     have hA9:=HAK.out.keep (Kv.below (vw:=vwk) hb89)
     have hI9:AnsIn (.pointer (some ⟨kb,0,none⟩)) M' v.length z l3 (.slice a8 (v.length+2) c8) (.slice a9 (v.length+2) c9) va vwk (us++[(.slice a3 n3 c3,.slice a4 n3 c4)]++usk) (L++[l3]++av) W9:=by
      refine ⟨(hb89.block _ (lt_of_heap HS.out.2.2.1)).trans HS.out.2.2.1,PlsG.below HS.out.2.2.2.1 hb89,?_,hpn.below hbW9,fun g hg=>⟨fun e=>?_,fun e=>?_⟩⟩
      ·have h1:=HS.out.2.2.2.2.2;have h2:=sum_take_succ HO2.out.2.1;have h3:=sum_take_le (szAll ss y n) (k+1);have h4:=szAll_sum ss y n l;have h5:=H.out.cnt
       simp only [List.length_append,List.length_singleton];omega
      ·have:=hf8 g hg;have:=lt_of_heap HS.out.2.2.1;omega
      ·have:=hf8 g hg;have:=HS.out.2.2.2.1.lt (.inl e);omega
     have CB:=Lib.hid (fun wz (hz:Below W9.heap.size W9 wz)=>HO2.out.2.2.2 (.pointer (some ⟨kb,0,none⟩)) (.pointer (some ⟨b,0,none⟩)) (.slice la lv.length lc) (.slice a3 n3 c3) (.slice a4 n3 c4) w.heap.size (w.heap.size+1) va vwk (us++[(.slice a3 n3 c3,.slice a4 n3 c4)]++usk) (L++[l3]++av) W9 wz _ _
      (by rw [HL3.out.1];exact hA9) (by rw [HL3.out.1];exact hI9) hz)
     have KEY:Hid (∀ x,Below W9.heap.size W9 x->x.cell? ⟨w.heap.size,0,none⟩=some (.pointer (some ⟨b,0,none⟩))/\x.cell? ⟨w.heap.size,1,none⟩=some (.slice la lv.length lc)/\x.cell? ⟨w.heap.size,2,none⟩=some (.int .i64 (bg.1:Nat))/\x.cell? ⟨w.heap.size,3,none⟩=some (str bg.2) /\
      x.cell? ⟨va,0,none⟩=some (.pointer (some ⟨kb,0,none⟩))/\x.cell? ⟨w8.heap.size,0,none⟩=some (.slice a8 (v.length+2) c8)/\x.cell? ⟨w8.heap.size,1,none⟩=some (.slice a9 (v.length+2) c9)):=Lib.hid (fun x hx=>by
      obtain ⟨k0,k1,k2,k3⟩:=cells_4 hA9.b0
      obtain ⟨k4,_,_,_⟩:=cells_2 hI9.blk
      obtain ⟨k5,k6,_,_⟩:=cells_2 bx9
      exact ⟨(hx.cell (World.block_lt_of_cell? _ _ k0)).trans k0,(hx.cell (World.block_lt_of_cell? _ _ k1)).trans k1,(hx.cell (World.block_lt_of_cell? _ _ k2)).trans k2,(hx.cell (World.block_lt_of_cell? _ _ k3)).trans k3,(hx.cell (World.block_lt_of_cell? _ _ k4)).trans k4,(hx.cell (World.block_lt_of_cell? _ _ k5)).trans k5,(hx.cell (World.block_lt_of_cell? _ _ k6)).trans k6⟩)
     have H9:=Lib.hid (And.intro hW9 (And.intro hb89 hI9))
     clear hW9 hb89 hI9 hA9 hb8 hf8 hpn hbW9 hz9 bx9 hln t0 t1
     go_upto_region 22 with (fail)
     rw [H9.out.1]
     refine wp_region_noPanic ?_
     refine wp_region_S (fun w'=>Below W9.heap.size W9 w') (fun i=>i == 11 || i == 12) (by kernel_rfl) ?_
     have hSd:(fun w'=>Below W9.heap.size W9 w') W9.drew:=Below.drew (Below.refl _ _)
     refine wpAnyS_takeD 0 [11,12] (v:=?_) (by kernel_rfl) (by kernel_rfl) (by kernel_rfl) (by kernel_rfl) (fun _ _ _ _ h=>h) hSd ?_ ?_
     rotate_left
     ·(intro oi ho;simp at ho;subst ho;refine Or.inl ⟨by rfl,fun w' hw'=>?_⟩;go_simp;try with_reducible rfl)
     (intro d hd;simp at hd;subst hd;simp only [Act.put,List.setIfInBounds_toArray,List.set_cons_zero,List.set_cons_succ])
     refine wpAnyS_takeD 1 [9,11,12] (v:=?_) (by kernel_rfl) (by kernel_rfl) (by kernel_rfl) (by kernel_rfl) (fun _ _ _ _ h=>h) hSd ?_ ?_
     rotate_left
     ·(intro oi ho;simp at ho;subst ho;refine Or.inl ⟨by rfl,fun w' hw'=>?_⟩;obtain ⟨e0,e1,e2,e3,e4,e5,e6⟩:=KEY.out w' hw';go_simp;try with_reducible rfl)
     (intro d hd;simp at hd;subst hd;simp only [Act.put,List.setIfInBounds_toArray,List.set_cons_zero,List.set_cons_succ])
     refine wpAnyS_takeD 2 [3,4,5,9,11,12] (v:=?_) (by kernel_rfl) (by kernel_rfl) (by kernel_rfl) (by kernel_rfl) (fun _ _ _ _ h=>h) hSd ?_ ?_
     rotate_left
     ·(intro oi ho;simp at ho;subst ho;refine Or.inl ⟨by rfl,fun w' hw'=>?_⟩;go_simp;try with_reducible rfl)
     (intro d hd;simp at hd;subst hd;simp only [Act.put,List.setIfInBounds_toArray,List.set_cons_zero,List.set_cons_succ])
     refine wpAnyS_takeD 3 [4,5,9,11,12] (v:=?_) (by kernel_rfl) (by kernel_rfl) (by kernel_rfl) (by kernel_rfl) (fun _ _ _ _ h=>h) hSd ?_ ?_
     rotate_left
     ·(intro oi ho;simp at ho;subst ho;refine Or.inl ⟨by rfl,fun w' hw'=>?_⟩;go_simp;try with_reducible rfl)
     (intro d hd;simp at hd;subst hd;simp only [Act.put,List.setIfInBounds_toArray,List.set_cons_zero,List.set_cons_succ])
     refine wpAnyS_takeD 4 [5,9,11,12] (v:=?_) (by kernel_rfl) (by kernel_rfl) (by kernel_rfl) (by kernel_rfl) (fun _ _ _ _ h=>h) hSd ?_ ?_
     rotate_left
     ·(intro oi ho;simp at ho;subst ho;refine Or.inl ⟨by rfl,fun w' hw'=>?_⟩;go_simp;try with_reducible rfl)
     (intro d hd;simp at hd;subst hd;simp only [Act.put,List.setIfInBounds_toArray,List.set_cons_zero,List.set_cons_succ])
     refine wpAnyS_takeD 5 [9,11,12] (v:=?_) (by kernel_rfl) (by kernel_rfl) (by kernel_rfl) (by kernel_rfl) (fun _ _ _ _ h=>h) hSd ?_ ?_
     rotate_left
     ·(intro oi ho;simp at ho;subst ho;refine Or.inl ⟨by rfl,fun w' hw'=>?_⟩;obtain ⟨e0,e1,e2,e3,e4,e5,e6⟩:=KEY.out w' hw';go_simp;try with_reducible rfl)
     (intro d hd;simp at hd;subst hd;simp only [Act.put,List.setIfInBounds_toArray,List.set_cons_zero,List.set_cons_succ])
     refine wpAnyS_takeD 6 [9,11,12] (v:=?_) (by kernel_rfl) (by kernel_rfl) (by kernel_rfl) (by kernel_rfl) (fun _ _ _ _ h=>h) hSd ?_ ?_
     rotate_left
     ·(intro oi ho;simp at ho;subst ho;refine Or.inl ⟨by rfl,fun w' hw'=>?_⟩;go_simp;try with_reducible rfl)
     (intro d hd;simp at hd;subst hd;simp only [Act.put,List.setIfInBounds_toArray,List.set_cons_zero,List.set_cons_succ])
     refine wpAnyS_takeD 7 [8,9,11,12] (v:=?_) (by kernel_rfl) (by kernel_rfl) (by kernel_rfl) (by kernel_rfl) (fun _ _ _ _ h=>h) hSd ?_ ?_
     rotate_left
     ·(intro oi ho;simp at ho;subst ho;refine Or.inl ⟨by rfl,fun w' hw'=>?_⟩;go_simp;try with_reducible rfl)
     (intro d hd;simp at hd;subst hd;simp only [Act.put,List.setIfInBounds_toArray,List.set_cons_zero,List.set_cons_succ])
     refine wpAnyS_takeD 8 [9,11,12] (v:=?_) (by kernel_rfl) (by kernel_rfl) (by kernel_rfl) (by kernel_rfl) (fun _ _ _ _ h=>h) hSd ?_ ?_
     rotate_left
     ·(intro oi ho;simp at ho;subst ho;refine Or.inl ⟨by rfl,fun w' hw'=>?_⟩;go_simp;try with_reducible rfl)
     (intro d hd;simp at hd;subst hd;simp only [Act.put,List.setIfInBounds_toArray,List.set_cons_zero,List.set_cons_succ])
     refine wpAnyS_takeD 10 [11,12] (v:=?_) (by kernel_rfl) (by kernel_rfl) (by kernel_rfl) (by kernel_rfl) (fun _ _ _ _ h=>h) hSd ?_ ?_
     rotate_left
     ·(intro oi ho;simp at ho;subst ho;refine Or.inl ⟨by rfl,fun w' hw'=>?_⟩;obtain ⟨e0,e1,e2,e3,e4,e5,e6⟩:=KEY.out w' hw';go_simp;try with_reducible rfl)
     (intro d hd;simp at hd;subst hd;simp only [Act.put,List.setIfInBounds_toArray,List.set_cons_zero,List.set_cons_succ])
     refine wpAnyS_one 9 (by kernel_rfl) ?_
     (intro o9 ho K' hK;simp at ho;subst ho)
     go_simp
     go_at_call 32
     (with_reducible refine (CB.out _ hSd).mono ?_)
     rintro en x9 ⟨an,lan,lnn,lcn,bgn,bgp,rfl,hb9,hc9⟩
     have hB9:Below W9.heap.size W9 x9:=Below.trans hSd (hb9.mono (Below.size hSd))
     refine hK.out _ _ ?_ ?_
     ·exact fun _=>hB9
     clear hK K'
     (try simp only [Act.put,List.setIfInBounds_toArray,List.set_cons_zero,List.set_cons_succ])
     refine wpAnyS_one 11 (by kernel_rfl) ?_
     (intro o11 ho K' hK;simp at ho;subst ho)
     go_simp
     go_at_call 13
     (with_reducible refine hc9.mono ?_)
     rintro en x11 ⟨rfl,hbut,hsome⟩
     refine hK.out _ _ ?_ ?_
     ·intro h;simp at h
     clear hK K'
     (try simp only [Act.put,List.setIfInBounds_toArray,List.set_cons_zero,List.set_cons_succ])
     refine wpAnyS_one 12 (by kernel_rfl) ?_
     (intro o12 ho K' hK;simp at ho;subst ho)
     go_simp
     refine hK.out _ _ ?_ ?_
     ·intro h;simp at h
     clear hK K'
     (try simp only [Act.put,List.setIfInBounds_toArray,List.set_cons_zero,List.set_cons_succ])
     refine wpAnyS_done (by kernel_rfl) (NoPanic.normal ?_) _
     have K9:Kv va (.slice va2 us.length vc) w vwk x9:=(HC7.out.2.2.2.2.trans HS.out.2.1).trans (Kv.below (H9.out.2.1.trans (hB9.mono H9.out.2.1.size)))
     have HK9:=Lib.hid (And.intro K9 (And.intro (hB9.trans (Below.refl _ _)) (And.intro hbut hsome)))
     clear K9 hB9 hbut hsome hc9 hb9 hSd
     rcases o with _ | out
     ·go_wp2_with fail
      go_ret
      have E:viewsB t (.ask l ss y n) lv bg v=none:=by
       rw [viewsB_ask (pl:=(pb,p)) (by have:=HC.out.v58;omega) HC.out.hl]
       show (joinO (viewsAll t ss y n p v.length lv bg (v++[(113::p,(pb:Int))]))).map _=none
       rw [views_fail HO2.out.1 (by rw [HL3.out.1];exact HS.out.1)];rfl
      rw [E]
      exact ⟨rfl,HK9.out.1.but.trans' HK9.out.2.2.1 (fun i hi hm=>hm.imp id (fun e=>(HK9.out.1.row i e).resolve_right (by omega))),fun out h=>by simp at h⟩
     ·go_wp2_with fail
      go_roundw
      case rel =>
       obtain ⟨vw',us',hblk',hpls',hrow',hnew'⟩:=HK9.out.2.2.2 out rfl
       have hKK:Kv va vwk x9 vw' x11:=⟨HK9.out.2.2.1,hrow'⟩
       have hw9:w.heap.size<=x9.heap.size:=HK9.out.1.but.size
       refine ⟨k+1,by omega,by go_num,av++out,vw',usk++us',?_,(HS.out.2.1.trans (Kv.below (H9.out.2.1.trans (HK9.out.2.1.mono H9.out.2.1.size)))).trans hKK,hblk',?_,?_,?_⟩
       ·have:=views_next HO2.out.1 (by rw [HL3.out.1];exact HS.out.1)
        rw [HL3.out.1] at this;exact this
       ·rw [<- List.append_assoc,<- List.append_assoc];exact hpls'
       ·intro u hu g hg
        rcases List.mem_append.1 hu with hu | hu
        ·exact HS.out.2.2.2.2.1 u hu g hg
        ·exact Nat.le_trans hw9 (hnew' u hu g hg)
       ·have h1:=HS.out.2.2.2.2.2;have h2:=HO2.out.2.2.1 out rfl
        rw [sum_take_succ HO2.out.2.1,List.length_append];omega
      case measure=>simp [intOf];omega
    ·obtain rfl:k=ss.length+2:=by omega
     have HS:=Lib.hid (And.intro hjo (And.intro hkv (And.intro hblk (And.intro hpls hnew))))
     clear hjo hkv hblk hpls hnew hlen hAk
     go_wp2_with fail
     go_ret
     have E:viewsB t (.ask l ss y n) lv bg v=some (l3::av):=by
      rw [viewsB_ask (pl:=(pb,p)) (by have:=HC.out.v58;omega) HC.out.hl]
      show (joinO (viewsAll t ss y n p v.length lv bg (v++[(113::p,(pb:Int))]))).map _=_
      rw [HL3.out.1,views_done HS.out.1]
      rfl
     rw [E]
     have hKK:=HC7.out.2.2.2.2.trans HS.out.2.1
     refine ⟨rfl,hKK.but,fun out ho=>?_⟩
     obtain rfl:=Option.some.inj ho
     refine ⟨vwk,(.slice a3 n3 c3,.slice a4 n3 c4)::usk,HS.out.2.2.1,?_,hKK.row,fun u hu g hg=>?_⟩
     ·have:=HS.out.2.2.2.1
      simp only [List.append_assoc,List.singleton_append] at this;exact this
     ·rcases List.mem_cons.1 hu with rfl | hu
      ·exact HN.out.1 g hg
      ·exact HS.out.2.2.2.2 u hu g hg
end Go.Proofs.YthoimoenbccflaaDoor

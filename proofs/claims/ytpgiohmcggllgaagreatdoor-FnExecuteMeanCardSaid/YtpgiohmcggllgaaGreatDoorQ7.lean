/- Walks. -/
import Derived.Shelf.Strings.Builder1
import Derived.Laws.EntriesVeiled
import Derived.LaidEql
import Derived.Stop.Asserts
import Derived.RowKitTokens
import Derived.Test.YtpgiohmcggllgaaGreatDoorQ6
set_option linter.unusedVariables false
set_option linter.unusedSimpArgs false
set_option maxHeartbeats 8000000
set_option maxRecDepth 100000
open Go.Proofs.YtpgiohmcggllgaaGreatDoor renaming ev->Qq
open Go.Extern.ReflectliteType renaming method->Qg,typeOf->Qf
open Go.IntKind renaming bits->QH,i64->Oi,signed->Qm,wrap->Rt
open Go.Lib renaming BuilderAt->S5,byteCells->P4,itoa->Pp
open Go.Maps renaming atKey_put_other->N2,atKey_put_same->OQ
open Go.Proofs.Tryz renaming func172->S6,func198->S7,ntmps172->SD,ntmps198->SE,prog->KD,underlying125->Oj,underlying196->Pk,underlying65->Q8
open Go.Value renaming oneCell'->Of,ownBlock->N7,slice->Nq
open Go.WideAt renaming IsKeyLit->Pb
open Go.World renaming cell?->GD,frozen?->N4,ownsRow_nil->OL,setCell->PL
open List renaming cons_append->Oe,findIdx?_eq_some_iff_getElem->QY,getElem?_append_left->Ou,getElem?_append_right->Ow,getElem?_cons_succ->N8,getElem?_drop->Pd,getElem?_eq_some_iff->N6,getElem?_take->Pc,length_append->NZ,length_cons->N5,length_take->PG,mem_cons->Om,not_mem_nil->O0,take_add_one->OG,take_append_drop->OH,take_length->Oh
open Nat renaming add_sub_cancel_left->RV,min_eq_left->RI,zero_le->Og
open Option renaming bind_eq_bind->NX,bind_eq_some_iff->No,bind_some->Mm,map_eq_some_iff->N3
namespace Go.Proofs.YtpgiohmcggllgaaGreatDoor
open Go.RowKit
section
variable {P:Program} {ops:Array Oper} {Q:Exit->Act->World->Prop} {md:Region.Mode} {S:World->Prop} {T:Nat->Bool}
end
def vF (w:World) (g:Nat) (k t:Bs):Prop:=w.heap[g]? = some (.cells #[str k,str t] 59 (0,0))
theorem vF.cells {w:World} {g:Nat} {k t:Bs} (h:vF w g k t):w.cell? ⟨g,0,none⟩=some (str k)/\w.cell? ⟨g,1,none⟩=some (str t)/\w.frozen? ⟨g,0,none⟩=false/\w.frozen? ⟨g,1,none⟩=false/\g<w.heap.size :=
 ⟨by simp [GD,show w.heap[g]? = _ from h],by simp [GD,show w.heap[g]? = _ from h],by simp [N4,show w.heap[g]? = _ from h],by simp [N4,show w.heap[g]? = _ from h],zZ h⟩
theorem vF.below {w w':World} {g:Nat} {k t:Bs} (h:vF w g k t) (hb:Below w.heap.size w w'):vF w' g k t:=(hb.block g (zZ h)).trans h
theorem vF.set {w:World} {g:Nat} {k t:Bs} (h:vF w g k t) (k' t':Bs):vF ((w.setCell ⟨g,0,none⟩ (str k')).setCell ⟨g,1,none⟩ (str t')) g k' t':=by
 unfold vF;rw [zy (zy h)];rfl
def mz (g:Nat) (ans:Bs) (k t:Bs) (w:World) (en:Ending) (w':World):Prop:=en=.returned (.tuple #[str ans,.bool true])/\But (· = g) w w'/\vF w' g k t
theorem desk_become (g:Nat) (k t k' t':Bs) (w:World) (h:vF w g k t) :
 Calls KD 121 #[.pointer (some ⟨g,0,none⟩),str k',str t',.bool true] w (mz g [111,107] k' t' w):=by
 obtain ⟨c0,c1,f0,f1,hl⟩:=h.cells;have H:=mj h;clear h;go_enter Tryz.func121,Tryz.ntmps121;go_wp2_with fail
 go_ret2
 exact ⟨rfl,((But.refl (· = g) w).setCell (p:=⟨g,0,none⟩) (.inl rfl) _).setCell (p:=⟨g,1,none⟩) (.inl rfl) _,H.out.set k' t'⟩
def cmd0:Value:=.agg #[.bool true,.func (.func 87) #[] #[]]
def cmd1:Value:=.agg #[.bool true,.func (.func 88) #[] #[]]
def cmd2:Value:=.agg #[.bool true,.func (.func 89) #[] #[]]
def cmd3:Value:=.agg #[.bool true,.func (.func 90) #[] #[]]
def cmd4:Value:=.agg #[.bool true,.func (.func 91) #[] #[]]
def cmd5:Value:=.agg #[.bool false,.func (.func 92) #[] #[]]
def cmd6:Value:=.agg #[.bool false,.func (.func 93) #[] #[]]
def cmd7:Value:=.agg #[.bool false,.func (.func 94) #[] #[]]
def cmd8:Value:=.agg #[.bool false,.func (.func 95) #[] #[]]
def cmd9:Value:=.agg #[.bool false,.func (.func 96) #[] #[]]
def cmd10:Value:=.agg #[.bool true,.func (.func 97) #[] #[]]
def cmd11:Value:=.agg #[.bool true,.func (.func 98) #[] #[]]
def cP:List Value:=[cmd0,cmd1,cmd2,cmd3,cmd4,cmd5,cmd6,cmd7,cmd8,cmd9,cmd10,cmd11]
open Classical in
noncomputable def cmdR (v:Value):Option (DataW Unit×List MemPlace):=(cP.findIdx? fun c=>decide (c=v)).map fun i=>(.lit (.int .i64 (i:Nat)),[])
theorem uI {c:Value} (h:c∈cP):∃ n:Nat,cmdR c=some (.lit (.int .i64 (n:Nat)),[])/\∀ v ps,cmdR v=some (.lit (.int .i64 (n:Nat)),ps)->v=c:=by
 classical
 unfold cmdR;cases hf:cP.findIdx? (fun d=>decide (d=c)) with
 | none =>
   rw [List.findIdx?_eq_none_iff] at hf;have:=hf c h;simp at this
 | some i =>
   refine ⟨i,rfl,fun v ps hv=>?_⟩;rw [QY] at hf;obtain ⟨hi,h1,_⟩:=hf;rw [N3] at hv;obtain ⟨j,hj,e⟩:=hv;simp only [Prod.mk.injEq,DataW.lit.injEq,Lit.int.injEq,true_and] at e;obtain rfl:j=i:=by omega
   rw [QY] at hj;obtain ⟨hj1,h2,_⟩:=hj;simp only [decide_eq_true_eq] at h1 h2;rw [<- h2,h1]
theorem uv {H:Type} {P:Program} {k t e:TypeId} {R:Value->Option (DataW H×List MemPlace)} {w:World} {b n:Nat} {D:DataW H} (h:w.ownsMap P k R b n D) (K:Maps.Keyed P k) (ht:P.underlying t=some (.map k e)) {z:Value} (hz:(zeroValue e).run P w=.ok z w)
 {key:Value} {kl:Lit} (IY:keyOf P k key=some kl) {d:DataW H} (ml:∀ zd,D.atKey kl zd=d):∃ v ps,(Instr.lookup t (.map (some b)) key true).run P w=.ok (.tuple #[v,.bool true]) w/\R v=some (d,ps):=by
 obtain ⟨es,clock,hb,F,_,rfl⟩:=h;rcases Maps.fit_look true K ht hz hb F IY with ⟨_,_,h3⟩ | ⟨e0,y,_,_,BD,hRv,h4,_⟩
 ·have h1:=h3 (.lit (.bool true));have h2:=h3 (.lit (.bool false));rw [ml] at h1 h2;rw [h1] at h2;simp at h2
 ·have h1:=h4 (.lit (.bool true));rw [ml] at h1;refine ⟨e0.val,y.2,BD,?_⟩;rw [hRv,h1]
theorem qH {a b:Bs} (h:a≠b):Lit.string a≠Lit.string b:=by simpa using h
def wZ (w:World) (b:Nat) (x:Bs) (c:Value):Prop:=(Instr.lookup 125 (.map (some b)) (str x) true).run KD w=.ok (.tuple #[c,.bool true]) w
theorem fQ (w:World):(zeroValue 123).run KD w=.ok (.agg #[.bool false,.nilFunc]) w:=by kernel_rfl
theorem pP (w:World):Calls KD 59 #[] w fun en w'=>∃ b,en=.returned (.map (some b))/\Below w.heap.size w w'/\wZ w' b [116,121,112,101] cmd0/\wZ w' b [115,101,116] cmd1/\wZ w' b [109,101,97,110] cmd2/\wZ w' b [97,112,112,108,121] cmd4/\wZ w' b [115,104,111,119] cmd6/\wZ w' b [107,105,110,100] cmd7/\wZ w' b [116,101,114,109] cmd8:=by
 obtain ⟨n0,r0,u0⟩:=uI (c:=cmd0) (by simp [cP]);obtain ⟨n1,r1,u1⟩:=uI (c:=cmd1) (by simp [cP]);obtain ⟨n2,r2,u2⟩:=uI (c:=cmd2) (by simp [cP]);obtain ⟨n3,r3,u3⟩:=uI (c:=cmd3) (by simp [cP]);obtain ⟨n4,r4,u4⟩:=uI (c:=cmd4) (by simp [cP]);obtain ⟨n5,r5,u5⟩:=uI (c:=cmd5) (by simp [cP]);obtain ⟨n6,r6,u6⟩:=uI (c:=cmd6) (by simp [cP]);obtain ⟨n7,r7,u7⟩:=uI (c:=cmd7) (by simp [cP]);obtain ⟨n8,r8,u8⟩:=uI (c:=cmd8) (by simp [cP]);obtain ⟨n9,r9,u9⟩:=uI (c:=cmd9) (by simp [cP]);obtain ⟨n10,r10,u10⟩:=uI (c:=cmd10) (by simp [cP]);obtain ⟨n11,r11,u11⟩:=uI (c:=cmd11) (by simp [cP]);have HN0:=mj (mu r0 u0);have Ko:=mj (mu r1 u1);have Hn:=mj (mu r2 u2);have A9:=mj (mu r3 u3);have HN4:=mj (mu r4 u4);have NL:=mj (mu r5 u5);have B2:=mj (mu r6 u6);have NJ:=mj (mu r7 u7);have HN8:=mj (mu r8 u8);have Fa:=mj (mu r9 u9);have HN10:=mj (mu r10 u10);have HN11:=mj (mu r11 u11);clear r0 u0 r1 u1 r2 u2 r3 u3 r4 u4 r5 u5 r6 u6 r7 u7 r8 u8 r9 u9 r10 u10 r11 u11;have K0:=mj (bG (s:=[116,121,112,101]) (by unfold Lim;decide));have K1:=mj (bG (s:=[115,101,116]) (by unfold Lim;decide));have K2:=mj (bG (s:=[109,101,97,110]) (by unfold Lim;decide));have K3:=mj (bG (s:=[99,111,112,121]) (by unfold Lim;decide));have K4:=mj (bG (s:=[97,112,112,108,121]) (by unfold Lim;decide));have K5:=mj (bG (s:=[114,117,110]) (by unfold Lim;decide));have K6:=mj (bG (s:=[115,104,111,119]) (by unfold Lim;decide));have K7:=mj (bG (s:=[107,105,110,100]) (by unfold Lim;decide));have K8:=mj (bG (s:=[116,101,114,109]) (by unfold Lim;decide));have K9:=mj (bG (s:=[118,105,101,119,115]) (by unfold Lim;decide));have K10:=mj (bG (s:=[112,108,97,121,115]) (by unfold Lim;decide));have K11:=mj (bG (s:=[99,111,117,110,116]) (by unfold Lim;decide));have made:(w.alloc (.map #[] 0)).ownsMap KD 9 cmdR w.heap.size 0 (.map []):=World.ownsMap_made _ _ _ _;have MADE:=mj made;clear made;have hmm:=@run_makeMap KD;go_enter Tryz.func59,Tryz.ntmps59;go_wp2_with (refine kV (H:=Unit) _ rfl _ _ _ 125 rfl 9 123 Tryz.lawS Oj cmdR w.heap.size 0 _ rfl MADE.out (by unfold maxLen;omega) _ cmd0 _ rfl rfl K0.out _ [] HN0.out.1 ?_)
 intro w1 h1 g1;have hh1:=mj h1;have gg1:=mj g1;clear h1 g1;go_wp2_with (refine kV (H:=Unit) _ rfl _ _ _ 125 rfl 9 123 Tryz.lawS Oj cmdR w.heap.size 1 _ rfl hh1.out (by unfold maxLen;omega) _ cmd1 _ rfl rfl K1.out _ [] Ko.out.1 ?_)
 intro w2 h2 g2;have hh2:=mj h2;have gg2:=mj g2;clear h2 g2;go_wp2_with (refine kV (H:=Unit) _ rfl _ _ _ 125 rfl 9 123 Tryz.lawS Oj cmdR w.heap.size 2 _ rfl hh2.out (by unfold maxLen;omega) _ cmd2 _ rfl rfl K2.out _ [] Hn.out.1 ?_)
 intro w3 h3 g3;have hh3:=mj h3;have gg3:=mj g3;clear h3 g3;go_wp2_with (refine kV (H:=Unit) _ rfl _ _ _ 125 rfl 9 123 Tryz.lawS Oj cmdR w.heap.size 3 _ rfl hh3.out (by unfold maxLen;omega) _ cmd3 _ rfl rfl K3.out _ [] A9.out.1 ?_)
 intro w4 h4 g4;have hh4:=mj h4;have gg4:=mj g4;clear h4 g4;go_wp2_with (refine kV (H:=Unit) _ rfl _ _ _ 125 rfl 9 123 Tryz.lawS Oj cmdR w.heap.size 4 _ rfl hh4.out (by unfold maxLen;omega) _ cmd4 _ rfl rfl K4.out _ [] HN4.out.1 ?_)
 intro w5 h5 g5;have hh5:=mj h5;have gg5:=mj g5;clear h5 g5;go_wp2_with (refine kV (H:=Unit) _ rfl _ _ _ 125 rfl 9 123 Tryz.lawS Oj cmdR w.heap.size 5 _ rfl hh5.out (by unfold maxLen;omega) _ cmd5 _ rfl rfl K5.out _ [] NL.out.1 ?_)
 intro w6 h6 g6;have hh6:=mj h6;have gg6:=mj g6;clear h6 g6;go_wp2_with (refine kV (H:=Unit) _ rfl _ _ _ 125 rfl 9 123 Tryz.lawS Oj cmdR w.heap.size 6 _ rfl hh6.out (by unfold maxLen;omega) _ cmd6 _ rfl rfl K6.out _ [] B2.out.1 ?_)
 intro w7 h7 g7;have hh7:=mj h7;have gg7:=mj g7;clear h7 g7;go_wp2_with (refine kV (H:=Unit) _ rfl _ _ _ 125 rfl 9 123 Tryz.lawS Oj cmdR w.heap.size 7 _ rfl hh7.out (by unfold maxLen;omega) _ cmd7 _ rfl rfl K7.out _ [] NJ.out.1 ?_)
 intro w8 h8 g8;have hh8:=mj h8;have gg8:=mj g8;clear h8 g8;go_wp2_with (refine kV (H:=Unit) _ rfl _ _ _ 125 rfl 9 123 Tryz.lawS Oj cmdR w.heap.size 8 _ rfl hh8.out (by unfold maxLen;omega) _ cmd8 _ rfl rfl K8.out _ [] HN8.out.1 ?_)
 intro w9 h9 g9;have hh9:=mj h9;have gg9:=mj g9;clear h9 g9;go_wp2_with (refine kV (H:=Unit) _ rfl _ _ _ 125 rfl 9 123 Tryz.lawS Oj cmdR w.heap.size 9 _ rfl hh9.out (by unfold maxLen;omega) _ cmd9 _ rfl rfl K9.out _ [] Fa.out.1 ?_)
 intro lq FC g10;have hh10:=mj FC;have gg10:=mj g10;clear FC g10;go_wp2_with (refine kV (H:=Unit) _ rfl _ _ _ 125 rfl 9 123 Tryz.lawS Oj cmdR w.heap.size 10 _ rfl hh10.out (by unfold maxLen;omega) _ cmd10 _ rfl rfl K10.out _ [] HN10.out.1 ?_)
 intro aP h11 g11;have hh11:=mj h11;have gg11:=mj g11;clear h11 g11;go_wp2_with (refine kV (H:=Unit) _ rfl _ _ _ 125 rfl 9 123 Tryz.lawS Oj cmdR w.heap.size 11 _ rfl hh11.out (by unfold maxLen;omega) _ cmd11 _ rfl rfl K11.out _ [] HN11.out.1 ?_)
 intro B4 Jp g12;have BO:=mj Jp;have gg12:=mj g12;clear Jp g12;have i0:Maps.IsMap (DataW.map []:DataW Unit):=Maps.isMap_empty;have tw:But (fun i=>i=w.heap.size) (w.alloc (.map #[] 0)) B4:=((((((((((((But.ofGrown gg1.out).weak (m':=fun i=>i=w.heap.size) (fun i _ h=>by simpa using h)).trans ((But.ofGrown gg2.out).weak (m':=fun i=>i=w.heap.size) (fun i _ h=>by simpa using h))).trans ((But.ofGrown gg3.out).weak (m':=fun i=>i=w.heap.size) (fun i _ h=>by simpa using h))).trans ((But.ofGrown gg4.out).weak (m':=fun i=>i=w.heap.size) (fun i _ h=>by simpa using h))).trans ((But.ofGrown gg5.out).weak (m':=fun i=>i=w.heap.size) (fun i _ h=>by simpa using h))).trans ((But.ofGrown gg6.out).weak (m':=fun i=>i=w.heap.size) (fun i _ h=>by simpa using h))).trans ((But.ofGrown gg7.out).weak (m':=fun i=>i=w.heap.size) (fun i _ h=>by simpa using h))).trans ((But.ofGrown gg8.out).weak (m':=fun i=>i=w.heap.size) (fun i _ h=>by simpa using h))).trans ((But.ofGrown gg9.out).weak (m':=fun i=>i=w.heap.size) (fun i _ h=>by simpa using h))).trans ((But.ofGrown gg10.out).weak (m':=fun i=>i=w.heap.size) (fun i _ h=>by simpa using h))).trans ((But.ofGrown gg11.out).weak (m':=fun i=>i=w.heap.size) (fun i _ h=>by simpa using h))).trans ((But.ofGrown gg12.out).weak (m':=fun i=>i=w.heap.size) (fun i _ h=>by simpa using h));have HB:=mj (((mw w.heap.size w).alloc (my _) _).trans (tw.toBelow (by rw [zK];omega) fun i hi e=>by omega));obtain ⟨v0,p0,GU,hR0⟩:=uv BO.out Tryz.lawS Oj (fQ _) K0.out (d:=.lit (.int .i64 (n0:Nat))) (fun zd=>by rw [N2 (qH (by decide)),N2 (qH (by decide)),N2 (qH (by decide)),N2 (qH (by decide)),N2 (qH (by decide)),N2 (qH (by decide)),N2 (qH (by decide)),N2 (qH (by decide)),N2 (qH (by decide)),N2 (qH (by decide)),N2 (qH (by decide)),OQ i0 (by simp [Pb])]);obtain rfl:v0=cmd0:=HN0.out.2 _ _ hR0;have T0:Hid (wZ B4 w.heap.size [116,121,112,101] cmd0):=GU;clear GU hR0;obtain ⟨v1,p1,GT,Fz⟩:=uv BO.out Tryz.lawS Oj (fQ _) K1.out (d:=.lit (.int .i64 (n1:Nat))) (fun zd=>by rw [N2 (qH (by decide)),N2 (qH (by decide)),N2 (qH (by decide)),N2 (qH (by decide)),N2 (qH (by decide)),N2 (qH (by decide)),N2 (qH (by decide)),N2 (qH (by decide)),N2 (qH (by decide)),N2 (qH (by decide)),OQ (i0.put _ _) (by simp [Pb])]);obtain rfl:v1=cmd1:=Ko.out.2 _ _ Fz;have T1:Hid (wZ B4 w.heap.size [115,101,116] cmd1):=GT;clear GT Fz;obtain ⟨v2,p2,GS,Fy⟩:=uv BO.out Tryz.lawS Oj (fQ _) K2.out (d:=.lit (.int .i64 (n2:Nat))) (fun zd=>by rw [N2 (qH (by decide)),N2 (qH (by decide)),N2 (qH (by decide)),N2 (qH (by decide)),N2 (qH (by decide)),N2 (qH (by decide)),N2 (qH (by decide)),N2 (qH (by decide)),N2 (qH (by decide)),OQ ((i0.put _ _).put _ _) (by simp [Pb])]);obtain rfl:v2=cmd2:=Hn.out.2 _ _ Fy;have T2:Hid (wZ B4 w.heap.size [109,101,97,110] cmd2):=GS;clear GS Fy;obtain ⟨v4,p4,GR,hR4⟩:=uv BO.out Tryz.lawS Oj (fQ _) K4.out (d:=.lit (.int .i64 (n4:Nat))) (fun zd=>by rw [N2 (qH (by decide)),N2 (qH (by decide)),N2 (qH (by decide)),N2 (qH (by decide)),N2 (qH (by decide)),N2 (qH (by decide)),N2 (qH (by decide)),OQ ((((i0.put _ _).put _ _).put _ _).put _ _) (by simp [Pb])]);obtain rfl:v4=cmd4:=HN4.out.2 _ _ hR4;have T4:Hid (wZ B4 w.heap.size [97,112,112,108,121] cmd4):=GR;clear GR hR4;obtain ⟨v6,p6,GQ,hR6⟩:=uv BO.out Tryz.lawS Oj (fQ _) K6.out (d:=.lit (.int .i64 (n6:Nat))) (fun zd=>by rw [N2 (qH (by decide)),N2 (qH (by decide)),N2 (qH (by decide)),N2 (qH (by decide)),N2 (qH (by decide)),OQ ((((((i0.put _ _).put _ _).put _ _).put _ _).put _ _).put _ _) (by simp [Pb])]);obtain rfl:v6=cmd6:=B2.out.2 _ _ hR6;have T6:Hid (wZ B4 w.heap.size [115,104,111,119] cmd6):=GQ;clear GQ hR6;obtain ⟨v7,p7,GP,hR7⟩:=uv BO.out Tryz.lawS Oj (fQ _) K7.out (d:=.lit (.int .i64 (n7:Nat))) (fun zd=>by rw [N2 (qH (by decide)),N2 (qH (by decide)),N2 (qH (by decide)),N2 (qH (by decide)),OQ (((((((i0.put _ _).put _ _).put _ _).put _ _).put _ _).put _ _).put _ _) (by simp [Pb])]);obtain rfl:v7=cmd7:=NJ.out.2 _ _ hR7;have T7:Hid (wZ B4 w.heap.size [107,105,110,100] cmd7):=GP;clear GP hR7;obtain ⟨v8,p8,GO,hR8⟩:=uv BO.out Tryz.lawS Oj (fQ _) K8.out (d:=.lit (.int .i64 (n8:Nat))) (fun zd=>by rw [N2 (qH (by decide)),N2 (qH (by decide)),N2 (qH (by decide)),OQ ((((((((i0.put _ _).put _ _).put _ _).put _ _).put _ _).put _ _).put _ _).put _ _) (by simp [Pb])]);obtain rfl:v8=cmd8:=HN8.out.2 _ _ hR8;have T8:Hid (wZ B4 w.heap.size [116,101,114,109] cmd8):=GO;clear GO hR8;clear tw i0;go_wp2_with fail
 go_ret;exact ⟨w.heap.size,rfl,HB.out,T0.out,T1.out,T2.out,T4.out,T6.out,T7.out,T8.out⟩
def pO (w:World):Prop:=∃ m:Int,w.cell? ⟨0,0,none⟩=some (.int .i64 m)
theorem pO.below {w w':World} (h:pO w) (hb:Below w.heap.size w w'):pO w':=by
 obtain ⟨m,hm⟩:=h;exact ⟨m,(hb.cell (mx _ _ hm)).trans hm⟩
theorem mG {l a b:Bs} {f:Bool} (hl:l.length<=1000000) (hc:Lib.cut l [32]=(a,b,f)) (w:World) (hm:pO w) :
 Calls KD 58 #[str l,str [32]] w fun en w'=>en=.returned (.tuple #[str a,str b,.bool f])/\Below w.heap.size w w':=by
 obtain ⟨m,hm⟩:=hm;refine (Tryz.strings_Cut ⟨l.toArray⟩ ⟨#[32]⟩ m w (by rw [ui];omega) hm).mono ?_;rintro en w' ⟨rfl,n,rfl⟩;refine ⟨?_,eg (mw _ _) n⟩;show _=Ending.returned (.tuple #[str (a,b,f).1,str (a,b,f).2.1,.bool (a,b,f).2.2]);rw [<- hc]
theorem cells_N {w:World} {b:Nat} {x y:Value} {T:TypeId} (h:w.heap[b]? = some (.cells #[x,y] T (0,0))):w.cell? ⟨b,0,none⟩=some x/\w.cell? ⟨b,1,none⟩=some y/\w.frozen? ⟨b,0,none⟩=false/\w.frozen? ⟨b,1,none⟩=false :=
 ⟨by simp [GD,h],by simp [GD,h],by simp [N4,h],by simp [N4,h]⟩
theorem box_N (w:World) (A:Obj):∃ W,w.alloc A=W/\Below w.heap.size w W/\W.heap.size=w.heap.size+1/\W.heap[w.heap.size]? = some A :=
 ⟨_,rfl,(mw _ _).alloc (my _) _,by rw [zK],zG _ _⟩
def LineQ (g:Nat) (ans:Bs) (k t:Bs) (w:World) (en:Ending) (w':World):Prop:=en=.returned (str ans)/\But (· = g) w w'/\vF w' g k t
def Tryz.layW_ren:Go.Shelf.Ren:=⟨fun | 166=>21 | 240=>57 | 276=>85 | n=>n,fun | 0=>0 | 3=>3 | 4=>4 | 5=>5 | 9=>9 | 20=>20 | 37=>22 | 70=>61 | 72=>63 | 75=>65 | 80=>36 | 164=>155 | n=>n,fun | n=>n⟩
theorem Tryz.layW:Go.Proofs.Lays.n166 KD Tryz.layW_ren:={
 mixed:=by kernel_rfl
 f166:=Tryz.func21.trans (congrArg some (by kernel_rfl))
 f240:=Tryz.func57.trans (congrArg some (by kernel_rfl))
 f276:=Tryz.func85.trans (congrArg some (by kernel_rfl))
 t0:=Tryz.underlying0
 a0:=Tryz.isAgg0
 z0:=Tryz.sizeOf0
 v0:=Tryz.zeroValue0
 t3:=Tryz.underlying3
 a3:=Tryz.isAgg3
 z3:=Tryz.sizeOf3
 v3:=Tryz.zeroValue3
 t4:=Tryz.underlying4
 a4:=Tryz.isAgg4
 z4:=Tryz.sizeOf4
 v4:=Tryz.zeroValue4
 t9:=Tryz.underlying9
 a9:=Tryz.isAgg9
 z9:=Tryz.sizeOf9
 v9:=Tryz.zeroValue9
 t20:=Tryz.underlying20
 a20:=Tryz.isAgg20
 z20:=Tryz.sizeOf20
 v20:=Tryz.zeroValue20
 t37:=Tryz.underlying22
 a37:=Tryz.isAgg22
 z37:=Tryz.sizeOf22
 v37:=Tryz.zeroValue22
 t70:=Tryz.underlying61
 a70:=Tryz.isAgg61
 z70:=Tryz.sizeOf61
 v70:=Tryz.zeroValue61
 t72:=Tryz.underlying63
 a72:=Tryz.isAgg63
 z72:=Tryz.sizeOf63
 v72:=Tryz.zeroValue63
 t75:=Q8
 a75:=Tryz.isAgg65
 z75:=Tryz.sizeOf65
 v75:=Tryz.zeroValue65
 t164:=Tryz.underlying155
 a164:=Tryz.isAgg155
 z164:=Tryz.sizeOf155
 v164:=Tryz.zeroValue155 }
theorem Tryz.layX:Builder.Extra KD Tryz.layW_ren:={
 sizeBuilder:=by kernel_rfl
 liesBuilder:=by kernel_rfl
 t5:=Tryz.underlying5
 a5:=Tryz.isAgg5
 z5:=Tryz.sizeOf5
 v5:=Tryz.zeroValue5
 infoByte:=by kernel_rfl
 cellsByte:=by kernel_rfl
 sizeByte:=by kernel_rfl
 neB5:=by decide }
theorem itoa_decN (i:Nat):Pp (i:Int)=dec i:=by
 rw [dec_dd,Pp,if_neg (by omega)];rfl
theorem fg (ans:Nat->Bs):∀ n:Nat,(∀ j,j<n->(ans j).length<=1000000)->(qN ans n).length<=n*1000001
 | 0,_=>by simp [qN]
 | n+1,h=>by
   have h1:=fg ans n (fun j hj=>h j (by omega));have h2:=h n (by omega);rw [qN];simp only [NZ,N5,List.length_nil];rw [Nat.succ_mul];omega
theorem byteCells_app (a b:Bs):P4 (a++b)=P4 a++P4 b:=by simp [P4]
theorem splitS_any {ls:List Bs} (hl:∀ l∈ls,(10:UInt8) ∉ l) (hn:(vZ ls).length<=1000000) (w:World) (hm:pO w) :
 Calls KD 20 #[str (vZ ls),str [10]] w fun en w'=>en=.returned (.slice (some ⟨w.heap.size,0,none⟩) (ls.length+1) (ls.length+1))/\w'=w.alloc (.cells ((ls++[[]]).map str).toArray 9):=by
 obtain ⟨m,hm⟩:=hm;refine (Tryz.strings_Split ⟨(vZ ls).toArray⟩ ⟨#[10]⟩ m w (by rw [ui];omega) hm (by decide)).mono ?_;rintro en w' ⟨rfl,rfl⟩;rw [split_lines hl,ex hl];refine ⟨rfl,?_⟩;rw [List.map_map];rfl
abbrev Bld (B b:Nat) (l:Bs) (w:World):Prop:=Lib.IsBuilder 63 5 B b (P4 l) w
theorem mE {T e:TypeId} {B b:Nat} {p:Value} {bs:List Value} {w w':World} (h:S5 T e B b p bs w) (hk:∀ i x,B<=i->w.heap[i]? = some x->w'.heap[i]? = some x):S5 T e B b p bs w':=by
 obtain ⟨hB,v,hb,nM,hne⟩:=h;refine ⟨hB,v,hk _ _ hB hb,?_,hne⟩;rcases nM.2 with h0 | ⟨g,cap,cur,e1,EC,hg,hr⟩
 ·exact ⟨nM.1,.inl h0⟩
 ·exact ⟨nM.1,.inr ⟨g,cap,cur,e1,EC,hk _ _ EC hg,hr⟩⟩
theorem Bld.keep {B b:Nat} {l:Bs} {w w':World} (h:Bld B b l w) (hk:∀ i x,B<=i->w.heap[i]? = some x->w'.heap[i]? = some x):Bld B b l w':=h.imp (fun h=>mE h hk) (fun h=>mE h hk)
theorem bld_write (B b:Nat) (l s:Bs) (w:World) (h:Bld B b l w) (hn:l.length+s.length<=140737488355328) (hB:B<=w.heap.size) :
 Calls KD 21 #[.pointer (some ⟨b,0,none⟩),str s] w fun en w'=>en=.returned (.tuple #[.int .i64 (s.length:Nat),.nilIface])/\Bld B b (l++s) w'/\Below B w w':=by
 refine (Any.Builder_WriteString Tryz.layW Tryz.layX B b (P4 l) ⟨s.toArray⟩ w h (by rw [Lib.byteCells_length,ui];exact hn) hB).mono ?_;rintro en w' ⟨rfl,h1,h2⟩;refine ⟨by rw [ui],.inr ?_,h2⟩;rw [byteCells_app];exact h1
theorem read_any (B b:Nat) (l:Bs) (w:World) (h:Bld B b l w) (hB:B<=w.heap.size) :
 Calls KD 25 #[.pointer (some ⟨b,0,none⟩)] w fun en w'=>en=.returned (str l)/\Below B w w':=Tryz.Builder_String_any B b l w h hB
theorem wrap_lowN (x:Int) (h1 : -2000<=x) (h2:x<=1000000):Oi.wrap x=x:=by
 simp [Rt,QH,Qm];omega
structure ExI (W:World) (g blk b:Nat) (ls:List Bs) (st:Nat->Bs×Bs) (ans:Nat->Bs) (i:Nat) (wr:World):Prop where
 size:W.heap.size<=wr.heap.size
 keep:∀ j x,j≠g->j<b->W.heap[j]? = some x->wr.heap[j]? = some x
 os:wr.os=W.os/\wr.tape=W.tape/\wr.output=W.output
 desk:vF wr g (st i).1 (st i).2
 bld:Bld b b (qN ans i) wr
theorem execute_any (ls:List Bs) (st:Nat->Bs×Bs) (ans:Nat->Bs) (sz:Nat) (w:World) (hg:yP w) (hm:pO w) (hl:∀ l∈ls,(10:UInt8) ∉ l) (hn:(vZ ls).length<=900) (h0:st 0=([98],[117])) (ha:∀ i,i<ls.length->(ans i).length<=1000000) (hsz:sz<=1000)
 (HL:∀ i l,ls[i]? = some l->∀ g y,Below w.heap.size w y->w.heap.size<=g->vF y g (st i).1 (st i).2->Calls KD 22 #[.pointer (some ⟨g,0,none⟩),str l] y (LineQ g (ans i) (st (i+1)).1 (st (i+1)).2 y))
 (HS:∀ y,Below w.heap.size w y->Calls KD 24 #[str (st ls.length).1,str (st ls.length).2] y fun en w'=>en=.returned (.int .i64 (sz:Nat))/\Below y.heap.size y w') :
 Calls KD 8 #[str (vZ ls)] w fun en w'=>en=.returned (str (qN ans ls.length++([110,111,100,101,115,32]++dec sz++[10])))/\Below w.heap.size w w':=by
 have hnI:¬ (900:Int)<((vZ ls).length:Int):=by omega
 have LZ:=da ls;obtain ⟨X,hX,a_,hzX,xd⟩:=box_N w (.cells #[str [98],str [117]] 59);have CS:=mj (splitS_any hl (by omega) X (hm.below a_));obtain ⟨Y,hY,AU,hzY,xr⟩:=box_N X (.cells ((ls++[[]]).map str).toArray 9);obtain ⟨W,hW,nV,th,xb⟩:=box_N Y (.cells #[.pointer none,.slice none 0 0] 63);have Jc:=zzT AU nV;have BA:Below w.heap.size w W:=zzT a_ Jc;have xd2:=(Jc.block _ (zZ xd)).trans xd;have xr2:=(nV.block _ (zZ xr)).trans xr;rw [hzX] at xr2 hzY;rw [hzY] at xb th;have Fv:Bld (w.heap.size+1+1) (w.heap.size+1+1) [] W:=.inl ⟨my _,.slice none 0 0,xb,OL _ _ _ _,by simp [N7]⟩;have sC:ExI W w.heap.size (w.heap.size+1) (w.heap.size+1+1) ls st ans 0 W:=⟨my _,fun _ _ _ _ h=>h,⟨rfl,rfl,rfl⟩,by rw [h0];exact xd2,Fv⟩;have HX:=mj hX;have HY:=mj hY;have HW:=mj (mu hW (mu BA xr2));have HLL:=mj HL;have HSS:=mj HS;have HG:=mj hg;have HA:=mj ha
 have KY:Hid (∀ i y,ExI W w.heap.size (w.heap.size+1) (w.heap.size+1+1) ls st ans i y->Below w.heap.size w y/\∀ k l,ls[k]? = some l->y.cell? ⟨w.heap.size+1,k,none⟩=some (str l)):=mj (fun i y h=>by
  refine ⟨⟨h.os.1.trans BA.os,h.os.2.1.trans BA.tape,h.os.2.2.trans BA.output,mh BA.size h.size,fun j hj=>?_⟩,fun k l hk=>?_⟩
  ·have hx:w.heap[j]? = some w.heap[j]:=Array.getElem?_eq_getElem hj;rw [hx];exact h.keep j _ (by omega) (by omega) ((BA.block j hj).trans hx)
  ·have hr:=h.keep (w.heap.size+1) _ (by omega) (by omega) xr2;simp only [GD,hr];have Bf:=(N6.1 hk).1;rw [List.map_append];simp [Ou,hk,Bf]
   exact (N6.1 hk).2)
 clear hX hY hW a_ AU nV Jc BA xd xd2 xr xr2 xb Fv HL HS hg hm ha h0 hl;obtain ⟨n,ia⟩:=zzN (ls.length);rw [ia] at CS HSS HA LZ ⊢;obtain ⟨sc,AF⟩:=zzN (vZ ls);rw [AF] at CS hnI LZ ⊢;have HN:=mj ia;clear AF ia hn;go_enter Tryz.func8,Tryz.ntmps8;go_upto_region 4 with (fail)
 rw [HX.out];go_wp2_with fail
 (with_reducible refine CS.out.mono ?_)
 rintro en y1 ⟨rfl,e1⟩;subst e1;rw [HY.out];go_upto_region 6 with (fail)
 rw [HW.out.1];have Fi:Oi.wrap (((n+1:Nat):Int)-1)=(n:Int):=by rw [wrap_lowN _ (by omega) (by omega)];omega
 have hw1':Oi.wrap ((n:Int)+1-1)=(n:Int):=by rw [wrap_lowN _ (by omega) (by omega)];omega
 have hn0:(0:Int)<=(n:Int):=by omega
 have nh:(n:Int)<=(n:Int)+1:=by omega
 go_wp2_with fail
 clear Fi hw1' hn0 nh CS
 go_loopw [21] (fun x wr=>∃ (i:Nat) (wz:World),wz=wr/\i<=n/\x=.int .i64 i/\ExI W w.heap.size (w.heap.size+1) (w.heap.size+1+1) ls st ans i wz) (fun x _=>n-(intOf x).toNat)
 case atStart=>exact ⟨0,_,rfl,Og _,rfl,sC⟩
 case round =>
  clear sC;obtain ⟨i,wr,rfl,hi,rfl,hI⟩:=hrel;obtain ⟨nw,rI⟩:=KY.out i wr hI;have HI:=mj hI;have iR:=mj nw;clear hI nw;have hgY:w.heap.size<(w.heap.size+1+1):=by omega
  by_cases m_:i<n
  ·have LU:(i:Int)<(n:Int):=by omega
   obtain ⟨l,hl⟩:∃ l,ls[i]? = some l:=⟨ls[i]'(by rw [HN.out];exact m_),List.getElem?_eq_getElem _⟩;have c0:=rI i l hl;have CL:=mj (HLL.out i l hl w.heap.size wr iR.out (my _) HI.out.desk);have Af:=HA.out i m_;have D9:=fun w0=>k9 (P:=KD) (ans i) [10] (by simp;omega) w0;obtain ⟨A,hA⟩:=zzN (ans i++[10]);rw [hA] at D9;have HAA:=mj hA;have hAl:A.length<=1000001:=by rw [<- hA];simp;omega
   clear rI hl hA;go_wp2_with fail
   (with_reducible refine CL.out.mono ?_);rintro en w1 ⟨rfl,mi,As⟩
   have Bf:∀ j x,j≠w.heap.size->wr.heap[j]? = some x->w1.heap[j]? = some x:=fun j x hj hx=>(mi.block j (zZ hx) hj).trans hx;have MI:Bld (w.heap.size+1+1) (w.heap.size+1+1) (qN ans i) w1:=HI.out.bld.keep fun j x hj hx=>Bf j x (by omega) hx;have rz:=mi.size;have hso:=HI.out.size;have Iq:=th;have CW:=mj (bld_write (w.heap.size+1+1) (w.heap.size+1+1) (qN ans i) A w1 MI (by have:=fg ans i (fun j hj=>HA.out j (by omega));omega) (by omega));have H1:=mj (mu mi (mu As Bf));clear mi As Bf MI CL Af c0;go_wp2_with fail
   (with_reducible refine CW.out.mono ?_);rintro en w2 ⟨rfl,EN,me⟩
   have H2:Hid (ExI W w.heap.size (w.heap.size+1) (w.heap.size+1+1) ls st ans (i+1) w2):=mj (by
    refine ⟨by have:=me.size;omega,fun j x hj hjb hx=>(me.block j hjb).trans (H1.out.2.2 j x hj (HI.out.keep j x hj hjb hx)),⟨me.os.trans (H1.out.1.os.trans HI.out.os.1),me.tape.trans (H1.out.1.tape.trans HI.out.os.2.1),me.output.trans (H1.out.1.output.trans HI.out.os.2.2)⟩,(me.block _ hgY).trans H1.out.2.1,?_⟩
    rw [qN,HAA.out];exact EN)
   clear EN me CW D9;go_wp2_with fail
   go_roundw
   case rel=>exact ⟨i+1,_,rfl,by omega,by go_num,H2.out⟩
   case measure=>simp [intOf];omega
  ·obtain rfl:i=n:=by omega
   have ia:¬ ((i:Int)<(i:Int)):=by omega
   obtain ⟨d0,d1,_,_,hgl⟩:=HI.out.desk.cells;have CS:=mj (HSS.out wr iR.out);have CSZ:=mj (fun (y:World) (hy:Below wr.heap.size wr y)=>HSS.out y (zzT iR.out hy));have CIT:=mj (fun (y:World) (hy:Below wr.heap.size wr y)=>fo (sz:Int) y (HG.out.below (zzT iR.out hy)) (by omega) (by omega));rw [itoa_decN] at CIT;obtain ⟨O1,Gl⟩:∃ O:Bs,[110,111,100,101,115,32]++dec sz=O:=⟨_,rfl⟩;obtain ⟨O2,G9⟩:∃ O:Bs,O1++[10]=O:=⟨_,rfl⟩;have J3:(dec sz).length<=4:=vU 3 sz (by omega);have s1:=fun w0=>k9 (P:=KD) [110,111,100,101,115,32] (dec sz) (by simp;omega) w0;rw [Gl] at s1;have JX:O1.length<=10:=by rw [<- Gl];simp;omega
   have s2:=fun w0=>k9 (P:=KD) O1 [10] (by simp;omega) w0;rw [G9] at s2;have hl2:O2.length<=11:=by rw [<- G9];simp;omega
   have HO:=mj (show O2=[110,111,100,101,115,32]++dec sz++[10] by rw [<- G9,<- Gl]);have iB:=fg ans i (fun j hj=>HA.out j hj);have CW:=mj (fun (y:World) (hy:Below wr.heap.size wr y)=>bld_write (w.heap.size+1+1) (w.heap.size+1+1) (qN ans i) O2 y (HI.out.bld.keep fun j x _ hx=>(hy.block j (zZ hx)).trans hx) (by omega) (by have h1:=hy.size;have h2:=HI.out.size;omega));have KEY:=mj (fun (y:World) (hy:Below wr.heap.size wr y)=>(show y.cell? ⟨w.heap.size,0,none⟩=some (str (st i).1)/\y.cell? ⟨w.heap.size,1,none⟩=some (str (st i).2) from ⟨(HI.out.desk.below hy).cells.1,(HI.out.desk.below hy).cells.2.1⟩));obtain ⟨D,hD⟩:=zzN (dec sz);rw [hD] at s1 CIT;clear Gl G9 JX hl2 J3 iB hD CS rI d0 d1 hgl;go_upto_region 11 with (fail)
   refine wp_region_noPanic ?_;refine zB (fun w'=>w'.cell? ⟨w.heap.size,0,none⟩=some (str (st i).1)/\w'.cell? ⟨w.heap.size,1,none⟩=some (str (st i).2)) (fun _=>false) (by kernel_rfl) ?_;have mt:(fun w'=>w'.cell? ⟨w.heap.size,0,none⟩=some (str (st i).1)/\w'.cell? ⟨w.heap.size,1,none⟩=some (str (st i).2)) wr.drew:=KEY.out _ (Below.drew (mw _ _));refine tC [0,1,2,3,4,5,6,7] mt ?_;iterate 8 (refine tl (fun w' nP=>nP) ?_)
   refine tz ?_;(refine on 8 ?_;intro o ho K' hK;simp at ho;subst ho;go_simp);have hd:Below wr.heap.size wr wr.drew:=Below.drew (mw _ _);go_at_call 24;(with_reducible refine (CSZ.out _ hd).mono ?_);rintro en x8 ⟨rfl,rK⟩;have Ki:Below wr.heap.size wr x8:=Below.trans hd (rK.mono (Below.size hd));clear rK;(refine hK.out _ _ (fun _=>KEY.out _ Ki) ?_;clear hK K';try simp only [pQ,pN,pZ,pS]);have hS8:=KEY.out _ Ki;(refine on 9 ?_;intro o ho K' hK;simp at ho;subst ho;go_simp);go_at_call 23;(with_reducible refine (CIT.out _ Ki).mono ?_);rintro en x9 ⟨rfl,rR⟩;have Hc:Below wr.heap.size wr x9:=Below.trans Ki (rR.mono (Below.size Ki));clear rR;(refine hK.out _ _ (fun _=>KEY.out _ Hc) ?_;clear hK K';try simp only [pQ,pN,pZ,pS]);have hS9:=KEY.out _ Hc;refine tC [10,11] hS9 ?_;iterate 2 (refine tx ?_)
   refine tz ?_;(refine on 12 ?_;intro o ho K' hK;simp at ho;subst ho;go_simp);go_at_call 21;(with_reducible refine (CW.out _ Hc).mono ?_);rintro en x12 ⟨rfl,EO,tW⟩;(refine hK.out _ _ (fun _=>⟨(tW.cell (show w.heap.size<w.heap.size+1+1 by omega)).trans (KEY.out _ Hc).1,(tW.cell (show w.heap.size<w.heap.size+1+1 by omega)).trans (KEY.out _ Hc).2⟩) ?_;clear hK K';try simp only [pQ,pN,pZ,pS]);refine zY (by kernel_rfl) (NoPanic.normal ?_) _;have HW12:=mj (mu EO tW);have Lh:(w.heap.size+1+1)<=x12.heap.size:=by have h1:=Hc.size;have h2:=HI.out.size;have h3:=tW.size;omega
   have CRD:=mj (read_any (w.heap.size+1+1) (w.heap.size+1+1) (qN ans i++O2) x12 EO Lh);have Db:=mj Hc;clear EO tW Hc Ki mt s1 s2 Lh;go_wp2_with fail
   (with_reducible refine CRD.out.mono ?_);rintro en x13 ⟨rfl,ER⟩
   have HF:Hid (Below w.heap.size w x13):=mj (by
    have h1:Below w.heap.size w x9:=zzT iR.out Db.out
    exact (h1.trans (HW12.out.2.mono (by omega))).trans (ER.mono (by omega)))
   clear ER CRD;go_wp2_with fail
   go_ret;refine ⟨?_,HF.out⟩;rw [HO.out];rfl
mutual
def eta:Ty->Nat->Nat->Bd
 | .mk ts,v,n=>.ask v (ux ts n (n+ts.length)) (.leaf 116) (.leaf 102)
def ux:List Ty->Nat->Nat->List Bd
 | [],_,_=>[]
 | t::ts,v,n=>eta t v n::ux ts (v+1) n
end
theorem eta_eq (t:Ty) (v n:Nat):eta t v n=.ask v (ux t.args n (n+t.args.length)) (.leaf 116) (.leaf 102):=by cases t;rw [eta];rfl
theorem x5:∀ (ts:List Ty) (v n:Nat),(ux ts v n).length=ts.length
 | [],_,_=>by simp [ux]
 | t::ts,v,n=>by rw [ux,N5,x5 ts,N5]
theorem etas_at:∀ (ts:List Ty) (v n k:Nat) (t:Ty),ts[k]? = some t->(ux ts v n)[k]? = some (eta t (v+k) n)
 | [],v,n,k,t,h=>by simp at h
 | a::ts,v,n,k,t,h=>by
   rw [ux];cases k with
   | zero=>simp at h;subst h;simp
   | succ k=>simp only [N8] at *;rw [etas_at ts (v+1) n k t h,show v+1+k=v+(k+1) from by omega]
mutual
theorem eta_fit:∀ (t:Ty) (v n:Nat) (hand:List Ty),hand.length=n->hand[v]? = some t->jq (hand++t.args) (eta t v n)
 | .mk ts,v,n,hand,hn,hv=>by
   rw [eta,jq];have m_:=(N6.1 hv).1;refine ⟨.mk ts,by rw [Ou m_];exact hv,?_,by simp [jq],by simp [jq]⟩;refine etas_fit ts n (n+ts.length) (hand++ts) (by simp [hn]) fun j t hj=>?_;subst hn;rw [Ow (by omega),RV];exact hj
theorem etas_fit:∀ (ts:List Ty) (v n:Nat) (hand:List Ty),hand.length=n->(∀ j t,ts[j]? = some t->hand[v+j]? = some t)->jz (qC hand ts) (ux ts v n)
 | [],v,n,hand,_,_=>by rw [ux,jz];rfl
 | t::ts,v,n,hand,hn,hv=>by
   rw [ux,jz];refine ⟨hand++t.args,qC hand ts,rfl,eta_fit t v n hand hn (by simpa using hv 0 t rfl),etas_fit ts (v+1) n hand hn fun j t' hj=>?_⟩;rw [show v+1+j=v+(j+1) from by omega];exact hv (j+1) t' (by simpa using hj)
end
mutual
theorem eta_wf:∀ (t:Ty) (v n:Nat),wfB (eta t v n)
 | .mk ts,v,n=>by rw [eta,wfB];exact ⟨etas_wf ts n _,.inl rfl,.inr (.inl rfl)⟩
theorem etas_wf:∀ (ts:List Ty) (v n:Nat),xV (ux ts v n)
 | [],v,n=>by rw [ux];trivial
 | t::ts,v,n=>by rw [ux,xV];exact ⟨eta_wf t v n,etas_wf ts (v+1) n⟩
end
mutual
theorem mU:∀ (t:Ty) (v n:Nat),zX (eta t v n)<=3*zJ t/\kz (eta t v n)<=zJ t
 | .mk ts,v,n=>by
   have:=etas_size ts n (n+ts.length);rw [eta,zX,kz,zJ];simp only [zX,kz] at *;omega
theorem etas_size:∀ (ts:List Ty) (v n:Nat),zR (ux ts v n)<=3*zc ts/\k8 (ux ts v n)<=zc ts
 | [],v,n=>by simp [ux,zR,k8]
 | t::ts,v,n=>by
   have h1:=mU t v n;have h2:=etas_size ts (v+1) n;rw [ux,zR,k8,zc];omega
end
def cost:Bd->Nat
 | .leaf c=>if c=117 then 1 else 2
 | .ask _ ss y n=>4+costs ss+cost y+cost n
where costs:List Bd->Nat
 | []=>0
 | s::ss=>1+cost s+costs ss
theorem ev_bd {d l v n:Nat} {ss:List Bd} {y no b':Bd} {t:Ty} {env e:List Mn} {st:List Gf} (h:env[v]? = some (.bd t b' e)) :
 ev (d+1) (l+1) (.ask v ss y no) env n st=ev d l b' (e++jZ env t.args ss) n (⟨y,no,env⟩::st):=by rw [ev.eq_def];simp only [h]
theorem ev_op {d l v n o:Nat} {ss:List Bd} {y no:Bd} {t:Ty} {env:List Mn} {st:List Gf} (h:env[v]? = some (.op o t)) :
 ev (d+1) (l+1) (.ask v ss y no) env n st=(qZ (ev d) env n l t.args ss).bind fun x=>(ev d x.2 y env n st).bind fun z=>(ev d z.2 no env n st).bind fun u=>some (.ask o x.1 z.1 u.1,u.2):=by rw [ev.eq_def];simp only [h];rfl
theorem ev_u {d l n:Nat} {env:List Mn} {st:List Gf}:ev (d+1) (l+1) (.leaf 117) env n st=some (.leaf 117,l):=by rw [ev.eq_def];simp
theorem ev_end {d l n:Nat} {c:UInt8} {env:List Mn}:ev (d+1) (l+1) (.leaf c) env n []=some (.leaf c,l):=by rw [ev.eq_def];simp
theorem ev_back {d l n:Nat} {c:UInt8} (h:c≠117) {env:List Mn} {f:Gf} {st:List Gf}:ev (d+1) (l+1) (.leaf c) env n (f::st)=ev d l (if c=116 then f.yes else f.no) f.env n st:=by rw [ev.eq_def];simp only [if_neg h]
theorem owns_at {env:List Mn}:∀ (ts:List Ty) (ss:List Bd) (k:Nat) (t:Ty) (s:Bd),ts[k]? = some t->ss[k]? = some s->(jZ env ts ss)[k]? = some (.bd t s env)
 | [],ss,k,t,s,h,_=>by simp at h
 | t'::ts,[],k,t,s,_,h=>by simp at h
 | t'::ts,s'::ss,k,t,s,h1,h2=>by
   rw [jZ];cases k with
   | zero=>simp at h1 h2;subst h1;subst h2;rfl
   | succ k=>simp only [N8] at *;exact owns_at ts ss k t s h1 h2
theorem eN {env:List Mn}:∀ (ts:List Ty) (ss:List Bd),ts.length=ss.length->(jZ env ts ss).length=ts.length
 | [],[],_=>by rw [jZ]
               ·rfl
               ·intros;contradiction
 | [],s::ss,h=>by simp at h
 | t::ts,[],h=>by simp at h
 | t::ts,s::ss,h=>by rw [jZ];simp [eN ts ss (by simpa using h)]
theorem opens_at:∀ (ts:List Ty) (n k:Nat) (t:Ty),ts[k]? = some t->(z8 n ts)[k]? = some (.op (n+k) t)
 | [],n,k,t,h=>by simp at h
 | a::ts,n,k,t,h=>by
   rw [z8];cases k with
   | zero=>simp at h;subst h;rfl
   | succ k=>simp only [N8] at *;rw [opens_at ts (n+1) k t h,show n+1+k=n+(k+1) from by omega]
theorem qG:∀ (ts:List Ty) (n:Nat),(z8 n ts).length=ts.length
 | [],n=>by rw [z8];rfl
 | t::ts,n=>by rw [z8];simp [qG ts]
structure Copies (env:List Mn) (hand:List Ty):Prop where
 len:env.length=hand.length
 each:∀ i t,hand[i]? = some t->∃ (v:Nat) (e:List Mn),env[i]? = some (Mn.bd t (eta t v e.length) e)/\e[v]? = some (Mn.op i t)
theorem Copies.more {env:List Mn} {hand:List Ty} (h:Copies env hand) (e2:List Mn) (ts:List Ty) :
 Copies (env++jZ (e2++z8 hand.length ts) ts (ux ts e2.length (e2.length+ts.length))) (hand++ts):=by
 have hl:=h.len;refine ⟨?_,fun i t hi=>?_⟩
 ·rw [NZ,NZ,eN _ _ (x5 _ _ _).symm,hl]
 ·rcases Nat.lt_or_ge i hand.length with m_ | Bg
  ·rw [Ou m_] at hi;obtain ⟨v,e,h1,h2⟩:=h.each i t hi;exact ⟨v,e,by rw [Ou (by omega)];exact h1,h2⟩
  ·rw [Ow Bg] at hi;have h1:=etas_at ts e2.length (e2.length+ts.length) _ t hi;have h2:=owns_at (env:=e2++z8 hand.length ts) ts _ _ t _ hi h1;have h3:=opens_at ts hand.length _ t hi;refine ⟨e2.length+(i-hand.length),e2++z8 hand.length ts,?_,?_⟩
   ·rw [Ow (by omega),hl,h2,NZ,qG]
   ·rw [Ow (by omega),RV,h3,show hand.length+(i-hand.length)=i from by omega]
mutual
def dX:Mn->List DV
 | .op o t=>[.val (.int .i64 (o:Nat)),jT t,.val (.pointer none),.val (.slice none 0 0)]
 | .bd _ b e=>[.val (.int .i64 0),.val (.pointer none),k_ b,.sl 199 4 e.length (qe e)]
def qe:List Mn->List DV
 | []=>[]
 | m::ms=>dX m++qe ms
end
theorem x6 (m:Mn):(dX m).length=4:=by cases m <;> simp [dX]
theorem dY:∀ ms:List Mn,(qe ms).length=ms.length*4
 | []=>by simp [qe]
 | m::ms=>by rw [qe,NZ,x6,dY ms];simp;omega
theorem uX:∀ (xs ys:List Mn),qe (xs++ys)=qe xs++qe ys
 | [],ys=>by simp [qe]
 | x::xs,ys=>by simp [qe,uX xs ys]
theorem encMs_one (m:Mn):qe [m]=dX m:=by simp [qe]
theorem zq.lit1 {w:World} {e:TypeId} {sz:Nat} (cs:Array Value) (hn:cs.size=sz) (hc:∀ u∈cs.toList,u.oneCell'=true) (g:Nat) (hg:g=w.heap.size):zq sz (.slice (some ⟨g,0,none⟩) 1 1) 1 cs.toList (w.alloc (.cells cs e)):=by
 subst hg;refine ⟨by simp [hn],hc,.inl ⟨_,_,rfl,fun j u hu=>?_⟩⟩;unfold Addr.add;split
 ·subst j;simp;simpa using hu
 ·simp;simpa using hu
theorem Tryz.infoMn:(KD.info? 199).map (fun i=>(i.zero,i.size,i.bytes))=some (some (.agg #[.int .i64 0,.pointer none,.pointer none,.slice none 0 0]),4,48):=by kernel_rfl
def FreshV (w:World) (e:TypeId) (sz n:Nat) (P:World->List Value->Prop) (en:Ending) (w':World):Prop :=
 ∃ a c xs,en=.returned (.slice a n c)/\Own w' e sz (.slice a n c) n xs/\P w' xs/\Below w.heap.size w w'/\∀ g,(Nq a n c).ownBlock=some g->w.heap.size<=g
theorem fh:∀ (ts:List Ty) (n:Nat) (t:Ty),z8 n (ts++[t])=z8 n ts++[.op (n+ts.length) t]
 | [],n,t=>by simp [z8]
 | a::ts,n,t=>by rw [Oe,z8,z8,fh ts (n+1) t,Oe,N5,show n+1+ts.length=n+(ts.length+1) from by omega]
theorem cZ {ts:List Ty} {n k:Nat} {t:Ty} (h:ts[k]? = some t):z8 n (ts.take (k+1))=z8 n (ts.take k)++[.op (n+k) t]:=by
 have hk:=(N6.1 h).1;rw [OG,h];simp only [Option.toList_some];rw [fh,PG,RI (by omega)]
theorem d7 {F:Nat->Prop} {w:World} {t:Ty} {v:Value} (h:Rep F w (jT t) v):∃ b,v=.pointer (some ⟨b,0,none⟩):=by
 cases t with
 | mk ts=>rw [jT,jv] at h;obtain ⟨b,c,h,_⟩:=h;exact ⟨b,h⟩
theorem dg (F:Nat->Prop) (n:Nat) (ts:List Ty) (kv:Value) (w:World) (h:Rep F w (.sl 32 1 ts.length (qg ts)) kv) (hl:ts.length<=1000) (hn:n<=1000000) :
 Calls KD 137 #[.int .i64 (n:Nat),kv] w (FreshV w 199 4 ts.length fun w' xs=>zW F w' (qe (z8 n ts)) xs):=by
 obtain ⟨ka,kc,e,_,_,ml⟩:=zP h;subst e;have H:=mj ml;clear ml h;go_enter Tryz.func137,Tryz.ntmps137;go_wp2_with fail
 go_loopw [5,10] (fun o i wr=>∃ k:Nat,k<=ts.length/\i=.int .i64 k/\∃ a c xs,o=.slice a k c/\Own wr 199 4 (.slice a k c) k xs/\zW (fun i=>F i/\i<w.heap.size) wr (qe (z8 n (ts.take k))) xs/\Below w.heap.size w wr/\(∀ g,(Nq a k c).ownBlock=some g->w.heap.size<=g)) (fun _ i _=>ts.length-(intOf i).toNat)
 case atStart=>exact ⟨0,Og _,rfl,none,0,[],rfl,OL _ _ _ _,by simp [z8,qe,zC],mw _ _,fun g h=>by simp [N7] at h⟩
 case round =>
  obtain ⟨k,hk,rfl,a,c,xs,rfl,ho,hr,hb,hf⟩:=hrel;have HO:=mj ho;have HF:=mj hf;have HB:=mj hb;have HR:=mj hr;clear ho hf hb hr;by_cases m_:k<ts.length
  ·have rF:(k:Int)<(ts.length:Int):=by omega
   obtain ⟨b,o,u,d,e,_,nw,hd,hc,tQ⟩:=H.out k m_;subst e;rw [xj,N3] at hd;obtain ⟨t,ht,rfl⟩:=hd;obtain ⟨ub,rfl⟩:=d7 tQ;have q0:=(HB.out.cell (p:=⟨b,o+k,none⟩) nw).trans hc;have HT:=mj (mu ht tQ);clear ht tQ hc;have D9:Oi.wrap ((n:Int)+(k:Int))=(n:Int)+(k:Int):=IntWalk.i64_in _ (by omega);clear D9;go_wp2_with (at_builtin;refine zE rfl _ _ 196 rfl 199 (.agg #[.int .i64 0,.pointer none,.pointer none,.slice none 0 0]) 4 48 Pk Tryz.infoMn rfl (by decide) (.slice a k c) k xs rfl ?c1 _ 1 [.int .i64 ((n:Int)+(k:Int)),.pointer (some ⟨ub,0,none⟩),.pointer none,.slice none 0 0] rfl ?c2 ?c3 ?c4 ?_)
   case c1=>exact HO.out.alloc _
   case c2=>exact zq.lit1 #[.int .i64 ((n:Int)+(k:Int)),.pointer (some ⟨ub,0,none⟩),.pointer none,.slice none 0 0] rfl (by simp [Of]) _ (by simp)
   case c3=>unfold maxLen;omega
   case c4=>omega
   intro a' c' w7 nL mo nG;have tX:Below w.heap.size w w7:=by
    have h1:=HB.out;refine (h1.alloc h1.size _).trans (mo.toBelow (by rw [zK];have:=h1.size;omega) fun i hi e=>?_);have:=HF.out i e;omega
   have oY:∀ g,(Nq a' (k+1) c').ownBlock=some g->w.heap.size<=g:=by
    intro g h;rcases nG g h with h | h
    ·exact HF.out g h
    ·have h2:=HB.out.size;omega
   have iH:zW (fun i=>F i/\i<w.heap.size) w7 (qe (z8 n (ts.take (k+1)))) (xs++[.int .i64 ((n:Int)+(k:Int)),.pointer (some ⟨ub,0,none⟩),.pointer none,.slice none 0 0]):=by
    rw [cZ HT.out.1,uX,encMs_one];refine zW.append ?_ ?_
    ·exact (Rep.keep fun b o hf ho=>⟨hf,by rw [tX.block b hf.2,<- HB.out.block b hf.2];exact ho⟩).2 _ _ HR.out
    ·rw [dX];refine zQ.2 ⟨_,_,rfl,zH.2 (by rw [Int.natCast_add]),zQ.2 ⟨_,_,rfl,(Rep.keep fun b o hf ho=>⟨⟨hf,zZ ho⟩,by rw [tX.block b (zZ ho)];exact ho⟩).1 _ _ HT.out.2,zQ.2 ⟨_,_,rfl,zH.2 rfl,zQ.2 ⟨_,_,rfl,zH.2 rfl,zC.2 rfl⟩⟩⟩⟩
   have HA:=mj (mu nL (mu iH (mu tX oY)));clear nL iH tX oY mo nG;go_wp2_with fail
   go_roundw
   case rel=>exact ⟨k+1,by omega,by go_num,a',c',_,rfl,HA.out.1,HA.out.2.1,HA.out.2.2.1,HA.out.2.2.2⟩
   case measure=>simp [intOf];omega
  ·obtain rfl:k=ts.length:=by omega
   go_wp2_with fail
   go_ret;have h0:=HR.out;rw [Oh] at h0;exact ⟨a,c,xs,rfl,HO.out,(Rep.keep fun b o hf ho=>⟨hf.1,ho⟩).2 _ _ h0,HB.out,HF.out⟩
end Go.Proofs.YtpgiohmcggllgaaGreatDoor
namespace Go.Proofs.YtpgiohmcggllgaaGreatDoor
open Go.RowKit Go.Extern.Stop Go.Stop Go.Extern Go.Extern.Rtype
theorem Tryz.isTypeOf (v:Value) (w:World):(Qf #[.iface 330 v]).run KD w=.ok (.iface 308 (.agg #[.pointer (some ⟨9,330,none⟩)])) w:=by kernel_rfl
theorem Tryz.callCmp (w:World):Sem.run KD (callFunc 250 #[.agg #[.pointer (some ⟨9,330,none⟩)]]) w=.ok (.value (.bool true)) w:=by
 rw [@run_callFunc_extern KD 250 _ (Qg fun t=>do noPackHeld "Comparable" t;pure (.bool (<- typeInfo t).comparable)) Tryz.func250 (by kernel_rfl) (by kernel_rfl) (by kernel_rfl) (by kernel_rfl)];have h:((Qg fun t=>do noPackHeld "Comparable" t;pure (.bool (<- typeInfo t).comparable)) #[.agg #[.pointer (some ⟨9,330,none⟩)]]).run KD w=.ok (.bool true) w:=by kernel_rfl
 rw [h];rfl
theorem Tryz.isMethodComparable (v:Value) (w:World):(Go.method 462 308 v "Comparable").run KD w=.ok (250,v) w:=by kernel_rfl
theorem Tryz.isComp:(KD.info? 330).map (·.comparable)=some true:=by kernel_rfl
theorem Tryz.isSize:(KD.info? 332).map (·.size)=some 1:=by kernel_rfl
theorem is_nil (b:Addr) (w:World):Calls KD 172 #[.nilIface,.iface 330 (.pointer (some b))] w fun e w'=>e=.returned (.bool false)/\w'=w:=by
 have hn:=run_eql_iface_nil_left (P:=KD) w 330 (.pointer (some b)) Q8;go_enter S6,SD;go_wp2;go_ret;exact ⟨rfl,rfl⟩
theorem is_same (a:Addr) (w:World) :
 Calls KD 172 #[.iface 330 (.pointer (some a)),.iface 330 (.pointer (some a))] w fun e w'=>e=.returned (.bool true)/\w'=w:=by
 obtain ⟨i,hi,MC⟩:=N3.1 Tryz.isComp;obtain ⟨j,hj,hjs⟩:=N3.1 Tryz.isSize;have h8:=@run_callFunc_extern KD 200 _ Qf Tryz.func200 (by kernel_rfl) (by kernel_rfl) (by kernel_rfl) (by kernel_rfl);have tT:=Tryz.isTypeOf;have cT:=Tryz.callCmp;have mR:=Tryz.isMethodComparable;have Ar:=run_eql_iface_ptr_same (P:=KD) w a Q8 Tryz.underlying330 hi MC hj;clear hi MC hj hjs;go_enter S6,SD;go_wp2;refine wp_loop_rounds 1 ?_;rw [rounds_succ];go_wp2;go_ret;exact ⟨rfl,rfl⟩
def yW (w:World):Prop:=∃ a,w.cell? ⟨2,0,none⟩=some (.iface 330 (.pointer (some a)))
theorem yW.but {m:Nat->Prop} {w w':World} (h:yW w) (hb:But m w w') (hm:¬ m 2):yW w':=by
 obtain ⟨a,h⟩:=h;exact ⟨a,(hb.cell (mx w _ h) hm).trans h⟩
theorem yW.below {w w':World} (h:yW w) (hb:Below w.heap.size w w'):yW w':=h.but (m:=fun _=>False) (But.ofBelow hb) (fun h=>h)
def Apl (w:World) (aa l:Nat):Prop:=w.heap[aa]? = some (.cells #[.int .i64 (l:Nat)] 244 (0,0))
theorem Apl.cell {w:World} {aa l:Nat} (h:Apl w aa l):w.cell? ⟨aa,0,none⟩=some (.int .i64 (l:Nat))/\w.frozen? ⟨aa,0,none⟩=false/\aa<w.heap.size:=by
 unfold Apl at h;exact ⟨by simp [GD,h],by simp [N4,h],zZ h⟩
theorem Apl.below {w w':World} {aa l:Nat} (h:Apl w aa l) (hb:Below w.heap.size w w'):Apl w' aa l:=by unfold Apl;rw [hb.block aa (zZ h)];exact h
theorem Rep.low {F:Nat->Prop} {w:World} {d:DV} {v:Value} (h:Rep F w d v):Rep (fun i=>F i/\i<w.heap.size) w d v:=(Rep.keep fun _ _ hf ho=>⟨⟨hf,zZ ho⟩,ho⟩).1 _ _ h
theorem zW.low {F:Nat->Prop} {w:World} {d:List DV} {v:List Value} (h:zW F w d v):zW (fun i=>F i/\i<w.heap.size) w d v:=(Rep.keep fun _ _ hf ho=>⟨⟨hf,zZ ho⟩,ho⟩).2 _ _ h
theorem Rep.weak {F G:Nat->Prop} {w:World} {d:DV} {v:Value} (h:Rep F w d v) (k:∀ i,F i->G i):Rep G w d v:=(Rep.keep fun _ _ hf ho=>⟨k _ hf,ho⟩).1 _ _ h
def uS (F:Nat->Prop) (w:World) (aa n:Nat):List Gf->Value->Prop
 | [],v=>v=.nilFunc
 | f :: st,v=>∃ (b1 b2 b3 b4 b5:Nat) (bp ev on:Value) (vv:Nat) (ss:List Bd),v=.func (.func 198) #[] #[.pointer (some ⟨b1,0,none⟩),.pointer (some ⟨b2,0,none⟩),.pointer (some ⟨b3,0,none⟩),.pointer (some ⟨b4,0,none⟩),.pointer (some ⟨b5,0,none⟩)] /\
     (F b1/\F b2/\F b3/\F b4/\F b5)/\w.cell? ⟨b1,0,none⟩=some bp/\Rep F w (k_ (.ask vv ss f.yes f.no)) bp/\w.cell? ⟨b2,0,none⟩=some (.pointer (some ⟨aa,0,none⟩))/\w.cell? ⟨b3,0,none⟩=some ev/\Rep F w (.sl 199 4 f.env.length (qe f.env)) ev/\w.cell? ⟨b4,0,none⟩=some (.int .i64 (n:Nat))/\w.cell? ⟨b5,0,none⟩=some on/\uS F w aa n st on
theorem uS.but {F G:Nat->Prop} {w w':World} {aa n:Nat} {m:Nat->Prop} (hb:But m w w') (hF:∀ i,F i->¬ m i/\G i):∀ (st:List Gf) (v:Value),uS F w aa n st v->uS G w' aa n st v
 | [],v,h=>h
 | f::st,v,h=>by
   obtain ⟨b1,b2,b3,b4,b5,bp,ev,on,vv,ss,e,⟨n1,n2,n3,n4,n5⟩,c1,r1,c2,c3,r3,c4,c5,r5⟩:=h;have k:∀ {b:Nat} {u:Value},F b->w.cell? ⟨b,0,none⟩=some u->w'.cell? ⟨b,0,none⟩=some u:=fun hn hc=>(hb.cell (mx w _ hc) (hF _ hn).1).trans hc;exact ⟨b1,b2,b3,b4,b5,bp,ev,on,vv,ss,e,⟨(hF _ n1).2,(hF _ n2).2,(hF _ n3).2,(hF _ n4).2,(hF _ n5).2⟩,k n1 c1,r1.but hb hF,k n2 c2,k n3 c3,r3.but hb hF,k n4 c4,k n5 c5,uS.but hb hF st on r5⟩
theorem uS.low {F:Nat->Prop} {w:World} {aa n:Nat}:∀ (st:List Gf) (v:Value),uS F w aa n st v->uS (fun i=>F i/\i<w.heap.size) w aa n st v
 | [],v,h=>h
 | f::st,v,h=>by
   obtain ⟨b1,b2,b3,b4,b5,bp,ev,on,vv,ss,e,⟨n1,n2,n3,n4,n5⟩,c1,r1,c2,c3,r3,c4,c5,r5⟩:=h;have lt:∀ {b:Nat} {u:Value},w.cell? ⟨b,0,none⟩=some u->b<w.heap.size:=fun hc=>mx w _ hc;exact ⟨b1,b2,b3,b4,b5,bp,ev,on,vv,ss,e,⟨⟨n1,lt c1⟩,⟨n2,lt c2⟩,⟨n3,lt c3⟩,⟨n4,lt c4⟩,⟨n5,lt c5⟩⟩,c1,Rep.low r1,c2,c3,Rep.low r3,c4,c5,uS.low st on r5⟩
mutual
def okM (B:Nat):Mn->Prop
 | .op o t=>zJ t<=15/\o<=B
 | .bd t _ e=>zJ t<=15/\e.length<=B/\y8 B e
def y8 (B:Nat):List Mn->Prop
 | []=>True
 | m::ms=>okM B m/\y8 B ms
end
mutual
theorem okM_mono {B C:Nat} (h:B<=C):∀ m,okM B m->okM C m
 | .op o t,k=>by rw [okM] at *;exact ⟨k.1,by omega⟩
 | .bd t b e,k=>by rw [okM] at *;exact ⟨k.1,by omega,qU h e k.2.2⟩
theorem qU {B C:Nat} (h:B<=C):∀ ms,y8 B ms->y8 C ms
 | [],_=>by rw [y8];trivial
 | m::ms,k=>by rw [y8] at *;exact ⟨okM_mono h m k.1,qU h ms k.2⟩
end
theorem jx {B:Nat}:∀ (a b:List Mn),y8 B a->y8 B b->y8 B (a++b)
 | [],b,_,h=>h
 | x::a,b,h,k=>by rw [y8] at h;exact ⟨h.1,jx a b h.2 k⟩
theorem gr {B:Nat}:∀ (a:List Mn),y8 B a->∀ (k:Nat) (m:Mn),a[k]? = some m->okM B m
 | [],_,k,m,h=>by simp at h
 | x::a,hs,k,m,h=>by
   rw [y8] at hs;cases k with
   | zero=>simp at h;subst h;exact hs.1
   | succ k=>exact gr a hs.2 k m (by simpa using h)
theorem jR {B:Nat}:∀ (ts:List Ty) (n:Nat),(∀ t∈ts,zJ t<=15)->n+ts.length<=B+1->y8 B (z8 n ts)
 | [],n,_,_=>by rw [z8];trivial
 | t::ts,n,h,hn=>by
   simp only [N5] at hn;rw [z8,y8];exact ⟨by rw [okM];exact ⟨h t (by simp),by omega⟩,jR ts (n+1) (fun x hx=>h x (by simp [hx])) (by omega)⟩
theorem wT {B:Nat} {env:List Mn} (he:y8 B env) (hl:env.length<=B):∀ (ts:List Ty) (ss:List Bd),(∀ t∈ts,zJ t<=15)->y8 B (jZ env ts ss)
 | [],ss,_=>by
   rw [jZ]
   ·trivial
   ·intros;contradiction
 | t::ts,[],_=>by
   rw [jZ]
   ·trivial
   ·intros;contradiction
 | t::ts,s::ss,h=>by rw [jZ,y8];exact ⟨by rw [okM];exact ⟨h t (by simp),hl,he⟩,wT he hl ts ss (fun x hx=>h x (by simp [hx]))⟩
def okGs (B:Nat):List Gf->Prop
 | []=>True
 | f::fs=>f.env.length<=B/\y8 B f.env/\okGs B fs
theorem vg {B C:Nat} (h:B<=C):∀ fs,okGs B fs->okGs C fs
 | [],_=>trivial
 | f::fs,k=>⟨by have:=k.1;omega,qU h _ k.2.1,vg h fs k.2.2⟩
theorem kZ {t:Ty} (h:zJ t<=15):(∀ a∈t.args,zJ a<=15)/\t.args.length<=15:=by
 have hm:=qi t;constructor
 ·intro a ha;have key:∀ ts:List Ty,a∈ts->1+zJ a<=zc ts:=by
   intro ts
   induction ts with
   | nil=>intro h;simp at h
   | cons x xs ih =>
     intro h;rcases Om.1 h with rfl | h
     ·simp only [zc];omega
     ·have:=ih h;simp only [zc];omega
  have:=key _ ha;omega
 ·have:=qB t.args;omega
def kR (F:Nat->Prop) (aa:Nat) (o:Option (Bd×Nat)) (w:World) (en:Ending) (w':World):Prop :=
 But (· = aa) w w'/\(o=none->∃ a,en=.returned (.tuple #[.pointer none,.iface 330 (.pointer (some a))])/\w.cell? ⟨2,0,none⟩=some (.iface 330 (.pointer (some a)))) /\
  (∀ out l,o=some (out,l)->∃ v,en=.returned (.tuple #[v,.nilIface])/\Apl w' aa l/\Rep (fun i=>F i\/w.heap.size<=i) w' (k_ out) v)
theorem kR.none {F:Nat->Prop} {aa:Nat} {o:Option (Bd×Nat)} {w w':World} {a:Addr} (ho:o=.none) (hb:But (· = aa) w w') (hc:w.cell? ⟨2,0,none⟩=some (.iface 330 (.pointer (some a)))) :
 kR F aa o w (.returned (.tuple #[.pointer none,.iface 330 (.pointer (some a))])) w' :=
 ⟨hb,fun _=>⟨a,rfl,hc⟩,fun _ _ h=>by rw [ho] at h;simp at h⟩
theorem kR.some {F:Nat->Prop} {aa:Nat} {o:Option (Bd×Nat)} {w w':World} {out:Bd} {l:Nat} {v:Value} (ho:o=.some (out,l)) (hb:But (· = aa) w w') (ha:Apl w' aa l) (hr:Rep (fun i=>F i\/w.heap.size<=i) w' (k_ out) v) :
 kR F aa o w (.returned (.tuple #[v,.nilIface])) w' :=
 ⟨hb,fun h=>by rw [ho] at h;simp at h,fun _ _ h=>by rw [ho] at h;simp at h;obtain ⟨rfl,rfl⟩:=h;exact ⟨v,rfl,ha,hr⟩⟩
structure pR (F:Nat->Prop) (aa l d n:Nat) (H:List Ty) (b:Bd) (env:List Mn) (st:List Gf) (bv ev on:Value) (w:World):Prop where
 glob:yW w
 hF:∀ i,F i->i≠aa
 ng:aa≠2
 apl:Apl w aa l
 ld:l<=d
 d20:d<=20000
 fit:jb H b env st
 hn:H.length=n
 el:env.length+16*d<=1000000
 nl:n+16*d<=1000000
 ok:y8 (1000000-16*d) env
 okg:okGs (1000000-16*d) st
 rb:Rep F w (k_ b) bv
 re:Rep F w (.sl 199 4 env.length (qe env)) ev
 ro:uS F w aa n st on
def wh (d:Nat):Prop:=∀ (F:Nat->Prop) (aa l n:Nat) (H:List Ty) (b:Bd) (env:List Mn) (st:List Gf) (bv ev on:Value) (w:World),pR F aa l d n H b env st bv ev on w ->
 Calls KD 171 #[.pointer (some ⟨aa,0,none⟩),bv,ev,.int .i64 (n:Nat),on] w (kR F aa (Qq d l b env n st) w)
theorem after_any (d:Nat) (ih:wh d) (F:Nat->Prop) (aa l n:Nat) (H:List Ty) (f:Gf) (st:List Gf) (b1 b2 b3 b4 b5:Nat) (bp ev on:Value) (vv:Nat) (ss:List Bd) (w:World) (c:UInt8) (hg:yW w) (hF:∀ i,F i->i≠aa) (hng:aa≠2) (ha:Apl w aa l) (BL:l<=d) (hd:d<=20000)
 (hf:jb H (if c=116 then f.yes else f.no) f.env st) (hn:H.length=n) (oX:f.env.length+16*d<=1000000) (ia:n+16*d<=1000000) (nC:y8 (1000000-16*d) f.env) (IK:okGs (1000000-16*d) st)
 (c1:w.cell? ⟨b1,0,none⟩=some bp) (r1:Rep F w (k_ (.ask vv ss f.yes f.no)) bp) (c2:w.cell? ⟨b2,0,none⟩=some (.pointer (some ⟨aa,0,none⟩))) (c3:w.cell? ⟨b3,0,none⟩=some ev) (r3:Rep F w (.sl 199 4 f.env.length (qe f.env)) ev)
 (c4:w.cell? ⟨b4,0,none⟩=some (.int .i64 (n:Nat))) (c5:w.cell? ⟨b5,0,none⟩=some on) (r5:uS F w aa n st on) :
 Calls KD 198 #[.bool (decide (c=116)),.pointer (some ⟨b1,0,none⟩),.pointer (some ⟨b2,0,none⟩),.pointer (some ⟨b3,0,none⟩),.pointer (some ⟨b4,0,none⟩),.pointer (some ⟨b5,0,none⟩)] w (kR F aa (Qq d l (if c=116 then f.yes else f.no) f.env n st) w):=by
 obtain ⟨bb,sl,yv,nv,rfl,_,mm,_,ry,rn⟩:=yX r1;have q3:w.cell? ⟨bb,3,none⟩=some yv:=by simp [GD,mm]
 have q4:w.cell? ⟨bb,4,none⟩=some nv:=by simp [GD,mm]
 have IH:=mj ih
 have key:∀ (b:Bd) (bv:Value),jb H b f.env st->Rep F w (k_ b) bv->Calls KD 171 #[.pointer (some ⟨aa,0,none⟩),bv,ev,.int .i64 (n:Nat),on] w (kR F aa (Qq d l b f.env n st) w) :=
  fun b bv hf hr=>IH.out F aa l n H b f.env st bv ev on w ⟨hg,hF,hng,ha,BL,hd,hf,hn,oX,ia,nC,IK,hr,r3,r5⟩
 by_cases hc:c=116
 ·rw [if_pos hc] at hf ⊢;rw [decide_eq_true hc];have K0:=key _ _ hf ry;generalize Qq d l f.yes f.env n st=o at *;have K:=mj K0;clear key K0 hf ry rn r1 r3 r5 mm IH ih nC IK hg hF ha hn hc;go_enter S7,SE;go_wp2_with fail
  (with_reducible refine K.out.mono ?_);rintro en w1 ⟨mi,nh,nf⟩
  cases o with
  | none =>
    obtain ⟨a,rfl,hc⟩:=nh rfl;have HB:=mj (mu mi hc);clear mi nh nf hc;go_wp2_with fail
    go_ret2
    exact kR.none rfl HB.out.1 HB.out.2
  | some x =>
    obtain ⟨v,rfl,ha,hr⟩:=nf x.1 x.2 rfl;have HB:=mj (mu mi (mu ha hr));clear mi nh nf ha hr;go_wp2_with fail
    go_ret2
    exact kR.some rfl HB.out.1 HB.out.2.1 HB.out.2.2
 ·rw [if_neg hc] at hf ⊢;rw [decide_eq_false hc];have K0:=key _ _ hf rn;generalize Qq d l f.no f.env n st=o at *;have K:=mj K0;clear key K0 hf ry rn r1 r3 r5 mm IH ih nC IK hg hF ha hn hc;go_enter S7,SE;go_wp2_with fail
  (with_reducible refine K.out.mono ?_);rintro en w1 ⟨mi,nh,nf⟩
  cases o with
  | none =>
    obtain ⟨a,rfl,hc⟩:=nh rfl;have HB:=mj (mu mi hc);clear mi nh nf hc;go_wp2_with fail
    go_ret2
    exact kR.none rfl HB.out.1 HB.out.2
  | some x =>
    obtain ⟨v,rfl,ha,hr⟩:=nf x.1 x.2 rfl;have HB:=mj (mu mi (mu ha hr));clear mi nh nf ha hr;go_wp2_with fail
    go_ret2
    exact kR.some rfl HB.out.1 HB.out.2.1 HB.out.2.2
theorem vp {F:Nat->Prop} {w:World}:∀ (ms:List Mn) (us:List Value),zW F w (qe ms) us->∀ u∈us,u.oneCell'=true
 | [],us,h,u,hu=>by rw [qe,zC] at h;subst h;simp at hu
 | m::ms,us,h,u,hu=>by
   rw [qe] at h;obtain ⟨h1,h2⟩:=h.split;rw [x6] at h1 h2;rw [<- OH 4 us] at hu;rcases List.mem_append.1 hu with hu | hu
   ·cases m with
    | op o t =>
      simp only [dX,zQ,zC,zH] at h1;obtain ⟨_,_,e,rfl,kv,_,rfl,hk,_,_,rfl,rfl,_,_,rfl,rfl,rfl⟩:=h1;rw [e] at hu;obtain ⟨kb,rfl⟩:=d7 hk;simp only [Om,O0,or_false] at hu;rcases hu with rfl | rfl | rfl | rfl <;> rfl
    | bd t b en =>
      simp only [dX,zQ,zC,zH] at h1;obtain ⟨_,_,e,rfl,_,_,rfl,rfl,bv,_,rfl,hk,sv,_,rfl,hs,rfl⟩:=h1;rw [e] at hu;obtain ⟨kb,rfl⟩:=za hk;rw [zg] at hs;obtain ⟨_,a,c,rfl,_⟩:=hs;simp only [Om,O0,or_false] at hu;rcases hu with rfl | rfl | rfl | rfl <;> rfl
   ·exact vp ms _ h2 u hu
theorem mean_at {F:Nat->Prop} {w:World} {env:List Mn} {ev:Value} (h:Rep F w (.sl 199 4 env.length (qe env)) ev) {v:Nat} {m:Mn} (hc:env[v]? = some m) :
 ∃ b o cap x0 x1 x2 x3,ev=.slice (some ⟨b,o,none⟩) env.length cap/\F b/\b<w.heap.size/\w.cell? ⟨b,o+v*4,none⟩=some x0/\w.cell? ⟨b,o+v*4+1,none⟩=some x1/\w.cell? ⟨b,o+v*4+2,none⟩=some x2/\w.cell? ⟨b,o+v*4+3,none⟩=some x3/\zW F w (dX m) [x0,x1,x2,x3]:=by
 have hv:=(N6.1 hc).1;rw [zg] at h;obtain ⟨hl,a,cap,rfl,hn,hz,h⟩:=h;rcases h with h0 | ⟨b,o,cs,fr,rfl,hb,hcs,hr⟩
 ·omega
 have BB:qe env=qe (env.take v)++(dX m++qe (env.drop (v+1))):=by
  have e:env=env.take v++m::env.drop (v+1):=by
   have:env[v]=m:=(N6.1 hc).2;rw [<- this,List.getElem_cons_drop,OH]
  conv=>lhs;rw [e]
  rw [uX,qe]
 rw [BB] at hr;have h2:=hr.split.2;rw [dY,PG,RI (by omega)] at h2;have h3:=h2.split.1;rw [x6] at h3;have hlen:=h3.length;rw [x6] at hlen;obtain ⟨x0,x1,x2,x3,e1⟩:∃ x0 x1 x2 x3,(((cs.toList.drop o).take (env.length*4)).drop (v*4)).take 4=[x0,x1,x2,x3]:=by
  match hq:(((cs.toList.drop o).take (env.length*4)).drop (v*4)).take 4,hlen with
  | [a,b,c,d],_=>exact ⟨a,b,c,d,rfl⟩
 rw [e1] at h3;have get:∀ (j:Nat) (u':Value),j<4->[x0,x1,x2,x3][j]? = some u'->w.cell? ⟨b,o+v*4+j,none⟩=some u':=by
  intro j u' hj h;rw [<- e1,Pc,if_pos hj,Pd,Pc,if_pos (by omega),Pd] at h;simp only [GD,hcs];simpa [Nat.add_assoc] using h
 exact ⟨b,o,cap,x0,x1,x2,x3,rfl,hb,zZ hcs,get 0 _ (by omega) rfl,get 1 _ (by omega) rfl,get 2 _ (by omega) rfl,get 3 _ (by omega) rfl,h3⟩
theorem eI (f:Nat->Bd->List Mn->Nat->List Gf->Option (Bd×Nat)) (env:List Mn) (n:Nat) (t:Ty) (s:Bd):∀ (ts:List Ty) (ss:List Bd) (l:Nat),ts.length=ss.length ->
 qZ f env n l (ts++[t]) (ss++[s])=(qZ f env n l ts ss).bind fun x=>(f x.2 s (env++z8 n t.args) (n+t.args.length) []).bind fun y=>some (x.1++[y.1],y.2)
 | [],[],l,_=>by
   simp only [List.nil_append,qZ,NX,Mm]
 | [],s'::ss,l,h=>by simp at h
 | t'::ts,[],l,h=>by simp at h
 | t'::ts,s'::ss,l,h=>by
   simp only [Oe,qZ,NX];cases h1:f l s' (env++z8 n t'.args) (n+t'.args.length) [] with
   | none=>rfl
   | some x =>
     simp only [Mm];rw [eI f env n t s ts ss x.2 (by simpa using h)];cases h2:qZ f env n x.2 ts ss with
     | none=>rfl
     | some y =>
       simp only [Mm];cases h3:f y.2 s (env++z8 n t.args) (n+t.args.length) [] with
       | none=>rfl
       | some z=>rfl
theorem evSubs_take {f:Nat->Bd->List Mn->Nat->List Gf->Option (Bd×Nat)} {env:List Mn} {n l k:Nat} {ts:List Ty} {ss:List Bd} {t:Ty} {s:Bd} (ht:ts[k]? = some t) (hs:ss[k]? = some s) :
 qZ f env n l (ts.take (k+1)) (ss.take (k+1))=(qZ f env n l (ts.take k) (ss.take k)).bind fun x=>(f x.2 s (env++z8 n t.args) (n+t.args.length) []).bind fun y=>some (x.1++[y.1],y.2):=by
 have h1:=(N6.1 ht).1;have h2:=(N6.1 hs).1;rw [OG,OG,ht,hs];exact eI f env n t s _ _ l (by rw [PG,PG];omega)
theorem ez {f:Nat->Bd->List Mn->Nat->List Gf->Option (Bd×Nat)} {env:List Mn} {n:Nat}:∀ (k:Nat) (ts:List Ty) (ss:List Bd) (l:Nat),qZ f env n l (ts.take k) (ss.take k)=none->qZ f env n l ts ss=none
 | 0,ts,ss,l,h=>by simp [qZ] at h
 | k+1,[],ss,l,h=>by simp [qZ] at h
 | k+1,t::ts,[],l,h=>by simp [qZ] at h
 | k+1,t::ts,s::ss,l,h=>by
   simp only [List.take_succ_cons,qZ,NX] at h ⊢;cases h1:f l s (env++z8 n t.args) (n+t.args.length) [] with
   | none=>rfl
   | some x =>
     rw [h1] at h;simp only [Mm] at h ⊢;cases h2:qZ f env n x.2 (ts.take k) (ss.take k) with
     | none=>rw [ez k ts ss x.2 h2];rfl
     | some y=>rw [h2] at h;simp at h
theorem ej {d:Nat} (ih:∀ (l:Nat) (b:Bd) (env:List Mn) (n:Nat) (st:List Gf) (r:Bd) (l':Nat),Qq d l b env n st=some (r,l')->l'<=l) {env:List Mn} {n:Nat} :
 ∀ (ts:List Ty) (ss:List Bd) (l:Nat) (xs:List Bd) (l':Nat),qZ (Qq d) env n l ts ss=some (xs,l')->l'<=l
 | [],ss,l,xs,l',h=>by simp [qZ] at h;omega
 | t::ts,[],l,xs,l',h=>by simp [qZ] at h;omega
 | t::ts,s::ss,l,xs,l',h=>by
   simp only [qZ,NX,No,Prod.exists] at h;obtain ⟨x,l1,h1,ys,l2,h2,h3⟩:=h;simp at h3;have k1:=ih _ _ _ _ _ _ _ h1;have k2:=ej ih ts ss _ _ _ h2;omega
theorem ev_left (d:Nat):∀ (l:Nat) (b:Bd) (env:List Mn) (n:Nat) (st:List Gf) (r:Bd) (l':Nat),Qq d l b env n st=some (r,l')->l'<=l:=by
 induction d with
 | zero=>intro l b env n st r l' h;simp [Qq] at h
 | succ d ih =>
   intro l b env n st r l' h;cases l with
   | zero=>rw [ev.eq_def] at h;simp at h
   | succ l =>
     cases b with
     | leaf c =>
       by_cases hc:c=117
       ·subst hc;rw [ev_u] at h;simp at h;omega
       ·cases st with
        | nil=>rw [ev_end] at h;simp at h;omega
        | cons f st=>rw [ev_back hc] at h;have:=ih _ _ _ _ _ _ _ h;omega
     | ask v ss y no =>
       cases hv:env[v]? with
       | none=>rw [ev.eq_def] at h;simp [hv] at h
       | some m =>
         cases m with
         | bd t b' e=>rw [ev_bd hv] at h;have:=ih _ _ _ _ _ _ _ h;omega
         | op o t =>
           rw [ev_op hv] at h;simp only [No,Prod.exists] at h;obtain ⟨xs,l1,h1,x,l2,h2,z,l3,h3,h4⟩:=h;simp at h4;have k1:=ej ih _ _ _ _ _ h1;have k2:=ih _ _ _ _ _ _ _ h2;have k3:=ih _ _ _ _ _ _ _ h3;omega
theorem pY (xs:List Bd) (x:Bd):jV (xs++[x])=jV xs++[k_ x]:=by
 induction xs with
 | nil=>simp [jV]
 | cons y ys ih=>simp [jV,ih]
structure KInv (F:Nat->Prop) (aa l n d o:Nat) (env:List Mn) (ts:List Ty) (ss:List Bd) (kv:Value) (w:World) (k lk:Nat) (qN:List Bd) (sv:Value) (us:List Value) (wr:World):Prop where
 evk:qZ (Qq d) env n l (ts.take k) (ss.take k)=some (qN,lk)
 ol:qN.length=k
 but:But (· = aa) w wr
 zw:w.heap.size+2<=wr.heap.size
 apl:Apl wr aa lk
 lkl:lk<=l
 box:wr.heap[w.heap.size]? = some (.cells #[.int .i64 (o:Nat),kv,.pointer none,.slice none 0 0] 199 (0,0))
 blk:wr.heap[w.heap.size+1]? = some (.cells #[str [],.int .i64 (o:Nat),sv,.pointer none,.pointer none] 79 (0,0))
 own:Own wr 33 1 sv k us
 rep:zW (fun i=>((F i/\i<w.heap.size)\/w.heap.size+2<=i)/\sv.ownBlock≠some i) wr (jV qN) us
 fr:∀ g,sv.ownBlock=some g->w.heap.size+2<=g
theorem pG {w:World} {P:Nat} {a b c d e:Value} {T:TypeId} (h:w.heap[P]? = some (.cells #[a,b,c,d,e] T (0,0))):w.cell? ⟨P,0,none⟩=some a/\w.cell? ⟨P,1,none⟩=some b/\w.cell? ⟨P,2,none⟩=some c/\w.cell? ⟨P,3,none⟩=some d/\w.cell? ⟨P,4,none⟩=some e/\(∀ o,w.frozen? ⟨P,o,none⟩=false) :=
 ⟨by simp [GD,h],by simp [GD,h],by simp [GD,h],by simp [GD,h],by simp [GD,h],fun o=>by simp [N4,h]⟩
theorem kE {w:World} {P:Nat} {a b c d:Value} {T:TypeId} (h:w.heap[P]? = some (.cells #[a,b,c,d] T (0,0))):w.cell? ⟨P,0,none⟩=some a/\w.cell? ⟨P,1,none⟩=some b/\w.cell? ⟨P,2,none⟩=some c/\w.cell? ⟨P,3,none⟩=some d :=
 ⟨by simp [GD,h],by simp [GD,h],by simp [GD,h],by simp [GD,h]⟩
theorem Own.src {w:World} {e:TypeId} {sz n:Nat} {v:Value} {xs:List Value} (h:Own w e sz v n xs) (hc:∀ u∈xs,u.oneCell'=true):zq sz v n xs w:=by
 refine ⟨h.1,hc,?_⟩;rcases h.2 with ⟨e,h0⟩ | ⟨g,cap,cur,e,_,hg,_,_,_,ht⟩
 ·exact .inr ⟨e,h0⟩
 ·refine .inl ⟨_,cap,e,fun j u hj=>?_⟩;rw [<- ht,Pc] at hj;split at hj
  ·unfold Addr.add;split
   ·subst j;simp only [GD,hg];simpa using hj
   ·simp only [GD,hg];simpa using hj
  ·simp at hj
structure KeptPre (F:Nat->Prop) (aa l d n o vv:Nat) (H:List Ty) (t:Ty) (ss:List Bd) (y no:Bd) (env:List Mn) (st:List Gf) (bv kv ev on:Value) (w:World):Prop where
 glob:yW w
 hF:∀ i,F i->i≠aa
 ng:aa≠2
 apl:Apl w aa l
 ld:l<=d
 d20:d<=20000
 hlen:ss.length=t.args.length
 at15:zJ t<=15
 sub:∀ (k:Nat) (a:Ty) (s:Bd),t.args[k]? = some a->ss[k]? = some s->jb (H++a.args) s (env++z8 H.length a.args) []
 fy:jb H y env st
 fn:jb H no env st
 hn:H.length=n
 el:env.length+16*(d+1)<=1000000
 nl:n+16*(d+1)<=1000000
 ok:y8 (1000000-16*(d+1)) env
 okg:okGs (1000000-16*(d+1)) st
 rb:Rep F w (k_ (.ask vv ss y no)) bv
 rk:Rep F w (jT t) kv
 re:Rep F w (.sl 199 4 env.length (qe env)) ev
 ro:uS F w aa n (⟨y,no,env⟩::st) on
def xz (d l n o:Nat) (t:Ty) (ss:List Bd) (y no:Bd) (env:List Mn) (st:List Gf):Option (Bd×Nat) :=
 (qZ (Qq d) env n l t.args ss).bind fun x=>(Qq d x.2 y env n st).bind fun z=>(Qq d z.2 no env n st).bind fun u=>some (.ask o x.1 z.1 u.1,u.2)
theorem kept_any (d:Nat) (ih:wh d) (F:Nat->Prop) (aa l n o vv:Nat) (H:List Ty) (t:Ty) (ss:List Bd) (y no:Bd) (env:List Mn) (st:List Gf) (bv kv ev on:Value) (w:World) (h:KeptPre F aa l d n o vv H t ss y no env st bv kv ev on w) :
 Calls KD 199 #[.pointer (some ⟨aa,0,none⟩),bv,.agg #[.int .i64 (o:Nat),kv,.pointer none,.slice none 0 0],ev,.int .i64 (n:Nat),on] w (kR F aa (xz d l n o t ss y no env st) w):=by
 have HP:=mj h;have IH:=mj ih;obtain ⟨bb,sl,yv,nv,e,lm,mm,sB,_,_⟩:=yX h.rb;subst e;obtain ⟨kb,ks,e,hkF,aL,Fq⟩:=zi h.rk;subst e;obtain ⟨sa,sc,e,_,_,Ed⟩:=zP sB;subst e;obtain ⟨ka,kc,e,_,_,AM⟩:=zP Fq;subst e;obtain ⟨exs,EE,lN⟩:=zq.ofRep h.re (vp env);obtain ⟨ea,ec,e⟩:=lN.slice;subst e;obtain ⟨b1,b2,b3,b4,b5,bp,ev5,on5,vv5,ss5,e,⟨n1,n2,n3,n4,n5⟩,c1,r1,c2,c3,r3,c4,c5,r5⟩:=h.ro;subst e;have IV:ss.length<=15:=by rw [h.hlen];exact (kZ h.at15).2
 have hl16':t.args.length<=15:=(kZ h.at15).2;have M4:=mj h.hlen;have ia:=h.nl;have oX:=h.el;have hbaa:=h.hF _ lm;have hkaa:=h.hF _ hkF;have nw:=zZ mm;have tH:=zZ aL;have J8:=h.apl.cell.2.2;have oe:w.cell? ⟨bb,2,none⟩=some (.slice sa ss.length sc):=by simp [GD,mm]
 have Cp:w.cell? ⟨kb,0,none⟩=some (.slice ka t.args.length kc):=by simp [GD,aL]
 have HA:=mj (mu Ed (mu AM (mu EE lN)));have HC:=mj (mu (mu n1 (mu n2 (mu n3 (mu n4 n5)))) (mu c1 (mu r1 (mu c2 (mu c3 (mu r3 (mu c4 (mu c5 r5))))))));clear h ih mm sB aL Fq Ed AM EE lN n1 n2 n3 n4 n5 c1 r1 c2 c3 r3 c4 c5 r5 lm hkF;go_enter Tryz.func199,Tryz.ntmps199;go_wp2_with fail
 go_loopw [31] (fun i wr=>∃ (k lk:Nat) (qN:List Bd) (sv:Value) (us:List Value),k<=ss.length/\i=.int .i64 k/\KInv F aa l n d o env t.args ss (.pointer (some ⟨kb,0,none⟩)) w k lk qN sv us wr) (fun i _=>ss.length-(intOf i).toNat)
 case atStart =>
  refine ⟨0,l,[],.slice none 0 0,[],Og _,rfl,?_⟩;have tY:Below w.heap.size w ((w.alloc (.cells #[.int .i64 (o:Nat),.pointer (some ⟨kb,0,none⟩),.pointer none,.slice none 0 0] 199)).alloc (.cells #[str [],.int .i64 (o:Nat),.slice none 0 0,.pointer none,.pointer none] 79)):=((mw _ _).alloc (my _) _).alloc (by rw [zK];omega) _;refine { evk:=by simp [qZ],ol:=rfl,but:=But.ofBelow tY,zw:=by simp,apl:=HP.out.apl.below tY,lkl:=my _,box:=zU (zG _ _),blk:=?_,own:=OL _ _ _ _,rep:=by simp [jV,zC],fr:=fun g hg=>by simp [N7] at hg };have:=zG (w.alloc (.cells #[.int .i64 (o:Nat),.pointer (some ⟨kb,0,none⟩),.pointer none,.slice none 0 0] 199)) (.cells #[str [],.int .i64 (o:Nat),.slice none 0 0,.pointer none,.pointer none] 79);rwa [zK] at this
 case round =>
  rename_i wr;obtain ⟨k,lk,qN,sv,us,hk,rfl,nQ⟩:=hrel;have HI:=mj nQ;clear nQ;by_cases m_:k<ss.length
  ·have rF:(k:Int)<(ss.length:Int):=by omega
   have hlta:k<t.args.length:=by have:=M4.out;omega
   have hlta':(k:Int)<(t.args.length:Int):=by omega
   obtain ⟨sb,so,u,d1,e,A3,Fi,As,tU,tQ⟩:=HA.out.1 k m_;subst e;rw [xv,N3] at As;obtain ⟨s,hs,rfl⟩:=As;obtain ⟨ub,rfl⟩:=za tQ;obtain ⟨Be,De,u2,d2,e,E2,GC,Ct,tf,rD⟩:=HA.out.2.1 k hlta;subst e;rw [xj,N3] at Ct;obtain ⟨a,ha,rfl⟩:=Ct;obtain ⟨kab,s2,rfl,hF3,L4,IE⟩:=zi rD;obtain ⟨a3,k3,rfl⟩:∃ a3 k3,s2=.slice a3 a.args.length k3:=by have h:=IE;rw [zg] at h;obtain ⟨_,a,c,e,_⟩:=h;exact ⟨a,c,e⟩
   have Bo:zJ a<=15:=(kZ HP.out.at15).1 a (List.mem_of_getElem? ha);have Af:=(kZ Bo).2;have kF:∀ {b:Nat} {j:Nat} {x:Value},F b->w.cell? ⟨b,j,none⟩=some x->wr.cell? ⟨b,j,none⟩=some x:=fun hb hc=>(HI.out.but.cell (mx w _ hc) (HP.out.hF _ hb)).trans hc;have q0:=kF A3 tU;have q1:wr.cell? ⟨kb,0,none⟩=some (.slice (some ⟨Be,De,none⟩) t.args.length kc):=(HI.out.but.cell tH hkaa).trans Cp;have q2:=kF E2 tf;have q3:wr.cell? ⟨kab,0,none⟩=some (.slice a3 a.args.length k3):=kF hF3 (by simp [GD,L4]);obtain ⟨x0,x1,x2,x3⟩:=kE HI.out.box;have rO:zq 4 (.slice ea env.length ec) env.length exs wr:=gu HI.out.but (fun b hb=>HP.out.hF b hb) HP.out.re HA.out.2.2.2;have HK:=mj (mu hs (mu tQ (mu ha (mu IE rO))));have Bv:=HI.out.zw;clear hs tQ ha rD IE L4 rO kF tU tf A3 E2 hF3 Cp oe;go_wp2_with (at_builtin;refine zE rfl _ _ 196 rfl 199 (.agg #[.int .i64 0,.pointer none,.pointer none,.slice none 0 0]) 4 48 Pk Tryz.infoMn rfl (by decide) (.slice none 0 0) 0 [] rfl ?a1 _ env.length exs rfl ?a2 ?a3 ?a4 ?_)
   case a1=>exact OL _ _ _ _
   case a2=>exact HK.out.2.2.2.2
   case a3=>unfold maxLen;omega
   case a4=>omega
   intro a6 c6 w6 Fm nJ Ft;have iE:Below wr.heap.size wr w6:=nJ.toBelow (my _) (fun i _ e=>by simp [N7] at e);have G5:∀ g,(Nq a6 env.length c6).ownBlock=some g->wr.heap.size<=g:=fun g hg=>by
    rcases Ft g hg with h | h
    ·simp [N7] at h
    ·omega
   have Lt:Rep (fun i=>F i/\i<w.heap.size) w6 (.sl 32 1 a.args.length (qg a.args)) (.slice a3 a.args.length k3) :=
    Rep.below iE (fun _ h=>h) ((Rep.low HK.out.2.2.2.1).but HI.out.but (fun b hb=>⟨HP.out.hF b hb.1,hb⟩))
   have C7:=mj (dg (fun i=>F i/\i<w.heap.size) n a.args (.slice a3 a.args.length k3) w6 Lt (by omega) (by omega));have H6:=mj (mu Fm (mu iE G5));clear Fm nJ Ft iE G5 Lt x0 x1 x2 x3 q0 q1 q2 q3;go_wp2_with fail
   (with_reducible refine C7.out.mono ?_);rintro en w7 ⟨a7,c7,xs7,rfl,nL,iH,mo,oY⟩
   clear C7;have LE:Own w7 199 4 (.slice a6 env.length c6) env.length exs:=H6.out.1.keep fun g o hg hh=>by rw [mo.block g (zZ hh)];exact hh
   have DK:=nL.src (vp _ _ iH);have MM:Below wr.heap.size wr w7:=zzT H6.out.2.1 mo;have H7:=mj (mu LE (mu DK (mu iH MM)));clear LE DK iH MM nL mo oY;go_wp2_with (at_builtin;refine zE rfl _ _ 196 rfl 199 (.agg #[.int .i64 0,.pointer none,.pointer none,.slice none 0 0]) 4 48 Pk Tryz.infoMn rfl (by decide) (.slice a6 env.length c6) env.length exs rfl ?e1 _ a.args.length xs7 rfl ?e2 ?e3 ?e4 ?_)
   case e1=>exact H7.out.1
   case e2=>exact H7.out.2.1
   case e3=>unfold maxLen;omega
   case e4=>omega
   intro a8 c8 w8 GX rK Mf;have hz67:=H7.out.2.2.2.size;have F_:Below wr.heap.size wr w8:=H7.out.2.2.2.trans (rK.toBelow hz67 fun i hi e=>by have:=H6.out.2.2 i e;omega);have aD:∀ g,(Nq a8 (env.length+a.args.length) c8).ownBlock=some g->wr.heap.size<=g:=fun g hg=>by
    rcases Mf g hg with h | h
    ·exact H6.out.2.2 g h
    ·omega
   have Ae:But (· = aa) w w8:=HI.out.but.trans (But.ofBelow F_);have M_:∀ i,(((F i/\i<w.heap.size)\/w.heap.size+2<=i)/\sv.ownBlock≠some i)->i≠aa:=fun i hi=>by
    rcases hi.1 with hi | hi
    ·exact HP.out.hF i hi.1
    ·omega
   have FO:∀ i,i<w.heap.size->sv.ownBlock≠some i:=fun i hi e=>by have:=HI.out.fr i e;omega
   have La:∀ i,sv.ownBlock=some i->i<wr.heap.size:=fun i e=>HI.out.own.lt e;have lowB:∀ {dv:DV} {v:Value},Rep F w dv v->Rep (fun i=>((F i/\i<w.heap.size)\/w.heap.size+2<=i)/\sv.ownBlock≠some i) w8 dv v:=fun h=>(Rep.low h).but Ae (fun b hb=>⟨HP.out.hF b hb.1,.inl hb,FO b hb.2⟩);have Lv:Rep (fun i=>((F i/\i<w.heap.size)\/w.heap.size+2<=i)/\sv.ownBlock≠some i) w8 (.sl 199 4 (env++z8 n a.args).length (qe (env++z8 n a.args))) (.slice a8 (env.length+a.args.length) c8):=by
    rw [NZ,qG,uX];refine GX.rep (fun g hg=>⟨.inr (by have:=aD g hg;omega),fun e=>by have:=aD g hg;have:=La g e;omega⟩) (zW.append ?_ ?_)
    ·exact (zW.low HA.out.2.2.1).but Ae (fun b hb=>⟨HP.out.hF b hb.1,.inl hb,FO b hb.2⟩)
    ·refine (Rep.keep fun b o hf hh=>⟨⟨.inl hf,FO b hf.2⟩,?_⟩).2 _ _ H7.out.2.2.1;rw [rK.block b (zZ hh) (fun e=>by have:=H6.out.2.2 b e;have:=hf.2;omega)];exact hh
   have nU:pR (fun i=>((F i/\i<w.heap.size)\/w.heap.size+2<=i)/\sv.ownBlock≠some i) aa lk d (n+a.args.length) (H++a.args) s (env++z8 n a.args) [] (.pointer (some ⟨ub,0,none⟩)) (.slice a8 (env.length+a.args.length) c8) .nilFunc w8 :=
    { glob:=HP.out.glob.but Ae (fun e=>HP.out.ng e.symm),hF:=M_,ng:=HP.out.ng,apl:=HI.out.apl.below F_,ld:=mh HI.out.lkl HP.out.ld,d20:=HP.out.d20,
      fit:=by have:=HP.out.sub k a s HK.out.2.2.1 HK.out.1;rwa [HP.out.hn] at this,hn:=by rw [NZ,HP.out.hn],el:=by rw [NZ,qG];omega,nl:=by omega,
      ok:=jx _ _ (qU (by omega) _ HP.out.ok) (jR _ _ (kZ Bo).1 (by omega)),okg:=trivial,rb:=lowB HK.out.2.1,re:=Lv,ro:=rfl }
   have C9:=IH.out _ aa lk (n+a.args.length) (H++a.args) s (env++z8 n a.args) [] (.pointer (some ⟨ub,0,none⟩)) (.slice a8 (env.length+a.args.length) c8) .nilFunc w8 nU;rw [Int.natCast_add] at C9;have sQ:=evSubs_take (f:=Qq d) (env:=env) (n:=n) (l:=l) HK.out.2.2.1 HK.out.1;rw [HI.out.evk] at sQ;simp only [Mm] at sQ;generalize hev:Qq d lk s (env++z8 n a.args) (n+a.args.length) []=oev at *;have C9':=mj C9;have H8:=mj (mu F_ (mu Ae (mu sQ hev)));clear C9 nU Lv M_ F_ aD Ae rK Mf GX sQ hev lowB FO La;go_wp2_with fail
   (with_reducible refine C9'.out.mono ?_);rintro en w9 ⟨rR,BK,Bx⟩
   cases oev with
   | none =>
     obtain ⟨Nk,rfl,EK⟩:=BK rfl;have iq:xz d l n o t ss y no env st=none:=by
      have:=H8.out.2.2.1;simp only [Option.bind_none] at this;unfold xz;rw [ez (k+1) _ _ _ this];rfl
     have EF:w.cell? ⟨2,0,none⟩=some (.iface 330 (.pointer (some Nk))):=by
      obtain ⟨a0,h0⟩:=HP.out.glob;have:=(H8.out.2.1.cell (mx w _ h0) (fun e=>HP.out.ng e.symm)).trans h0;rw [this] at EK;rw [h0];exact EK
     have HF:=mj (mu iq (mu (H8.out.2.1.trans rR) EF));clear iq EF rR BK Bx EK;go_wp2_with fail
     go_ret2
     exact kR.none HF.out.1 HF.out.2.1 HF.out.2.2
   | some x =>
     obtain ⟨v,rfl,ha9,BE⟩:=Bx x.1 x.2 rfl;obtain ⟨vb,rfl⟩:=za BE;obtain ⟨Bb,Ba,e⟩:=HI.out.own.slice;subst e;have hz8:=H8.out.1.size;have hz9:=rR.size;have Js:w9.heap[w.heap.size+1]? = some (.cells #[str [],.int .i64 (o:Nat),.slice Bb k Ba,.pointer none,.pointer none] 79 (0,0)):=by
      rw [rR.block _ (by omega) (by omega),H8.out.1.block _ (by omega)];exact HI.out.blk
     have Nr:w9.heap[w.heap.size]? = some (.cells #[.int .i64 (o:Nat),.pointer (some ⟨kb,0,none⟩),.pointer none,.slice none 0 0] 199 (0,0)):=by
      rw [rR.block _ (by omega) (by omega),H8.out.1.block _ (by omega)];exact HI.out.box
     have Ky:Own w9 33 1 (.slice Bb k Ba) k us:=HI.out.own.keep fun g o hg hh=>by
      have h1:=HI.out.fr g hg;have h2:=zZ hh;rw [rR.block g (by omega) (by omega),H8.out.1.block g h2];exact hh
     have LZ:=ev_left _ _ _ _ _ _ _ _ (H8.out.2.2.2);have F1:=HI.out.lkl;obtain ⟨y0,y1,y2,y3,y4,yf⟩:=pG Js;have H9:=mj (mu rR (mu ha9 (mu BE (mu Js (mu Nr Ky)))));clear rR BK Bx ha9 BE Js Nr Ky y0 y1 y3 y4 yf;go_wp2_with (at_builtin;refine zE rfl _ _ 77 rfl 33 (.pointer none) 1 8 Tryz.underlying77 Tryz.infoB rfl (by decide) (.slice Bb k Ba) k us rfl ?f1 _ 1 [.pointer (some ⟨vb,0,none⟩)] rfl ?f2 ?f3 ?f4 ?_)
     case f1=>exact H9.out.2.2.2.2.2.alloc _
     case f2=>exact zq.lit1 #[.pointer (some ⟨vb,0,none⟩)] rfl (by simp [Of]) _ (by simp)
     case f3=>unfold maxLen;omega
     case f4=>omega
     intro FD Gn lq LJ iZ Mk;have hz10:=iZ.size;rw [zK] at hz10;have hsv:∀ i,(Nq Bb k Ba).ownBlock=some i->w.heap.size+2<=i/\i<wr.heap.size:=fun i e=>⟨HI.out.fr i e,HI.out.own.lt e⟩;have E7:lq.heap[w.heap.size+1]? = some (.cells #[str [],.int .i64 (o:Nat),.slice Bb k Ba,.pointer none,.pointer none] 79 (0,0)):=by
      rw [iZ.block _ (by rw [zK];omega) (fun e=>by have:=hsv _ e;omega),Below.heap_alloc _ _ _ (by omega)];exact H9.out.2.2.2.1
     obtain ⟨y0,y1,y2,y3,y4,yf⟩:=pG E7;have yf2:=yf 2;have Dh:∀ (g:Nat) (ob:Obj),g≠w.heap.size+1->lq.heap[g]? = some ob->(lq.setCell ⟨w.heap.size+1,2,none⟩ (.slice FD (k+1) Gn)).heap[g]? = some ob:=fun g ob hg hh=>by
      rw [mp _ _ _ _ (by show g≠w.heap.size+1;exact hg)];exact hh
     have past:∀ (g:Nat) (ob:Obj),(Nq Bb k Ba).ownBlock≠some g->w9.heap[g]? = some ob->lq.heap[g]? = some ob:=fun g ob hg hh=>by
      rw [iZ.block g (by rw [zK];have:=zZ hh;omega) hg,Below.heap_alloc _ _ _ (zZ hh)];exact hh
     have nQ:KInv F aa l n d o env t.args ss (.pointer (some ⟨kb,0,none⟩)) w (k+1) x.2 (qN++[x.1]) (.slice FD (k+1) Gn) (us++[.pointer (some ⟨vb,0,none⟩)]) (lq.setCell ⟨w.heap.size+1,2,none⟩ (.slice FD (k+1) Gn)):=by
      have Cs:∀ g,(Nq FD (k+1) Gn).ownBlock=some g->(Nq Bb k Ba).ownBlock=some g\/w9.heap.size<g:=fun g hg=>by
       rcases Mk g hg with h | h
       ·exact .inl h
       ·exact .inr (by omega)
      refine { evk:=H8.out.2.2.1,ol:=by rw [NZ,HI.out.ol];rfl,but:=?_,zw:=by simp [PL];omega,apl:=?_,lkl:=by omega,box:=?_,blk:=?_,own:=?_,rep:=?_,fr:=fun g hg=>?_ }
      ·have h1:But (· = aa) w lq:=((H8.out.2.1.trans H9.out.1).alloc _).trans' iZ fun i hi e=>by have:=hsv i e;omega
       exact h1.setCell (p:=⟨w.heap.size+1,2,none⟩) (.inr (by show w.heap.size<=w.heap.size+1;omega)) _
      ·exact Dh _ _ (by omega) (past _ _ (fun e=>by have:=hsv _ e;omega) H9.out.2.1)
      ·exact Dh _ _ (by omega) (past _ _ (fun e=>by have:=hsv _ e;omega) H9.out.2.2.2.2.1)
      ·rw [zy E7];rfl
      ·exact LJ.keep fun g ob hg hh=>Dh _ _ (by
        rcases Cs g hg with h | h
        ·have:=hsv g h;omega
        ·omega) hh
      ·rw [pY];refine zW.append ?_ (zW.one ?_)
       ·refine (Rep.keep fun b ob hf hh=>?_).2 _ _ HI.out.rep;have hb:=zZ hh;have hne:b≠aa/\b≠w.heap.size+1:=by
         rcases hf.1 with h | h
         ·exact ⟨HP.out.hF b h.1,by omega⟩
         ·omega
        refine ⟨⟨hf.1,fun e=>?_⟩,Dh _ _ hne.2 (past _ _ hf.2 ?_)⟩
        ·rcases Cs b e with h | h
         ·exact hf.2 h
         ·omega
        ·rw [H9.out.1.block b (by omega) hne.1,H8.out.1.block b hb];exact hh
       ·refine (Rep.keep fun b ob hf hh=>?_).1 _ _ H9.out.2.2.1;have hf:(((F b/\b<w.heap.size)\/w.heap.size+2<=b)/\(Nq Bb k Ba).ownBlock≠some b)\/w8.heap.size<=b:=hf;have hb:=zZ hh;have Lb:(Nq Bb k Ba).ownBlock≠some b:=by
         rcases hf with h | h
         ·exact h.2
         ·intro e;have:=hsv b e;omega
        have Ap:((F b/\b<w.heap.size)\/w.heap.size+2<=b):=by
         rcases hf with h | h
         ·exact h.1
         ·exact .inr (by omega)
        refine ⟨⟨Ap,fun e=>?_⟩,Dh _ _ (by rcases Ap with h | h <;> omega) (past _ _ Lb hh)⟩;rcases Cs b e with h | h
        ·exact Lb h
        ·omega
      ·rcases Cs g hg with h | h
       ·exact (hsv g h).1
       ·omega
     have HN:=mj nQ;clear nQ Dh past E7 y0 y1 y3 y4 yf LJ iZ Mk hsv;go_wp2_with fail
     go_roundw
     case rel=>exact ⟨k+1,x.2,qN++[x.1],.slice FD (k+1) Gn,us++[.pointer (some ⟨vb,0,none⟩)],by omega,by go_num,HN.out⟩
     case measure=>simp [intOf];omega
  ·obtain rfl:k=ss.length:=by omega
   have rM:=HI.out.evk;rw [Oh,List.take_of_length_le (by have:=M4.out;omega)] at rM
   have AFT:Hid (∀ (X:World) (l':Nat),But (· = aa) w X->Apl X aa l'->l'<=l ->
    Calls KD 198 #[.bool true,.pointer (some ⟨b1,0,none⟩),.pointer (some ⟨b2,0,none⟩),.pointer (some ⟨b3,0,none⟩),.pointer (some ⟨b4,0,none⟩),.pointer (some ⟨b5,0,none⟩)] X (kR (fun i=>F i/\i<w.heap.size) aa (Qq d l' y env n st) X) /\
    Calls KD 198 #[.bool false,.pointer (some ⟨b1,0,none⟩),.pointer (some ⟨b2,0,none⟩),.pointer (some ⟨b3,0,none⟩),.pointer (some ⟨b4,0,none⟩),.pointer (some ⟨b5,0,none⟩)] X (kR (fun i=>F i/\i<w.heap.size) aa (Qq d l' no env n st) X)):=by
    show ∀ (X:World) (l':Nat),_->_;intro X l' a_ haX hlX;obtain ⟨⟨n1,n2,n3,n4,n5⟩,c1,r1,c2,c3,r3,c4,c5,r5⟩:=HC.out;have kX:∀ {b:Nat} {x:Value},F b->w.cell? ⟨b,0,none⟩=some x->X.cell? ⟨b,0,none⟩=some x:=fun hb hc=>(a_.cell (mx w _ hc) (HP.out.hF _ hb)).trans hc;have aB:∀ b,(F b/\b<w.heap.size)->¬ (b=aa)/\(F b/\b<w.heap.size):=fun b hb=>⟨HP.out.hF b hb.1,hb⟩
    have key:=fun c hf=>after_any d IH.out (fun i=>F i/\i<w.heap.size) aa l' n H ⟨y,no,env⟩ st b1 b2 b3 b4 b5 bp ev5 on5 vv5 ss5 X c (HP.out.glob.but a_ (fun e=>HP.out.ng e.symm)) (fun i hi=>HP.out.hF i hi.1) HP.out.ng haX (by have:=HP.out.ld;omega) HP.out.d20
     hf HP.out.hn (by show env.length+_<=_;omega) (by omega) (qU (by omega) _ HP.out.ok) (vg (by omega) _ HP.out.okg)
     (kX n1 c1) ((Rep.low r1).but a_ aB) (kX n2 c2) (kX n3 c3) ((Rep.low r3).but a_ aB) (kX n4 c4) (kX n5 c5) (uS.but a_ aB _ _ (uS.low _ _ r5))
    exact ⟨key 116 HP.out.fy,key 102 HP.out.fn⟩
   have F1:=HI.out.lkl;have C1:=mj (AFT.out wr lk HI.out.but HI.out.apl F1).1;have Bv:=HI.out.zw;obtain ⟨Bb,Ba,e⟩:=HI.out.own.slice;subst e;have HFU:=mj rM;clear rM;generalize Mu:Qq d lk y env n st=o1 at *;have HE1:=mj Mu;clear Mu;go_wp2_with fail
   (with_reducible refine C1.out.mono ?_);rintro en w1 ⟨mi,nh,nf⟩
   clear C1;cases o1 with
   | none =>
     obtain ⟨Nk,rfl,EK⟩:=nh rfl;have iq:xz d l n o t ss y no env st=none:=by
      unfold xz;rw [HFU.out];simp only [Mm];rw [HE1.out];rfl
     have EF:w.cell? ⟨2,0,none⟩=some (.iface 330 (.pointer (some Nk))):=by
      obtain ⟨a0,h0⟩:=HP.out.glob;have:=(HI.out.but.cell (mx w _ h0) (fun e=>HP.out.ng e.symm)).trans h0;rw [this] at EK;rw [h0];exact EK
     have ln:=mi.size;have DD:w1.heap[w.heap.size+1]? = some (.cells #[str [],.int .i64 (o:Nat),.slice Bb ss.length Ba,.pointer none,.pointer none] 79 (0,0)):=by
      rw [mi.block _ (by omega) (by omega)];exact HI.out.blk
     obtain ⟨_,_,_,y3,_,yf⟩:=pG DD;have yf3:=yf 3;clear yf;have lm:But (· = aa) w (w1.setCell ⟨w.heap.size+1,3,none⟩ (.pointer none)):=(HI.out.but.trans mi).setCell (p:=⟨w.heap.size+1,3,none⟩) (.inr (by show w.heap.size<=w.heap.size+1;omega)) _;have HF:=mj (mu iq (mu lm EF));clear iq EF mi nh nf EK lm DD;go_wp2_with fail
     go_ret2
     exact kR.none HF.out.1 HF.out.2.1 HF.out.2.2
   | some z =>
     obtain ⟨v1,rfl,DO,sJ⟩:=nf z.1 z.2 rfl;obtain ⟨zb,rfl⟩:=za sJ;have JX:=ev_left _ _ _ _ _ _ _ _ HE1.out;have ln:=mi.size;have DD:w1.heap[w.heap.size+1]? = some (.cells #[str [],.int .i64 (o:Nat),.slice Bb ss.length Ba,.pointer none,.pointer none] 79 (0,0)):=by
      rw [mi.block _ (by omega) (by omega)];exact HI.out.blk
     obtain ⟨_,_,_,y3,_,yf⟩:=pG DD;have yf3:=yf 3;clear yf;obtain ⟨W2,rQ⟩:=zzN (w1.setCell ⟨w.heap.size+1,3,none⟩ (.pointer (some ⟨zb,0,none⟩)));have me:But (· = aa) w W2:=by rw [<- rQ];exact (HI.out.but.trans mi).setCell (p:=⟨w.heap.size+1,3,none⟩) (.inr (by show w.heap.size<=w.heap.size+1;omega)) _
     have AA:∀ (g:Nat) (ob:Obj),g≠w.heap.size+1->w1.heap[g]? = some ob->W2.heap[g]? = some ob:=fun g ob hg hh=>by
      rw [<- rQ,mp _ _ _ _ (by show g≠w.heap.size+1;exact hg)];exact hh
     have Ns:W2.heap[w.heap.size+1]? = some (.cells #[str [],.int .i64 (o:Nat),.slice Bb ss.length Ba,.pointer (some ⟨zb,0,none⟩),.pointer none] 79 (0,0)):=by
      rw [<- rQ,zy DD];rfl
     have i_:Apl W2 aa z.2:=AA _ _ (by omega) DO;have C2:=mj (AFT.out W2 z.2 me i_ (by omega)).2;have sI:W2.heap.size=w1.heap.size:=by rw [<- rQ];simp [PL]
     have ll:=mj sI;clear sI;have sS:Rep (fun i=>(F i/\i<w.heap.size)\/wr.heap.size<=i) W2 (k_ z.1) (.pointer (some ⟨zb,0,none⟩)):=(Rep.keep fun b ob hf hh=>⟨hf,AA _ _ (by rcases hf with h | h <;> omega) hh⟩).1 _ _ sJ;have Kz:Own W2 33 1 (.slice Bb ss.length Ba) ss.length us:=HI.out.own.keep fun g ob hg hh=>by
      have h1:=HI.out.fr g hg;exact AA _ _ (by omega) (by rw [mi.block g (zZ hh) (by omega)];exact hh)
     have Ku:zW (fun i=>((F i/\i<w.heap.size)\/w.heap.size+2<=i)/\i≠aa) W2 (jV qN) us:=(Rep.keep fun b ob hf hh=>by
      have hne:b≠aa/\b≠w.heap.size+1:=by
       rcases hf.1 with h | h
       ·exact ⟨HP.out.hF b h.1,by omega⟩
       ·omega
      exact ⟨⟨hf.1,hne.1⟩,AA _ _ hne.2 (by rw [mi.block b (zZ hh) hne.1];exact hh)⟩).2 _ _ HI.out.rep
     generalize Mt:Qq d z.2 no env n st=o2 at *;have H2:=mj (mu me (mu Ns (mu sS (mu Kz (mu Ku (mu Mt rQ))))));clear me Ns sS Kz Ku Mt rQ AA mi nh nf DO sJ DD i_;go_wp2_with fail
     rw [H2.out.2.2.2.2.2.2];(with_reducible refine C2.out.mono ?_);rintro en w3 ⟨nZ,Ck,AD⟩;clear C2;have ap:=nZ.size;have Iq:=ll.out;have Gp:w3.heap[w.heap.size+1]? = some (.cells #[str [],.int .i64 (o:Nat),.slice Bb ss.length Ba,.pointer (some ⟨zb,0,none⟩),.pointer none] 79 (0,0)):=by
      rw [nZ.block _ (by omega) (by omega)];exact H2.out.2.1
     clear Iq;obtain ⟨_,_,_,_,y4,yf⟩:=pG Gp;have yf4:=yf 4;clear yf;cases o2 with
     | none =>
       obtain ⟨Nk,rfl,EK⟩:=Ck rfl;have iq:xz d l n o t ss y no env st=none:=by
        unfold xz;rw [HFU.out];simp only [Mm];rw [HE1.out];simp only [Mm];rw [H2.out.2.2.2.2.2.1];rfl
       have EF:w.cell? ⟨2,0,none⟩=some (.iface 330 (.pointer (some Nk))):=by
        obtain ⟨a0,h0⟩:=HP.out.glob;have:=(H2.out.1.cell (mx w _ h0) (fun e=>HP.out.ng e.symm)).trans h0;rw [this] at EK;rw [h0];exact EK
       have lm:But (· = aa) w (w3.setCell ⟨w.heap.size+1,4,none⟩ (.pointer none)):=(H2.out.1.trans nZ).setCell (p:=⟨w.heap.size+1,4,none⟩) (.inr (by show w.heap.size<=w.heap.size+1;omega)) _;have HF:=mj (mu iq (mu lm EF));clear iq EF nZ Ck AD EK lm Gp;go_wp2_with fail
       go_ret2
       exact kR.none HF.out.1 HF.out.2.1 HF.out.2.2
     | some q =>
       obtain ⟨v3,rfl,M0,ib⟩:=AD q.1 q.2 rfl;obtain ⟨qb,rfl⟩:=za ib;have GL:xz d l n o t ss y no env st=some (.ask o qN z.1 q.1,q.2):=by
        unfold xz;rw [HFU.out];simp only [Mm];rw [HE1.out];simp only [Mm];rw [H2.out.2.2.2.2.2.1];rfl
       have lm:But (· = aa) w (w3.setCell ⟨w.heap.size+1,4,none⟩ (.pointer (some ⟨qb,0,none⟩))):=(H2.out.1.trans nZ).setCell (p:=⟨w.heap.size+1,4,none⟩) (.inr (by show w.heap.size<=w.heap.size+1;omega)) _;have pastF:∀ (g:Nat) (ob:Obj),g≠w.heap.size+1->w3.heap[g]? = some ob->(w3.setCell ⟨w.heap.size+1,4,none⟩ (.pointer (some ⟨qb,0,none⟩))).heap[g]? = some ob:=fun g ob hg hh=>by
        rw [mp _ _ _ _ (by show g≠w.heap.size+1;exact hg)];exact hh
       have blkF:(w3.setCell ⟨w.heap.size+1,4,none⟩ (.pointer (some ⟨qb,0,none⟩))).heap[w.heap.size+1]? = some (.cells #[str [],.int .i64 (o:Nat),.slice Bb ss.length Ba,.pointer (some ⟨zb,0,none⟩),.pointer (some ⟨qb,0,none⟩)] 79 (0,0)):=by
        rw [zy Gp];rfl
       have haF:Apl (w3.setCell ⟨w.heap.size+1,4,none⟩ (.pointer (some ⟨qb,0,none⟩))) aa q.2:=pastF _ _ (by omega) M0;have Iq:=ll.out
       have stay:∀ (b:Nat) (ob:Obj),b≠aa->b≠w.heap.size+1->W2.heap[b]? = some ob->(w3.setCell ⟨w.heap.size+1,4,none⟩ (.pointer (some ⟨qb,0,none⟩))).heap[b]? = some ob:=fun b ob h1 h2 hh =>
        pastF _ _ h2 (by rw [nZ.block b (zZ hh) h1];exact hh)
       have En:Rep (fun i=>F i\/w.heap.size<=i) (w3.setCell ⟨w.heap.size+1,4,none⟩ (.pointer (some ⟨qb,0,none⟩))) (k_ (.ask o qN z.1 q.1)) (.pointer (some ⟨w.heap.size+1,0,none⟩)):=by
        rw [k_,jv];refine ⟨_,_,rfl,.inr (by omega),blkF,?_⟩;simp only [zQ,zC,zH];have iB:=HI.out.ol;refine ⟨_,_,rfl,rfl,_,_,rfl,rfl,_,_,rfl,?_,_,_,rfl,?_,_,_,rfl,?_,rfl⟩
        ·rw [iB];refine Own.rep (xs:=us) (H2.out.2.2.2.1.keep fun g ob hg hh=>stay _ _ (by have:=HI.out.fr g hg;omega) (by have:=HI.out.fr g hg;omega) hh) (fun g hg=>.inr (by have:=HI.out.fr g hg;omega)) ?_;refine (Rep.keep fun b ob hf hh=>⟨?_,stay _ _ hf.2 (by rcases hf.1 with h | h <;> omega) hh⟩).2 _ _ H2.out.2.2.2.2.1;rcases hf.1 with h | h
         ·exact .inl h.1
         ·exact .inr (by omega)
        ·refine (Rep.keep fun b ob hf hh=>⟨?_,stay _ _ ?_ (by rcases hf with h | h <;> omega) hh⟩).1 _ _ H2.out.2.2.1
         ·rcases hf with h | h
          ·exact .inl h.1
          ·exact .inr (by omega)
         ·rcases hf with h | h
          ·exact HP.out.hF b h.1
          ·omega
        ·refine (Rep.keep fun b ob hf hh=>⟨?_,pastF _ _ ?_ hh⟩).1 _ _ ib
         ·rcases hf with h | h
          ·exact .inl h.1
          ·exact .inr (by omega)
         ·rcases hf with h | h <;> omega
       have HF:=mj (mu GL (mu lm (mu haF En)));clear GL lm haF En stay blkF pastF nZ Ck AD M0 ib Gp Iq;go_wp2_with fail
       go_ret2
       exact kR.some HF.out.1 HF.out.2.1 HF.out.2.2.1 HF.out.2.2.2
end Go.Proofs.YtpgiohmcggllgaaGreatDoor

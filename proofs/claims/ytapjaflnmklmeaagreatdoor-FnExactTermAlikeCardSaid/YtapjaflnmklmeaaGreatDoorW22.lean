import Derived.Test.YtapjaflnmklmeaaGreatDoorW15
import Derived.Test.YtapjaflnmklmeaaGreatDoorW19
import Derived.Test.YtapjaflnmklmeaaGreatDoorP27
import Derived.Test.YtapjaflnmklmeaaGreatDoorA14
import Derived.Test.YtapjaflnmklmeaaGreatDoorP28
import Derived.Test.YtapjaflnmklmeaaGreatDoorT6
/- The walks of impl's find and same. -/
set_option linter.unusedVariables false
set_option linter.unusedSimpArgs false
namespace Go.Proofs.YtapjaflnmklmeaaGreatDoor
open Go.RowKit
theorem Tryz.infoBound:(Tryz.prog.info? 105).map (fun i=>(i.zero,i.size,i.bytes))=some (some (.agg #[str [],.pointer none]),2,24):=by kernel_rfl
def encNms:List Nm→List DV
 | []=>[]
 | p::ps=>.val (str p.1)::encK p.2::encNms ps
theorem encNms_append (a b:List Nm):encNms (a++b)=encNms a++encNms b:=by
 induction a with
 | nil=>rfl
 | cons p ps ih=>rw [List.cons_append,encNms,encNms,ih];rfl
theorem encNms_at:∀ (ns:List Nm) (i:Nat) (p:Nm),ns[i]? = some p→(encNms ns)[i*2]? = some (.val (str p.1))∧(encNms ns)[i*2+1]? = some (encK p.2)
 | [],i,p,h=>by simp at h
 | q::ps,0,p,h=>by simp at h;subst h;rw [encNms];exact ⟨rfl,rfl⟩
 | q::ps,i+1,p,h=>by
   have:=encNms_at ps i p (by simpa using h)
   rw [encNms,show (i+1)*2=i*2+1+1 from by omega,show i*2+1+1+1=(i*2+1)+1+1 from rfl]
   simpa using this
theorem oneNm {F:Nat→Prop} {w:World}:∀ (ns:List Nm) (us:List Value),Reps F w (encNms ns) us→∀ u∈us,u.oneCell'=true
 | [],us,h,u,hu=>by rw [encNms,Reps_nil] at h;subst h;simp at hu
 | p::ps,us,h,u,hu=>by
   rw [encNms,Reps_cons] at h
   obtain ⟨v1,vs,rfl,h1,h2⟩:=h
   rw [Reps_cons] at h2
   obtain ⟨v2,vs2,rfl,h3,h4⟩:=h2
   rw [Rep_val] at h1
   subst h1
   obtain ⟨b,_,rfl,_⟩:=encK_open h3
   rcases List.mem_cons.1 hu with rfl | hu
   ·simp [str,Value.oneCell']
   rcases List.mem_cons.1 hu with rfl | hu
   ·simp [Value.oneCell']
   ·exact oneNm ps vs2 h4 u hu
def AtNm (F:Nat→Prop) (w:World) (ns:List Nm) (a:Option Addr) (k:Nat):Prop :=
 ∃ b o x t kb,a=some ⟨b,o,none⟩∧b<w.heap.size∧ns[k]? = some (x,t)∧w.cell? ⟨b,o+k*2,none⟩=some (str x)∧w.cell? ⟨b,o+k*2+1,none⟩=some (.pointer (some ⟨kb,0,none⟩))∧Rep F w (encK t) (.pointer (some ⟨kb,0,none⟩))
theorem AtNms.of {F:Nat→Prop} {w:World} {ns:List Nm} {v:Value} (h:Rep F w (.sl 105 2 ns.length (encNms ns)) v):∃ a c,v=.slice a ns.length c∧ns.length≤c∧∀ k,k<ns.length→AtNm F w ns a k:=by
 obtain ⟨hl,a,c,rfl,hn,hz,h⟩:=Rep_sl.1 h
 refine ⟨a,c,rfl,hn,fun k hk=>?_⟩
 rcases h with h | ⟨b,o,cs,fr,rfl,hb,hc,hr⟩
 ·omega
 ·obtain ⟨⟨x,t⟩,hp⟩:∃ p,ns[k]? = some p:=⟨ns[k],by simp [hk]⟩
  obtain ⟨g1,g2⟩:=encNms_at ns k (x,t) hp
  obtain ⟨v1,e1,r1⟩:=Reps.at hr g1
  obtain ⟨v2,e2,r2⟩:=Reps.at hr g2
  rw [Rep_val] at r1
  subst r1
  obtain ⟨kb,_,rfl,_⟩:=encK_open r2
  have hat:∀ j u,((cs.toList.drop o).take (ns.length*2))[j]? = some u→w.cell? ⟨b,o+j,none⟩=some u:=by
   intro j u hu
   rw [List.getElem?_take] at hu
   split at hu
   ·rw [List.getElem?_drop] at hu
    simp only [World.cell?,hc]
    simpa using hu
   ·simp at hu
  exact ⟨b,o,x,t,kb,rfl,lt_of_heap hc,hp,hat _ _ e1,by have:=hat _ _ e2;rwa [← Nat.add_assoc] at this,r2⟩
def levelOf:Option Nat→Int
 | some i=>i
 | none=>-1
theorem sizeTm_pos (t:Tm):0<sizeTm t:=by cases t <;> simp only [sizeTm] <;> omega
def FoundAt (ns:List Nm) (x:Bs) (k:Nat):Prop:=findN ns x=findAt ns x k
set_option maxHeartbeats 1000000 in
theorem find_any (F:Nat→Prop) (ns:List Nm) (x:Bs) (lv:Value) (w:World) (hn:ns.length≤1000) (hr:Rep F w (.sl 105 2 ns.length (encNms ns)) lv) :
 Calls Tryz.prog 49 #[lv,str x] w fun en w'=>en=.returned (.int .i64 (levelOf (findN ns x)))∧w'=w:=by
 obtain ⟨a,c,rfl,hc,hat⟩:=AtNms.of hr
 have AT:=Lib.hid hat
 clear hat hr
 go_enter Tryz.func49,Tryz.ntmps49
 go_wp2_with fail
 go_loop [5] (fun i=>∃ k:Nat,k≤ns.length∧i=.int .i64 ((k:Int)-1)∧FoundAt ns x k) (fun i=>(intOf i+1).toNat)
 case atStart=>exact ⟨ns.length,Nat.le_refl _,rfl,rfl⟩
 case round =>
  obtain ⟨k,hk,rfl,hf⟩:=hrel
  cases k with
  | zero =>
    have hz:((0:Nat):Int)-1 = -1:=rfl
    rw [hz]
    go_wp2_with fail
    go_ret
    refine ⟨?_,rfl⟩
    rw [show findN ns x=none from hf];rfl
  | succ j =>
    have hj:j<ns.length:=by omega
    rw [show ((j+1:Nat):Int)-1=(j:Int) from by omega]
    obtain ⟨b,o,y,t,kb,e,hb,hp,h1,h2,_⟩:=AT.out j hj
    subst e
    have hjI:(j:Int)<(ns.length:Int):=by omega
    have hstep:findAt ns x (j+1)=if y=x then some j else findAt ns x j:=by
     rw [findAt,hp];simp
    by_cases hyx:y=x
    ·subst hyx
     have q:(y == y)=true:=by simp
     have HS:=Lib.hid (show findN ns y=some j by rw [show findN ns y=findAt ns y (j+1) from hf,hstep,if_pos rfl])
     clear hf hstep hp h2
     go_wp2_with fail
     go_ret
     exact ⟨by rw [HS.out];rfl,rfl⟩
    ·have q:(y == x)=false:=by rw [beq_eq_false_iff_ne];exact hyx
     have HS:=Lib.hid (show findN ns x=findAt ns x j by rw [show findN ns x=findAt ns x (j+1) from hf,hstep,if_neg hyx])
     clear hf hstep hp h2 hyx
     go_wp2_with fail
     go_round
     case rel=>exact ⟨j,by omega,by go_num,HS.out⟩
     case measure=>simp only [intOf];omega
set_option maxHeartbeats 1000000 in
theorem same_any (F:Nat→Prop) (a b:Ty) (va vb:Value) (w:World) (ha:Rep F w (encK a) va) (hb:Rep F w (encK b) vb) (ha15:atomsT a≤15) (hb15:atomsT b≤15) :
 Calls Tryz.prog 15 #[va,vb] w fun en w'=>en=.returned (.bool (textT a == textT b))∧Below w.heap.size w w':=by
 obtain ⟨ab,_,rfl,_⟩:=encK_open ha
 obtain ⟨bb,_,rfl,_⟩:=encK_open hb
 have C1:=Lib.hid (textK_any 15 a ha15 (by omega) F w _ ha)
 have C2:=Lib.hid (fun w1 (h:Below w.heap.size w w1)=>textK_any 15 b hb15 (by omega) F w1 _ (Rep.below (F':=F) h (fun _ h=>h) hb))
 clear ha hb
 go_enter Tryz.func15,Tryz.ntmps15
 go_wp2_with fail
 (with_reducible refine C1.out.mono ?_)
 rintro en w1 ⟨rfl,hb1⟩
 have HB1:=Lib.hid hb1;clear hb1
 go_wp2_with fail
 (with_reducible refine (C2.out w1 HB1.out).mono ?_)
 rintro en w2 ⟨rfl,hb2⟩
 have HB2:=Lib.hid (HB1.out.trans (hb2.mono HB1.out.size));clear hb2
 go_wp2_with fail
 go_ret
 exact ⟨rfl,HB2.out⟩
end Go.Proofs.YtapjaflnmklmeaaGreatDoor
namespace Go.Proofs.YtapjaflnmklmeaaGreatDoor
open Go.RowKit
def KindPostT (F:Nat→Prop) (w:World) (o:Option Ty) (en:Ending) (w':World):Prop :=
 ∃ v,en=.returned v∧Below w.heap.size w w'∧(o=none→v=.pointer none)∧(∀ k,o=some k→Rep (fun i=>F i∨w.heap.size≤i) w' (encK k) v)
structure TyPre (F:Nat→Prop) (t:Tm) (ns:List Nm) (tv lv:Value) (w:World):Prop where
 rt:Rep F w (encTm t) tv
 rl:Rep F w (.sl 105 2 ns.length (encNms ns)) lv
 ok:okTm t
 n15:∀ a∈kinds ns,atomsT a≤15
 room:ns.length+sizeTm t≤1000
def TypedSaid (N:Nat):Prop:=∀ (F:Nat→Prop) (t:Tm) (ns:List Nm) (tv lv:Value) (w:World),sizeTm t≤N→TyPre F t ns tv lv w→Calls Tryz.prog 31 #[tv,lv] w (KindPostT F w (typeOf ns t))
theorem encK_newbox {F:Nat→Prop} {w:World} (hF:F w.heap.size):Rep F (w.alloc (.cells #[.slice none 0 0] 108)) (encK (.mk [])) (.pointer (some ⟨w.heap.size,0,none⟩)) :=
 encK_shut hF (heap_new _ _) (Rep_sl.2 ⟨rfl,none,0,rfl,Nat.le_refl _,fun _=>rfl,.inl rfl⟩)
theorem FullSl.alloc {w:World} {size n:Nat} {v:Value} {xs:List Value} (h:FullSl size v n xs w) (o:Obj):FullSl size v n xs (w.alloc o) :=
 ⟨h.1,h.2.elim (fun ⟨b,e,hc⟩=>.inl ⟨b,e,fun j u hj=>cell_alloc (hc j u hj)⟩) .inr⟩
theorem KindPostT.no {F:Nat→Prop} {w w':World} {o:Option Ty} (ho:o=none) (hb:Below w.heap.size w w'):KindPostT F w o (.returned (.pointer none)) w' :=
 ⟨_,rfl,hb,fun _=>rfl,fun k h=>by rw [ho] at h;simp at h⟩
theorem KindPostT.yes {F:Nat→Prop} {w w':World} {o:Option Ty} {k:Ty} {v:Value} (ho:o=some k) (hb:Below w.heap.size w w') (hr:Rep (fun i=>F i∨w.heap.size≤i) w' (encK k) v):KindPostT F w o (.returned v) w' :=
 ⟨_,rfl,hb,fun h=>by rw [ho] at h;simp at h,fun k' h=>by rw [ho] at h;obtain rfl:=Option.some.inj h;exact hr⟩
set_option maxRecDepth 100000 in
set_option maxHeartbeats 4000000 in
theorem typed_nm (F:Nat→Prop) (x:Bs) (ns:List Nm) (tv lv:Value) (w:World) (hp:TyPre F (.nm x) ns tv lv w):Calls Tryz.prog 31 #[tv,lv] w (KindPostT F w (typeOf ns (.nm x))):=by
 obtain ⟨tb,kv,slv,rfl,_,hblk,_,_,_⟩:=encTm_open hp.rt
 simp only [tmWord,tmName] at hblk
 have t0:w.cell? ⟨tb,0,none⟩=some (str []):=by simp [World.cell?,hblk]
 have t1:w.cell? ⟨tb,1,none⟩=some (str x):=by simp [World.cell?,hblk]
 have hn:ns.length≤1000:=by have:=hp.room;omega
 have CF:=find_any F ns x lv w hn hp.rl
 obtain ⟨la,lc,rfl,hlc,hat⟩:=AtNms.of hp.rl
 have AT:=Lib.hid hat
 have HP:=Lib.hid hp
 clear hp hat hblk
 cases hq:findN ns x with
 | none =>
   have HT:=Lib.hid (show typeOf ns (.nm x)=none by rw [typeOf,hq];rfl)
   rw [hq] at CF
   simp only [levelOf] at CF
   have CF':=Lib.hid CF
   clear hq CF hlc
   go_enter Tryz.func31,Tryz.ntmps31
   go_wp2_with fail
   (with_reducible refine CF'.out.mono ?_)
   rintro en w1 ⟨rfl,e⟩
   subst w1
   go_wp2_with fail
   go_ret
   exact KindPostT.no HT.out (Below.refl _ _)
 | some i =>
   obtain ⟨hlt,k,hk⟩:=findAt_lt hq
   obtain ⟨b,o,y,t,kb,e,hb,hp',h1,h2,hrk⟩:=AT.out i hlt
   subst e
   have h15:=HP.out.n15 t (List.mem_of_getElem? (kinds_at hp'))
   have HT:=Lib.hid (show typeOf ns (.nm x)=some t by rw [typeOf,hq,Option.bind_some,hp'];rfl)
   have CA:=Lib.hid (atoms_any F w 15 t h15 (by unfold Lim;omega) _ hrk)
   have HR:=Lib.hid hrk
   rw [hq] at CF
   simp only [levelOf] at CF
   have CF':=Lib.hid CF
   have hi:(i:Int)<(ns.length:Int):=by omega
   have hA:¬ (15:Int)<(atomsT t:Int):=by omega
   clear hq CF hlc hk hp' h1 hrk hb
   go_enter Tryz.func31,Tryz.ntmps31
   go_wp2_with fail
   (with_reducible refine CF'.out.mono ?_)
   rintro en w1 ⟨rfl,e⟩
   subst w1
   go_wp2_with fail
   (with_reducible refine CA.out.mono ?_)
   rintro en w1 ⟨rfl,e⟩
   subst w1
   go_wp2_with fail
   go_ret
   exact KindPostT.yes HT.out (Below.refl _ _) (HR.out.weak fun _ h=>.inl h)
set_option maxRecDepth 100000 in
set_option maxHeartbeats 4000000 in
theorem typed_wd (F:Nat→Prop) (u:Bs) (ns:List Nm) (tv lv:Value) (w:World) (hp:TyPre F (.wd u) ns tv lv w):Calls Tryz.prog 31 #[tv,lv] w (KindPostT F w (typeOf ns (.wd u))):=by
 obtain ⟨tb,kv,slv,rfl,_,hblk,_,_,_⟩:=encTm_open hp.rt
 simp only [tmWord,tmName] at hblk
 have t0:w.cell? ⟨tb,0,none⟩=some (str u):=by simp [World.cell?,hblk]
 have hok:leafW u=true:=hp.ok
 simp only [leafW,Bool.or_eq_true,beq_iff_eq] at hok
 obtain ⟨la,lc,rfl,_,_⟩:=AtNms.of hp.rl
 have HT:=Lib.hid (show typeOf ns (.wd u)=some (.mk []) by rw [typeOf])
 have CA:=Lib.hid (atoms_any (fun _=>True) (w.alloc (.cells #[.slice none 0 0] 108)) 15 (.mk []) (by decide) (by unfold Lim;omega) _ (encK_newbox trivial))
 have eA:((atomsT (.mk []):Nat):Int)=1:=by decide
 rw [eA] at CA
 clear hp hblk eA
 rcases hok with (rfl | rfl) | rfl
 ·go_enter Tryz.func31,Tryz.ntmps31
  go_wp2_with fail
  (with_reducible refine CA.out.mono ?_)
  rintro en w1 ⟨rfl,e⟩
  subst w1
  go_wp2_with fail
  go_ret
  exact KindPostT.yes HT.out ((Below.refl _ _).alloc (Nat.le_refl _) _) (encK_newbox (.inr (Nat.le_refl _)))
 ·go_enter Tryz.func31,Tryz.ntmps31
  go_wp2_with fail
  (with_reducible refine CA.out.mono ?_)
  rintro en w1 ⟨rfl,e⟩
  subst w1
  go_wp2_with fail
  go_ret
  exact KindPostT.yes HT.out ((Below.refl _ _).alloc (Nat.le_refl _) _) (encK_newbox (.inr (Nat.le_refl _)))
 ·go_enter Tryz.func31,Tryz.ntmps31
  go_wp2_with fail
  (with_reducible refine CA.out.mono ?_)
  rintro en w1 ⟨rfl,e⟩
  subst w1
  go_wp2_with fail
  go_ret
  exact KindPostT.yes HT.out ((Below.refl _ _).alloc (Nat.le_refl _) _) (encK_newbox (.inr (Nat.le_refl _)))
set_option maxRecDepth 100000 in
set_option maxHeartbeats 4000000 in
theorem typed_lam (N:Nat) (ih:TypedSaid N) (F:Nat→Prop) (x:Bs) (k:Ty) (t:Tm) (ns:List Nm) (tv lv:Value) (w:World) (hN:sizeTm (.lam x k t)≤N+1) (hp:TyPre F (.lam x k t) ns tv lv w):Calls Tryz.prog 31 #[tv,lv] w (KindPostT F w (typeOf ns (.lam x k t))):=by
 obtain ⟨tb,kv,slv,rfl,_,hblk,_,hkd,hps⟩:=encTm_open hp.rt
 have hk:=hkd k rfl
 obtain ⟨kb,_,e,_⟩:=encK_open hk
 subst e
 obtain ⟨pa,pc,rfl,_,_,hat⟩:=Rep_sl1_open hps
 simp only [tmWord,tmName,lamW] at hblk
 obtain ⟨pb0,po0,pu0,pd0,pe0,_,pw0,pq0,pc0,pr0⟩:=hat 0 (by simp [tmParts])
 simp only [tmParts,List.map_cons,List.map_nil,List.getElem?_cons_zero,List.getElem?_cons_succ,Option.some.injEq] at pq0
 subst pq0
 obtain ⟨ub0,e0⟩:=encTm_ptr pr0
 subst e0
 subst pe0
 have t0:w.cell? ⟨tb,0,none⟩=some (str [108,97,109]):=by simp [World.cell?,hblk]
 have t1:w.cell? ⟨tb,1,none⟩=some (str x):=by simp [World.cell?,hblk]
 have t2:w.cell? ⟨tb,2,none⟩=some (.pointer (some ⟨kb,0,none⟩)):=by simp [World.cell?,hblk]
 have t3:w.cell? ⟨tb,3,none⟩=some (.slice (some ⟨pb0,po0,none⟩) 1 pc):=by simp [World.cell?,hblk,tmParts]
 have hroom:=hp.room
 have hok:=hp.ok
 rw [sizeTm] at hroom hN
 have hak:=atomsT_pos k
 have CK:=Lib.hid (atoms_any F w 1000 k (by omega) (by unfold Lim;omega) _ hk)
 have hlen:ns.length≤999:=by omega
 by_cases h15:15<atomsT k
 ·have HT:=Lib.hid (show typeOf ns (.lam x k t)=none by rw [typeOf,if_pos h15])
  have hA:(15:Int)<(atomsT k:Int):=by omega
  obtain ⟨la,lc,rfl,_,_⟩:=AtNms.of hp.rl
  clear hp hat hps hk hkd hblk h15 pr0 pc0 hok hN
  go_enter Tryz.func31,Tryz.ntmps31
  go_wp2_with fail
  (with_reducible refine CK.out.mono ?_)
  rintro en w1 ⟨rfl,e⟩
  subst w1
  go_wp2_with fail
  go_ret
  exact KindPostT.no HT.out (Below.refl _ _)
 have hA:¬ (15:Int)<(atomsT k:Int):=by omega
 have hT:typeOf ns (.lam x k t)=(typeOf (ns++[(x,k)]) t).bind fun b=>if 15<atomsT (arrowT k b) then none else some (arrowT k b):=by rw [typeOf,if_neg h15]
 have HT:=Lib.hid hT
 obtain ⟨xs,hxs,hfull⟩:∃ xs,Reps F w (encNms ns) xs∧∃ a c,lv=.slice a ns.length c∧FullSl 2 (.slice a ns.length ns.length) ns.length xs w:=by
  obtain ⟨a,c,e,_,_⟩:=AtNms.of hp.rl
  have hr:=hp.rl
  rw [e] at hr
  obtain ⟨xs,h1,h2⟩:=FullSl.ofRep hr (oneNm ns)
  exact ⟨xs,h1,a,c,e,h2⟩
 obtain ⟨la,lc,rfl,hfull⟩:=hfull
 have hlc:ns.length≤lc:=by obtain ⟨a,c,e,h,_⟩:=AtNms.of hp.rl;simp only [Value.slice.injEq] at e;obtain ⟨_,_,rfl⟩:=e;exact h
 have SX:Hid (∀ w',Below w.heap.size w w'→w'.cell? ⟨tb,1,none⟩=some (str x)∧w'.cell? ⟨tb,2,none⟩=some (.pointer (some ⟨kb,0,none⟩))∧w'.cell? ⟨tb,3,none⟩=some (.slice (some ⟨pb0,po0,none⟩) 1 pc)∧w'.cell? ⟨pb0,po0,none⟩=some (.pointer (some ⟨ub0,0,none⟩))):=by
  show ∀ w',_→_
  intro w' hb'
  exact ⟨(hb'.cell (World.block_lt_of_cell? w _ t1)).trans t1,(hb'.cell (World.block_lt_of_cell? w _ t2)).trans t2,(hb'.cell (World.block_lt_of_cell? w _ t3)).trans t3,(hb'.cell pw0).trans pc0⟩
 have HX:=Lib.hid (And.intro hxs hfull)
 have HP:=Lib.hid (And.intro hp (And.intro hk pr0))
 have IH:=Lib.hid ih
 have HK:=Lib.hid (And.intro h15 (And.intro hok hN))
 have h63:ns.length+1≤maxLen:=by unfold maxLen;omega
 have hby:(ns.length+1)*24≤140737488355328:=by omega
 clear hp hat hps hk hkd hblk h15 pr0 hxs hfull hok ih hN hT
 go_enter Tryz.func31,Tryz.ntmps31
 go_wp2_with fail
 (with_reducible refine CK.out.mono ?_)
 rintro en w1 ⟨rfl,e⟩
 subst w1
 go_wp2_with fail
 refine wp_region_noPanic ?_
 refine wp_region_S (fun w'=>Below w.heap.size w w') (fun _=>false) (by kernel_rfl) ?_
 have hSd:(fun w'=>Below w.heap.size w w') w.drew:=Below.drew (Below.refl _ _)
 refine tk [0,1,2,3,4,5,6,7,8,9,10,11,12,13,14,15,16,17,18,19,20] hSd ?_
 (intro d hd;simp [tkD] at hd;subst hd;simp only [tks,pQ,pZ,pS])
 iterate 21 (refine ⟨?_,?_,?_⟩;rotate_left;· (intro oi ho;simp at ho;subst ho;refine Or.inl ⟨by rfl,fun w' hw'=>?_⟩;obtain ⟨e0,e1,e2,e3⟩:=SX.out w' hw';go_simp;try with_reducible rfl))
 (refine on 21 ?_;intro o ho K' hK;simp at ho;subst ho;go_simp)
 (refine hK.out _ _ (fun _=>hSd.alloc (Nat.le_refl _) _) ?_;clear hK K';try simp only [pQ,pN,pZ,pS])
 (refine on 22 ?_;intro o ho K' hK;simp at ho;subst ho)
 have hs8:SrcSl 2 (.slice (some ⟨w.heap.size,0,none⟩) 1 1) 1 [str x,.pointer (some ⟨kb,0,none⟩)] (w.drew.alloc (.cells #[str x,.pointer (some ⟨kb,0,none⟩)] 105)):=SrcSl.lit1 #[str x,.pointer (some ⟨kb,0,none⟩)] rfl (by simp [str,Value.oneCell']) _ (by rfl)
 have hf8:FullSl 2 (.slice la ns.length ns.length) ns.length xs (w.drew.alloc (.cells #[str x,.pointer (some ⟨kb,0,none⟩)] 105)):=HX.out.2.drew.alloc _
 refine step_append_full (by rfl) _ _ _ (by rfl) 105 (.agg #[str [],.pointer none]) 2 24 Tryz.underlying99 Tryz.infoBound rfl (.slice la ns.length ns.length) ns.length xs (by rfl) hf8 _ 1 _ (by rfl) hs8 (by omega) h63 hby ?_
 intro c7 w7 ho7 hb7
 have e8:(w.alloc (.cells #[str x,.pointer (some ⟨kb,0,none⟩)] 105)).drew.heap.size=w.heap.size+1:=by simp
 rw [e8] at ho7
 have hB7:Below w.heap.size w w7:=(hSd.alloc (Nat.le_refl _) _).trans (hb7.mono (hSd.alloc (Nat.le_refl _) _).size)
 (refine hK.out _ _ (fun _=>hB7) ?_;clear hK K';try simp only [pQ,pN,pZ,pS])
 (refine on 23 ?_;intro o ho K' hK;simp at ho;subst ho)
 have hr7:Rep (fun i=>F i∨w.heap.size≤i) w7 (.sl 105 2 (ns++[(x,k)]).length (encNms (ns++[(x,k)]))) (.slice (some ⟨w.heap.size+1,0,none⟩) (ns.length+1) c7):=by
  rw [List.length_append,encNms_append]
  refine ho7.rep (fun g hg=>.inr (by simp [Value.ownBlock] at hg;subst hg;exact Nat.le_succ _)) ?_
  exact (Reps.below hB7 (fun _ h=>.inl h) HX.out.1).append (Reps_cons.2 ⟨_,_,rfl,Rep_val.2 rfl,Reps_cons.2 ⟨_,_,rfl,Rep.below hB7 (fun _ h=>.inl h) HP.out.2.1,Reps_nil.2 rfl⟩⟩)
 have CT:=Lib.hid (IH.out (fun i=>F i∨w.heap.size≤i) t (ns++[(x,k)]) (.pointer (some ⟨ub0,0,none⟩)) _ w7 (by have:=HK.out.2.2;omega) ⟨Rep.below hB7 (fun _ h=>.inl h) HP.out.2.2,hr7,HK.out.2.1.2,(fun a ha=>by
  rw [kinds_snoc] at ha
  rcases List.mem_append.1 ha with ha | ha
  ·exact HP.out.1.n15 a ha
  ·simp at ha;subst ha;have:=HK.out.1;omega),by rw [List.length_append];simp;omega⟩)
 have HB7:=Lib.hid hB7
 clear hr7 ho7 hb7 hB7
 go_simp
 go_at_call 31
 (with_reducible refine CT.out.mono ?_)
 rintro en w9 ⟨bv,rfl,hb9,hn9,hy9⟩
 have HB9:=Lib.hid (HB7.out.trans (hb9.mono HB7.out.size))
 have HY:=Lib.hid (And.intro hn9 hy9)
 have z7:=HB7.out.size
 clear hb9 hn9 hy9
 (refine hK.out _ _ (fun _=>HB9.out) ?_;clear hK K';try simp only [pQ,pN,pZ,pS])
 (refine on 24 ?_;intro o ho K' hK;simp at ho;subst ho;go_simp)
 (refine hK.out _ _ (fun _=>HB9.out) ?_;clear hK K';try simp only [pQ,pN,pZ,pS])
 refine wpAnyS_done (by kernel_rfl) (NoPanic.normal ?_) _
 cases hq:typeOf (ns++[(x,k)]) t with
 | none =>
   obtain rfl:=HY.out.1 hq
   have HN:=Lib.hid (show typeOf ns (.lam x k t)=none by rw [HT.out,hq];rfl)
   clear hq
   go_wp2_with fail
   go_ret
   exact KindPostT.no HN.out HB9.out
 | some b =>
   have hrb:=HY.out.2 b hq
   obtain ⟨bb,_,e,_⟩:=encK_open hrb
   subst e
   have hb15:atomsT b≤15:=type_small t _ b (fun a ha=>by
    rw [kinds_snoc] at ha
    rcases List.mem_append.1 ha with ha | ha
    ·exact HP.out.1.n15 a ha
    ·simp at ha;subst ha;have:=HK.out.1;omega) hq
   have hbl:=arg_count hb15
   have CW:=Lib.hid (arrow_any (fun i=>F i∨w.heap.size≤i) k b (.pointer (some ⟨kb,0,none⟩)) (.pointer (some ⟨bb,0,none⟩)) w9 (Rep.below HB9.out (fun _ h=>.inl h) HP.out.2.1) (hrb.weak fun i h=>by rcases h with h | h;exact h;exact .inr (by omega)) (show _≤_ by omega))
   have HQ:=Lib.hid (show typeOf ns (.lam x k t)=if 15<atomsT (arrowT k b) then none else some (arrowT k b) by rw [HT.out,hq];rfl)
   obtain ⟨e0,e1,e2,e3⟩:=SX.out w9 HB9.out
   have haa:atomsT (arrowT k b)≤1000:=by
    have h1:=HK.out.1
    have:atomsT (arrowT k b)=1+atomsT k+atomsT b:=atomsT_arrow k b
    omega
   clear hq hrb
   go_wp2_with fail
   (with_reducible refine CW.out.mono ?_)
   rintro en w10 ⟨av,rfl,hb10,hr10⟩
   have HB10:=Lib.hid (HB9.out.trans (hb10.mono HB9.out.size))
   have hr10':Rep (fun i=>F i∨w.heap.size≤i) w10 (encK (arrowT k b)) av:=hr10.weak fun i h=>by rcases h with h | h;exact h;exact .inr (by have:=HB9.out.size;omega)
   obtain ⟨ab,_,e,_⟩:=encK_open hr10'
   subst e
   have CA:=Lib.hid (atoms_any _ w10 1000 (arrowT k b) haa (by unfold Lim;omega) _ hr10')
   have HR:=Lib.hid hr10'
   clear hb10 hr10 hr10' e0 e1 e2 e3
   by_cases h15:15<atomsT (arrowT k b)
   ·have hA2:(15:Int)<(atomsT (arrowT k b):Int):=by omega
    have HN:=Lib.hid (show typeOf ns (.lam x k t)=none by rw [HQ.out,if_pos h15])
    generalize atomsT (arrowT k b)=A at *
    clear h15
    go_wp2_with fail
    (with_reducible refine CA.out.mono ?_)
    rintro en w11 ⟨rfl,e⟩
    subst w11
    go_wp2_with fail
    go_ret
    exact KindPostT.no HN.out HB10.out
   ·have hA2:¬ (15:Int)<(atomsT (arrowT k b):Int):=by omega
    have HN:=Lib.hid (show typeOf ns (.lam x k t)=some (arrowT k b) by rw [HQ.out,if_neg h15])
    generalize atomsT (arrowT k b)=A at *
    clear h15
    go_wp2_with fail
    (with_reducible refine CA.out.mono ?_)
    rintro en w11 ⟨rfl,e⟩
    subst w11
    go_wp2_with fail
    go_ret
    exact KindPostT.yes HN.out HB10.out HR.out
set_option maxRecDepth 100000 in
set_option maxHeartbeats 4000000 in
theorem typed_app (N:Nat) (ih:TypedSaid N) (F:Nat→Prop) (m n:Tm) (ns:List Nm) (tv lv:Value) (w:World) (hN:sizeTm (.app m n)≤N+1) (hp:TyPre F (.app m n) ns tv lv w):Calls Tryz.prog 31 #[tv,lv] w (KindPostT F w (typeOf ns (.app m n))):=by
 obtain ⟨tb,kv,slv,rfl,_,hblk,_,_,hps⟩:=encTm_open hp.rt
 obtain ⟨pa,pc,rfl,_,_,hat⟩:=Rep_sl1_open hps
 simp only [tmWord,tmName,appW] at hblk
 obtain ⟨pb0,po0,pu0,pd0,pe0,_,pw0,pq0,pc0,pr0⟩:=hat 0 (by simp [tmParts])
 simp only [tmParts,List.map_cons,List.map_nil,List.getElem?_cons_zero,List.getElem?_cons_succ,Option.some.injEq] at pq0
 subst pq0
 obtain ⟨ub0,e0⟩:=encTm_ptr pr0
 subst e0
 subst pe0
 obtain ⟨pb1,po1,pu1,pd1,pe1,_,pw1,pq1,pc1,pr1⟩:=hat 1 (by simp [tmParts])
 simp only [tmParts,List.map_cons,List.map_nil,List.getElem?_cons_zero,List.getElem?_cons_succ,Option.some.injEq] at pq1
 subst pq1
 obtain ⟨ub1,e1⟩:=encTm_ptr pr1
 subst e1
 simp only [Option.some.injEq,Addr.mk.injEq,and_true] at pe1
 obtain ⟨rfl,rfl⟩:=pe1
 have t0:w.cell? ⟨tb,0,none⟩=some (str [97,112,112]):=by simp [World.cell?,hblk]
 have t3:w.cell? ⟨tb,3,none⟩=some (.slice (some ⟨pb0,po0,none⟩) 2 pc):=by simp [World.cell?,hblk,tmParts]
 have hroom:=hp.room
 have hok:=hp.ok
 rw [sizeTm] at hroom hN
 obtain ⟨la,lc,rfl,_,_⟩:=AtNms.of hp.rl
 have SX:Hid (∀ w',Below w.heap.size w w'→w'.cell? ⟨tb,3,none⟩=some (.slice (some ⟨pb0,po0,none⟩) 2 pc)∧w'.cell? ⟨pb0,po0,none⟩=some (.pointer (some ⟨ub0,0,none⟩))∧w'.cell? ⟨pb0,po0+1,none⟩=some (.pointer (some ⟨ub1,0,none⟩))):=by
  show ∀ w',_→_
  intro w' hb'
  exact ⟨(hb'.cell (World.block_lt_of_cell? w _ t3)).trans t3,(hb'.cell pw0).trans pc0,(hb'.cell pw1).trans pc1⟩
 have C0:=Lib.hid (fun wz (hz:Below w.heap.size w wz)=>ih F m ns (.pointer (some ⟨ub0,0,none⟩)) (.slice la ns.length lc) wz (by omega) ⟨Rep.below hz (fun _ h=>h) pr0,Rep.below hz (fun _ h=>h) hp.rl,hok.1,hp.n15,by omega⟩)
 have C1:=Lib.hid (fun wz (hz:Below w.heap.size w wz)=>ih F n ns (.pointer (some ⟨ub1,0,none⟩)) (.slice la ns.length lc) wz (by omega) ⟨Rep.below hz (fun _ h=>h) pr1,Rep.below hz (fun _ h=>h) hp.rl,hok.2,hp.n15,by omega⟩)
 have HN:=Lib.hid hp.n15
 clear hp hat hps hblk hok hN ih pr0 pc0 pw0 pr1 pc1 pw1
 go_enter Tryz.func31,Tryz.ntmps31
 go_wp2_with fail
 refine wp_region_noPanic ?_
 refine wp_region_S (fun w'=>Below w.heap.size w w') (fun _=>false) (by kernel_rfl) ?_
 have hSd:(fun w'=>Below w.heap.size w w') w.drew:=Below.drew (Below.refl _ _)
 refine tk [0,1,2,3,4,5,6,8,9,10,11,12,13,14] hSd ?_
 (intro d hd;simp [tkD] at hd;subst hd;simp only [tks,pQ,pZ,pS])
 iterate 14 (refine ⟨?_,?_,?_⟩;rotate_left;· (intro oi ho;simp at ho;subst ho;refine Or.inl ⟨by rfl,fun w' hw'=>?_⟩;obtain ⟨e0,e1,e2⟩:=SX.out w' hw';go_simp;try with_reducible rfl))
 (refine on 7 ?_;intro o ho K' hK;simp at ho;subst ho;go_simp)
 go_at_call 31
 (with_reducible refine (C0.out _ hSd).mono ?_)
 rintro en v0 ⟨x0,rfl,hb0,hn0,hy0⟩
 have HB0:Hid (Below w.heap.size w v0):=hSd.trans hb0
 have HY0:Hid ((typeOf ns m=none→x0=.pointer none)∧(∀ k,typeOf ns m=some k→Rep (fun i=>F i∨w.heap.size≤i) v0 (encK k) x0)):=⟨hn0,fun k h=>(hy0 k h).weak fun i h=>by rcases h with h | h;exact .inl h;exact .inr (h)⟩
 have HC0:=Lib.hid hb0
 clear hb0 hn0 hy0
 (refine hK.out _ _ (fun _=>HB0.out) ?_;clear hK K';try simp only [pQ,pN,pZ,pS])
 have hS7:=HB0.out
 (refine on 15 ?_;intro o ho K' hK;simp at ho;subst ho;go_simp)
 go_at_call 31
 (with_reducible refine (C1.out _ HB0.out).mono ?_)
 rintro en v1 ⟨x1,rfl,hb1,hn1,hy1⟩
 have HB1:Hid (Below w.heap.size w v1):=HB0.out.trans (hb1.mono HB0.out.size)
 have HY1:Hid ((typeOf ns n=none→x1=.pointer none)∧(∀ k,typeOf ns n=some k→Rep (fun i=>F i∨w.heap.size≤i) v1 (encK k) x1)):=⟨hn1,fun k h=>(hy1 k h).weak fun i h=>by rcases h with h | h;exact .inl h;exact .inr (Nat.le_trans HB0.out.size h)⟩
 have HC1:=Lib.hid hb1
 clear hb1 hn1 hy1
 (refine hK.out _ _ (fun _=>HB1.out) ?_;clear hK K';try simp only [pQ,pN,pZ,pS])
 have hS15:=HB1.out
 refine tk [16,17] hS15 ?_
 (intro d hd;simp [tkD] at hd;subst hd;simp only [tks,pQ,pZ,pS])
 iterate 2 (refine ⟨?_,?_,?_⟩;rotate_left;· (intro oi ho;simp at ho;subst ho;refine Or.inl ⟨by rfl,fun w' hw'=>?_⟩;go_simp;try with_reducible rfl))
 refine wpAnyS_done (by kernel_rfl) (NoPanic.normal ?_) _
 clear t3 C0 C1
 cases hm:typeOf ns m with
 | none =>
   obtain rfl:=HY0.out.1 hm
   have HQ:=Lib.hid (show typeOf ns (.app m n)=none by rw [typeOf,hm];rfl)
   clear hm
   go_wp2_with fail
   go_ret
   exact KindPostT.no HQ.out HB1.out
 | some a =>
   have hra:=Rep.below (F':=fun i=>F i∨w.heap.size≤i) HC1.out (fun _ h=>h) (HY0.out.2 a hm)
   obtain ⟨ab,ak,e,_,hab,has⟩:=encK_open hra
   subst e
   cases hn:typeOf ns n with
   | none =>
     obtain rfl:=HY1.out.1 hn
     have HQ:=Lib.hid (show typeOf ns (.app m n)=none by rw [typeOf,hm,hn];rfl)
     clear hm hn hra hab has
     go_wp2_with fail
     go_ret
     exact KindPostT.no HQ.out HB1.out
   | some b =>
     have hrb:=HY1.out.2 b hn
     obtain ⟨bb,_,e,_⟩:=encK_open hrb
     subst e
     have ha15:=type_small m ns a HN.out hm
     have hb15:=type_small n ns b HN.out hn
     have q0:v1.cell? ⟨ab,0,none⟩=some ak:=by simp [World.cell?,hab]
     obtain ⟨aa,ac,rfl,hac,_,haat⟩:=Rep_sl1_open has
     have haw:=lt_of_heap hab
     cases hts:a.args with
     | nil =>
       rw [hts] at q0
       have HQ:=Lib.hid (show typeOf ns (.app m n)=none by rw [typeOf,hm,hn,Option.bind_some,Option.bind_some,hts])
       clear hm hn hra hab has haat hrb hts hac
       go_wp2_with fail
       go_ret
       exact KindPostT.no HQ.out HB1.out
     | cons c cs =>
       rw [hts] at q0 has haat hac
       obtain ⟨kb2,ko2,u,d1,e,_,hkw2,hd1,hc1,hru⟩:=haat 0 (by simp)
       subst e
       simp only [encKs,List.getElem?_cons_zero,Option.some.injEq] at hd1
       subst hd1
       obtain ⟨cb,_,e,_⟩:=encK_open hru
       subst e
       have hc1':v1.cell? ⟨kb2,ko2,none⟩=some (.pointer (some ⟨cb,0,none⟩)):=hc1
       have hc15:atomsT c≤15:=arg_small ha15 c (by rw [hts];simp)
       have hcs15:atomsT (.mk cs)≤15:=by have:=Ty_atoms_cons hts;omega
       have hcl:cs.length≤14:=by have:=arg_count ha15;rw [hts] at this;simp at this;omega
       have CS:=Lib.hid (same_any _ c b _ _ v1 hru hrb hc15 hb15)
       by_cases he:textT c=textT b
       ·have e0:(textT c == textT b)=true:=by rw [beq_iff_eq];exact he
        rw [e0] at CS
        have HT:=Lib.hid (show typeOf ns (.app m n)=some (.mk cs) by rw [typeOf,hm,hn,Option.bind_some,Option.bind_some,hts];exact if_pos he)
        have HS:=Lib.hid has
        have hac':cs.length+1≤ac:=by simpa using hac
        have KEY:∀ (v2:World) (ra:Option Addr) (rc:Nat),Below w.heap.size w v2→Rep (fun i=>F i∨w.heap.size≤i) v2 (.sl 43 1 cs.length (encKs cs)) (.slice ra cs.length rc) →
         Rep (fun i=>F i∨w.heap.size≤i) (v2.alloc (.cells #[.slice ra cs.length rc] 108)) (encK (.mk cs)) (.pointer (some ⟨v2.heap.size,0,none⟩)):=fun v2 ra rc h hr =>
         encK_shut (.inr h.size) (heap_new _ _) (Rep.below ((Below.refl _ _).alloc (Nat.le_refl _) _) (fun _ h=>h) hr)
        have HK:=Lib.hid KEY
        have hA:¬ (15:Int)<(atomsT (.mk cs):Int):=by omega
        have H15:=Lib.hid hcs15
        clear hm hn hra hab has haat hrb hts he e0 hc1 hru ha15 hb15 hcs15 hc15 KEY hac
        go_wp2_with fail
        (with_reducible refine CS.out.mono ?_)
        rintro en v2 ⟨rfl,hb2⟩
        have q0':=(hb2.cell (p:=⟨ab,0,none⟩) haw).trans q0
        have HB2:=Lib.hid (HB1.out.trans (hb2.mono HB1.out.size))
        have HS2:=Lib.hid (Rep.below (F':=fun i=>F i∨w.heap.size≤i) hb2 (fun _ h=>h) HS.out)
        clear hb2 q0 hc1'
        by_cases hac1:ac=1
        ·subst hac1
         have hcs:cs.length=0:=by omega
         obtain rfl:=List.eq_nil_of_length_eq_zero hcs
         have hr2:Rep (fun i=>F i∨w.heap.size≤i) v2 (.sl 43 1 ([]:List Ty).length (encKs [])) (.slice (some ⟨kb2,ko2,none⟩) ([]:List Ty).length 0):=Rep_sl.2 ⟨rfl,_,_,rfl,Nat.le_refl _,fun h=>by simp at h,.inl rfl⟩
         have hr3:Rep (fun i=>F i∨w.heap.size≤i) (v2.alloc (.cells #[.slice (some ⟨kb2,ko2,none⟩) 0 0] 108)) (encK (.mk [])) (.pointer (some ⟨v2.heap.size,0,none⟩)):=HK.out v2 _ _ HB2.out hr2
         have CA:=Lib.hid (atoms_any _ _ 15 (.mk []) H15.out (by unfold Lim;omega) _ hr3)
         have HR:=Lib.hid hr3
         clear hr2 hr3 hcs
         go_wp2_with fail
         (with_reducible refine CA.out.mono ?_)
         rintro en w3 ⟨rfl,e⟩
         subst w3
         go_wp2_with fail
         go_ret
         exact KindPostT.yes HT.out (HB2.out.alloc HB2.out.size _) HR.out
        ·have hr2:Rep (fun i=>F i∨w.heap.size≤i) v2 (.sl 43 1 cs.length (encKs cs)) (.slice (some ⟨kb2,ko2+1,none⟩) cs.length (ac-1)):=Rep_sl1_tail (d:=encK c) HS2.out
         have CA:=Lib.hid (atoms_any _ _ 15 (.mk cs) H15.out (by unfold Lim;omega) _ (HK.out v2 _ _ HB2.out hr2))
         have HR:=Lib.hid (HK.out v2 _ _ HB2.out hr2)
         clear hr2
         go_wp2_with fail
         (with_reducible refine CA.out.mono ?_)
         rintro en w3 ⟨rfl,e⟩
         subst w3
         go_wp2_with fail
         go_ret
         exact KindPostT.yes HT.out (HB2.out.alloc HB2.out.size _) HR.out
       ·have e0:(textT c == textT b)=false:=by rw [beq_eq_false_iff_ne];exact he
        rw [e0] at CS
        have HT:=Lib.hid (show typeOf ns (.app m n)=none by rw [typeOf,hm,hn,Option.bind_some,Option.bind_some,hts];exact if_neg he)
        clear hm hn hra hab has haat hrb hts he e0 hc1 hru ha15 hb15 hcs15 hc15
        go_wp2_with fail
        (with_reducible refine CS.out.mono ?_)
        rintro en v2 ⟨rfl,hb2⟩
        have HB2:=Lib.hid (HB1.out.trans (hb2.mono HB1.out.size))
        clear hb2
        go_wp2_with fail
        go_ret
        exact KindPostT.no HT.out HB2.out
set_option maxRecDepth 100000 in
set_option maxHeartbeats 4000000 in
theorem typed_ite (N:Nat) (ih:TypedSaid N) (F:Nat→Prop) (l m n:Tm) (ns:List Nm) (tv lv:Value) (w:World) (hN:sizeTm (.ite l m n)≤N+1) (hp:TyPre F (.ite l m n) ns tv lv w):Calls Tryz.prog 31 #[tv,lv] w (KindPostT F w (typeOf ns (.ite l m n))):=by
 obtain ⟨tb,kv,slv,rfl,_,hblk,_,_,hps⟩:=encTm_open hp.rt
 obtain ⟨pa,pc,rfl,_,_,hat⟩:=Rep_sl1_open hps
 simp only [tmWord,tmName,ifW] at hblk
 obtain ⟨pb0,po0,pu0,pd0,pe0,_,pw0,pq0,pc0,pr0⟩:=hat 0 (by simp [tmParts])
 simp only [tmParts,List.map_cons,List.map_nil,List.getElem?_cons_zero,List.getElem?_cons_succ,Option.some.injEq] at pq0
 subst pq0
 obtain ⟨ub0,e0⟩:=encTm_ptr pr0
 subst e0
 subst pe0
 obtain ⟨pb1,po1,pu1,pd1,pe1,_,pw1,pq1,pc1,pr1⟩:=hat 1 (by simp [tmParts])
 simp only [tmParts,List.map_cons,List.map_nil,List.getElem?_cons_zero,List.getElem?_cons_succ,Option.some.injEq] at pq1
 subst pq1
 obtain ⟨ub1,e1⟩:=encTm_ptr pr1
 subst e1
 simp only [Option.some.injEq,Addr.mk.injEq,and_true] at pe1
 obtain ⟨rfl,rfl⟩:=pe1
 obtain ⟨pb2,po2,pu2,pd2,pe2,_,pw2,pq2,pc2,pr2⟩:=hat 2 (by simp [tmParts])
 simp only [tmParts,List.map_cons,List.map_nil,List.getElem?_cons_zero,List.getElem?_cons_succ,Option.some.injEq] at pq2
 subst pq2
 obtain ⟨ub2,e2⟩:=encTm_ptr pr2
 subst e2
 simp only [Option.some.injEq,Addr.mk.injEq,and_true] at pe2
 obtain ⟨rfl,rfl⟩:=pe2
 have t0:w.cell? ⟨tb,0,none⟩=some (str [105,102]):=by simp [World.cell?,hblk]
 have t3:w.cell? ⟨tb,3,none⟩=some (.slice (some ⟨pb0,po0,none⟩) 3 pc):=by simp [World.cell?,hblk,tmParts]
 have hroom:=hp.room
 have hok:=hp.ok
 rw [sizeTm] at hroom hN
 obtain ⟨la,lc,rfl,_,_⟩:=AtNms.of hp.rl
 have SX:Hid (∀ w',Below w.heap.size w w'→w'.cell? ⟨tb,3,none⟩=some (.slice (some ⟨pb0,po0,none⟩) 3 pc)∧w'.cell? ⟨pb0,po0,none⟩=some (.pointer (some ⟨ub0,0,none⟩))∧w'.cell? ⟨pb0,po0+1,none⟩=some (.pointer (some ⟨ub1,0,none⟩))∧w'.cell? ⟨pb0,po0+2,none⟩=some (.pointer (some ⟨ub2,0,none⟩))):=by
  show ∀ w',_→_
  intro w' hb'
  exact ⟨(hb'.cell (World.block_lt_of_cell? w _ t3)).trans t3,(hb'.cell pw0).trans pc0,(hb'.cell pw1).trans pc1,(hb'.cell pw2).trans pc2⟩
 have C0:=Lib.hid (fun wz (hz:Below w.heap.size w wz)=>ih F l ns (.pointer (some ⟨ub0,0,none⟩)) (.slice la ns.length lc) wz (by omega) ⟨Rep.below hz (fun _ h=>h) pr0,Rep.below hz (fun _ h=>h) hp.rl,hok.1,hp.n15,by omega⟩)
 have C1:=Lib.hid (fun wz (hz:Below w.heap.size w wz)=>ih F m ns (.pointer (some ⟨ub1,0,none⟩)) (.slice la ns.length lc) wz (by omega) ⟨Rep.below hz (fun _ h=>h) pr1,Rep.below hz (fun _ h=>h) hp.rl,hok.2.1,hp.n15,by omega⟩)
 have C2:=Lib.hid (fun wz (hz:Below w.heap.size w wz)=>ih F n ns (.pointer (some ⟨ub2,0,none⟩)) (.slice la ns.length lc) wz (by omega) ⟨Rep.below hz (fun _ h=>h) pr2,Rep.below hz (fun _ h=>h) hp.rl,hok.2.2,hp.n15,by omega⟩)
 have HN:=Lib.hid hp.n15
 clear hp hat hps hblk hok hN ih pr0 pc0 pw0 pr1 pc1 pw1 pr2 pc2 pw2
 go_enter Tryz.func31,Tryz.ntmps31
 go_wp2_with fail
 refine wp_region_noPanic ?_
 refine wp_region_S (fun w'=>Below w.heap.size w w') (fun _=>false) (by kernel_rfl) ?_
 have hSd:(fun w'=>Below w.heap.size w w') w.drew:=Below.drew (Below.refl _ _)
 refine tk [0,1,2,3,4,5,6,8,9,10,11,12,13,14,16,17,18,19,20,21,22] hSd ?_
 (intro d hd;simp [tkD] at hd;subst hd;simp only [tks,pQ,pZ,pS])
 iterate 21 (refine ⟨?_,?_,?_⟩;rotate_left;· (intro oi ho;simp at ho;subst ho;refine Or.inl ⟨by rfl,fun w' hw'=>?_⟩;obtain ⟨e0,e1,e2,e3⟩:=SX.out w' hw';go_simp;try with_reducible rfl))
 (refine on 7 ?_;intro o ho K' hK;simp at ho;subst ho;go_simp)
 go_at_call 31
 (with_reducible refine (C0.out _ hSd).mono ?_)
 rintro en v0 ⟨x0,rfl,hb0,hn0,hy0⟩
 have HB0:Hid (Below w.heap.size w v0):=hSd.trans hb0
 have HY0:Hid ((typeOf ns l=none→x0=.pointer none)∧(∀ k,typeOf ns l=some k→Rep (fun i=>F i∨w.heap.size≤i) v0 (encK k) x0)):=⟨hn0,fun k h=>(hy0 k h).weak fun i h=>by rcases h with h | h;exact .inl h;exact .inr (h)⟩
 have HC0:=Lib.hid hb0
 clear hb0 hn0 hy0
 (refine hK.out _ _ (fun _=>HB0.out) ?_;clear hK K';try simp only [pQ,pN,pZ,pS])
 have hS7:=HB0.out
 (refine on 15 ?_;intro o ho K' hK;simp at ho;subst ho;go_simp)
 go_at_call 31
 (with_reducible refine (C1.out _ HB0.out).mono ?_)
 rintro en v1 ⟨x1,rfl,hb1,hn1,hy1⟩
 have HB1:Hid (Below w.heap.size w v1):=HB0.out.trans (hb1.mono HB0.out.size)
 have HY1:Hid ((typeOf ns m=none→x1=.pointer none)∧(∀ k,typeOf ns m=some k→Rep (fun i=>F i∨w.heap.size≤i) v1 (encK k) x1)):=⟨hn1,fun k h=>(hy1 k h).weak fun i h=>by rcases h with h | h;exact .inl h;exact .inr (Nat.le_trans HB0.out.size h)⟩
 have HC1:=Lib.hid hb1
 clear hb1 hn1 hy1
 (refine hK.out _ _ (fun _=>HB1.out) ?_;clear hK K';try simp only [pQ,pN,pZ,pS])
 have hS15:=HB1.out
 (refine on 23 ?_;intro o ho K' hK;simp at ho;subst ho;go_simp)
 go_at_call 31
 (with_reducible refine (C2.out _ HB1.out).mono ?_)
 rintro en v2 ⟨x2,rfl,hb2,hn2,hy2⟩
 have HB2:Hid (Below w.heap.size w v2):=HB1.out.trans (hb2.mono HB1.out.size)
 have HY2:Hid ((typeOf ns n=none→x2=.pointer none)∧(∀ k,typeOf ns n=some k→Rep (fun i=>F i∨w.heap.size≤i) v2 (encK k) x2)):=⟨hn2,fun k h=>(hy2 k h).weak fun i h=>by rcases h with h | h;exact .inl h;exact .inr (Nat.le_trans HB1.out.size h)⟩
 have HC2:=Lib.hid hb2
 clear hb2 hn2 hy2
 (refine hK.out _ _ (fun _=>HB2.out) ?_;clear hK K';try simp only [pQ,pN,pZ,pS])
 have hS23:=HB2.out
 refine tk [24,25,26] hS23 ?_
 (intro d hd;simp [tkD] at hd;subst hd;simp only [tks,pQ,pZ,pS])
 iterate 3 (refine ⟨?_,?_,?_⟩;rotate_left;· (intro oi ho;simp at ho;subst ho;refine Or.inl ⟨by rfl,fun w' hw'=>?_⟩;go_simp;try with_reducible rfl))
 refine wpAnyS_done (by kernel_rfl) (NoPanic.normal ?_) _
 clear t3 C0 C1 C2
 cases hl:typeOf ns l with
 | none =>
   obtain rfl:=HY0.out.1 hl
   have HQ:=Lib.hid (show typeOf ns (.ite l m n)=none by rw [typeOf,hl];rfl)
   clear hl
   go_wp2_with fail
   go_ret
   exact KindPostT.no HQ.out HB2.out
 | some a =>
   have hra:=Rep.below (F':=fun i=>F i∨w.heap.size≤i) HC2.out (fun _ h=>h) (Rep.below (F':=fun i=>F i∨w.heap.size≤i) HC1.out (fun _ h=>h) (HY0.out.2 a hl))
   obtain ⟨ab,ak,e,_,hab,has⟩:=encK_open hra
   subst e
   cases hm:typeOf ns m with
   | none =>
     obtain rfl:=HY1.out.1 hm
     have HQ:=Lib.hid (show typeOf ns (.ite l m n)=none by rw [typeOf,hl,hm];rfl)
     clear hl hm hra hab has
     go_wp2_with fail
     go_ret
     exact KindPostT.no HQ.out HB2.out
   | some b =>
     have hrb:=Rep.below (F':=fun i=>F i∨w.heap.size≤i) HC2.out (fun _ h=>h) (HY1.out.2 b hm)
     obtain ⟨bb,_,e,_⟩:=encK_open hrb
     subst e
     cases hn:typeOf ns n with
     | none =>
       obtain rfl:=HY2.out.1 hn
       have HQ:=Lib.hid (show typeOf ns (.ite l m n)=none by rw [typeOf,hl,hm,hn];rfl)
       clear hl hm hn hra hab has hrb
       go_wp2_with fail
       go_ret
       exact KindPostT.no HQ.out HB2.out
     | some c =>
       have hrc:=HY2.out.2 c hn
       obtain ⟨cb,_,e,_⟩:=encK_open hrc
       subst e
       have hb15:=type_small m ns b HN.out hm
       have hc15:=type_small n ns c HN.out hn
       have q0:v2.cell? ⟨ab,0,none⟩=some ak:=by simp [World.cell?,hab]
       obtain ⟨aa,ac,rfl,_,_,_⟩:=Rep_sl1_open has
       cases hts:a.args with
       | cons d ds =>
         have hd:((((d::ds).length:Nat):Int) == 0)=false:=by rw [beq_eq_false_iff_ne];simp;omega
         rw [hts] at q0
         generalize (d::ds).length=L at *
         have HQ:=Lib.hid (show typeOf ns (.ite l m n)=none by rw [typeOf,hl,hm,hn,Option.bind_some,Option.bind_some,Option.bind_some,if_neg (by rw [hts];simp)])
         clear hl hm hn hra hab has hrb hrc hts
         go_wp2_with fail
         go_ret
         exact KindPostT.no HQ.out HB2.out
       | nil =>
         rw [hts] at q0
         have CS:=Lib.hid (same_any _ b c _ _ v2 hrb hrc hb15 hc15)
         have CA:=Lib.hid (fun wz (h:Below v2.heap.size v2 wz)=>atoms_any _ wz 15 b hb15 (by unfold Lim;omega) _ (Rep.below (F':=fun i=>F i∨w.heap.size≤i) h (fun _ h=>h) hrb))
         have HR:=Lib.hid hrb
         by_cases he:textT b=textT c
         ·have e0:(textT b == textT c)=true:=by rw [beq_iff_eq];exact he
          rw [e0] at CS
          have HT:=Lib.hid (show typeOf ns (.ite l m n)=some b by rw [typeOf,hl,hm,hn,Option.bind_some,Option.bind_some,Option.bind_some,if_pos ⟨hts,he⟩])
          have hA:¬ (15:Int)<(atomsT b:Int):=by omega
          clear hl hm hn hra hab has hrb hrc hts he e0 hb15 hc15
          go_wp2_with fail
          (with_reducible refine CS.out.mono ?_)
          rintro en w3 ⟨rfl,hb3⟩
          have HB3:=Lib.hid (HB2.out.trans (hb3.mono HB2.out.size))
          have HR3:=Lib.hid (Rep.below (F':=fun i=>F i∨w.heap.size≤i) hb3 (fun _ h=>h) HR.out)
          have CA3:=Lib.hid (CA.out w3 hb3)
          clear hb3
          go_wp2_with fail
          (with_reducible refine CA3.out.mono ?_)
          rintro en w4 ⟨rfl,e⟩
          subst w4
          go_wp2_with fail
          go_ret
          exact KindPostT.yes HT.out HB3.out HR3.out
         ·have e0:(textT b == textT c)=false:=by rw [beq_eq_false_iff_ne];exact he
          rw [e0] at CS
          have HT:=Lib.hid (show typeOf ns (.ite l m n)=none by rw [typeOf,hl,hm,hn,Option.bind_some,Option.bind_some,Option.bind_some,if_neg (fun h=>he h.2)])
          clear hl hm hn hra hab has hrb hrc hts he e0 hb15 hc15
          go_wp2_with fail
          (with_reducible refine CS.out.mono ?_)
          rintro en w3 ⟨rfl,hb3⟩
          have HB3:=Lib.hid (HB2.out.trans (hb3.mono HB2.out.size))
          clear hb3
          go_wp2_with fail
          go_ret
          exact KindPostT.no HT.out HB3.out
theorem typed_any (N:Nat):TypedSaid N:=by
 induction N with
 | zero=>exact fun F t ns tv lv w h=>by have:=sizeTm_pos t;omega
 | succ N ih =>
   intro F t ns tv lv w h hp
   cases t with
   | nm x=>exact typed_nm F x ns tv lv w hp
   | wd u=>exact typed_wd F u ns tv lv w hp
   | lam x k t=>exact typed_lam N ih F x k t ns tv lv w h hp
   | app m n=>exact typed_app N ih F m n ns tv lv w h hp
   | ite l m n=>exact typed_ite N ih F l m n ns tv lv w h hp
end Go.Proofs.YtapjaflnmklmeaaGreatDoor

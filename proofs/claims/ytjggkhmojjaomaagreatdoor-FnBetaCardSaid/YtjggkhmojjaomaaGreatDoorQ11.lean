/- Walks of functions that the statement reaches, and plain words. No conditions. -/
import Derived.Test.YtjggkhmojjaomaaGreatDoorQ3
import Derived.Test.YtjggkhmojjaomaaGreatDoorQ10
set_option linter.unusedVariables false
set_option linter.unusedSimpArgs false
set_option maxHeartbeats 4000000
namespace Go.Proofs.YtjggkhmojjaomaaGreatDoor
open Go.RowKit
theorem Tryz.infoBound:(Tryz.prog.info? 99).map (fun i=>(i.zero,i.size,i.bytes))=some (some (.agg #[str [],.pointer none]),2,24):=by kernel_rfl
def jA:List Nm->List DV
 | []=>[]
 | p::ps=>.val (str p.1)::jS p.2::jA ps
theorem gH (a b:List Nm):jA (a++b)=jA a++jA b:=by
 induction a with
 | nil=>rfl
 | cons p ps ih=>rw [List.cons_append,jA,jA,ih];rfl
theorem encNms_at:∀ (ns:List Nm) (i:Nat) (p:Nm),ns[i]? = some p->(jA ns)[i*2]? = some (.val (str p.1))/\(jA ns)[i*2+1]? = some (jS p.2)
 | [],i,p,h=>by simp at h
 | q::ps,0,p,h=>by simp at h;subst h;rw [jA];exact ⟨rfl,rfl⟩
 | q::ps,i+1,p,h=>by
   have:=encNms_at ps i p (by simpa using h)
   rw [jA,show (i+1)*2=i*2+1+1 from by omega,show i*2+1+1+1=(i*2+1)+1+1 from rfl]
   simpa using this
theorem oneNm {F:Nat->Prop} {w:World}:∀ (ns:List Nm) (us:List Value),zX F w (jA ns) us->∀ u∈us,u.oneCell'=true
 | [],us,h,u,hu=>by rw [jA,zC] at h;subst h;simp at hu
 | p::ps,us,h,u,hu=>by
   rw [jA,zQ] at h
   obtain ⟨v1,vs,rfl,h1,h2⟩:=h
   rw [zQ] at h2
   obtain ⟨v2,vs2,rfl,h3,h4⟩:=h2
   rw [zH] at h1
   subst h1
   obtain ⟨b,_,rfl,_⟩:=kK h3
   rcases List.mem_cons.1 hu with rfl | hu
   ·simp [str,Value.oneCell']
   rcases List.mem_cons.1 hu with rfl | hu
   ·simp [Value.oneCell']
   ·exact oneNm ps vs2 h4 u hu
def AtNm (F:Nat->Prop) (w:World) (ns:List Nm) (a:Option Addr) (k:Nat):Prop :=
 ∃ b o x t kb,a=some ⟨b,o,none⟩/\b<w.heap.size/\ns[k]? = some (x,t)/\w.cell? ⟨b,o+k*2,none⟩=some (str x)/\w.cell? ⟨b,o+k*2+1,none⟩=some (.pointer (some ⟨kb,0,none⟩))/\Rep F w (jS t) (.pointer (some ⟨kb,0,none⟩))
theorem AtNms.of {F:Nat->Prop} {w:World} {ns:List Nm} {v:Value} (h:Rep F w (.sl 99 2 ns.length (jA ns)) v):∃ a c,v=.slice a ns.length c/\ns.length<=c/\∀ k,k<ns.length->AtNm F w ns a k:=by
 obtain ⟨hl,a,c,rfl,hn,hz,h⟩:=zp.1 h
 refine ⟨a,c,rfl,hn,fun k hk=>?_⟩
 rcases h with h | ⟨b,o,cs,fr,rfl,hb,hc,hr⟩
 ·omega
 ·obtain ⟨⟨x,t⟩,hp⟩:∃ p,ns[k]? = some p:=⟨ns[k],by simp [hk]⟩
  obtain ⟨g1,g2⟩:=encNms_at ns k (x,t) hp
  obtain ⟨v1,e1,r1⟩:=zX.at hr g1
  obtain ⟨v2,e2,r2⟩:=zX.at hr g2
  rw [zH] at r1
  subst r1
  obtain ⟨kb,_,rfl,_⟩:=kK r2
  have fM:∀ j u,((cs.toList.drop o).take (ns.length*2))[j]? = some u->w.cell? ⟨b,o+j,none⟩=some u:=by
   intro j u hu
   rw [List.getElem?_take] at hu
   split at hu
   ·rw [List.getElem?_drop] at hu
    simp only [World.cell?,hc]
    simpa using hu
   ·simp at hu
  exact ⟨b,o,x,t,kb,rfl,zZ hc,hp,fM _ _ e1,by have:=fM _ _ e2;rwa [<- Nat.add_assoc] at this,r2⟩
def dz:Option Nat->Int
 | some i=>i
 | none=>-1
theorem d6 (t:Tm):0<zM t:=by cases t <;> simp only [zM] <;> omega
def FoundAt (ns:List Nm) (x:Bs) (k:Nat):Prop:=q_ ns x=ke ns x k
theorem find_any (F:Nat->Prop) (ns:List Nm) (x:Bs) (lv:Value) (w:World) (hn:ns.length<=1000) (hr:Rep F w (.sl 99 2 ns.length (jA ns)) lv) :
 Calls Tryz.prog 49 #[lv,str x] w fun en w'=>en=.returned (.int .i64 (dz (q_ ns x)))/\w'=w:=by
 obtain ⟨a,c,rfl,hc,fM⟩:=AtNms.of hr
 have AT:=fX fM
 clear fM hr
 go_enter Tryz.func49,Tryz.ntmps49
 go_wp2_with fail
 go_loop [5] (fun i=>∃ k:Nat,k<=ns.length/\i=.int .i64 ((k:Int)-1)/\FoundAt ns x k) (fun i=>(intOf i+1).toNat)
 case atStart=>exact ⟨ns.length,fP _,rfl,rfl⟩
 case round =>
  obtain ⟨k,hk,rfl,hf⟩:=hrel
  cases k with
  | zero =>
    have hz:((0:Nat):Int)-1 = -1:=rfl
    rw [hz]
    go_wp2_with fail
    go_ret
    refine ⟨?_,rfl⟩
    rw [show q_ ns x=none from hf];rfl
  | succ j =>
    have hj:j<ns.length:=by omega
    rw [show ((j+1:Nat):Int)-1=(j:Int) from by omega]
    obtain ⟨b,o,y,t,kb,e,hb,hp,h1,h2,_⟩:=AT.out j hj
    subst e
    have JA:(j:Int)<(ns.length:Int):=by omega
    have ff:ke ns x (j+1)=if y=x then some j else ke ns x j:=by
     rw [ke,hp];simp
    by_cases aI:y=x
    ·subst aI
     have q:(y == y)=true:=by simp
     have HS:=fX (show q_ ns y=some j by rw [show q_ ns y=ke ns y (j+1) from hf,ff,if_pos rfl])
     clear hf ff hp h2
     go_wp2_with fail
     go_ret
     exact ⟨by rw [HS.out];rfl,rfl⟩
    ·have q:(y == x)=false:=by rw [beq_eq_false_iff_ne];exact aI
     have HS:=fX (show q_ ns x=ke ns x j by rw [show q_ ns x=ke ns x (j+1) from hf,ff,if_neg aI])
     clear hf ff hp h2 aI
     go_wp2_with fail
     go_round
     case rel=>exact ⟨j,by omega,by go_num,HS.out⟩
     case measure=>simp only [intOf];omega
theorem same_any (F:Nat->Prop) (a b:Ty) (va vb:Value) (w:World) (ha:Rep F w (jS a) va) (hb:Rep F w (jS b) vb) (nH:zV a<=15) (sU:zV b<=15) :
 Calls Tryz.prog 24 #[va,vb] w fun en w'=>en=.returned (.bool (zN a == zN b))/\Below w.heap.size w w':=by
 obtain ⟨ab,_,rfl,_⟩:=kK ha
 obtain ⟨bb,_,rfl,_⟩:=kK hb
 have C1:=fX (cG 15 a nH (by omega) F w _ ha)
 have C2:=fX (fun w1 (h:Below w.heap.size w w1)=>cG 15 b sU (by omega) F w1 _ (Rep.below (F':=F) h (fun _ h=>h) hb))
 clear ha hb
 go_enter Tryz.func24,Tryz.ntmps24
 go_wp2_with fail
 (with_reducible refine C1.out.mono ?_)
 rintro en w1 ⟨rfl,fA⟩
 have fb:=fX fA;clear fA
 go_wp2_with fail
 (with_reducible refine (C2.out w1 fb.out).mono ?_)
 rintro en w2 ⟨rfl,fN⟩
 have ft:=fX (zzT fb.out fN);clear fN
 go_wp2_with fail
 go_ret
 exact ⟨rfl,ft.out⟩
def kU (F:Nat->Prop) (w:World) (o:Option Ty) (en:Ending) (w':World):Prop :=
 ∃ v,en=.returned v/\Below w.heap.size w w'/\(o=none->v=.pointer none)/\(∀ k,o=some k->Rep (fun i=>F i\/w.heap.size<=i) w' (jS k) v)
structure TyPre (F:Nat->Prop) (t:Tm) (ns:List Nm) (tv lv:Value) (w:World):Prop where
 rt:Rep F w (jX t) tv
 rl:Rep F w (.sl 99 2 ns.length (jA ns)) lv
 ok:uZ t
 n15:∀ a∈kinds ns,zV a<=15
 room:ns.length+zM t<=1000
def gZ (N:Nat):Prop:=∀ (F:Nat->Prop) (t:Tm) (ns:List Nm) (tv lv:Value) (w:World),zM t<=N->TyPre F t ns tv lv w->Calls Tryz.prog 20 #[tv,lv] w (kU F w (typeOf ns t))
theorem xS {F:Nat->Prop} {w:World} (hF:F w.heap.size):Rep F (w.alloc (.cells #[.slice none 0 0] 102)) (jS (.mk [])) (.pointer (some ⟨w.heap.size,0,none⟩)) :=
 p7 hF (zG _ _) (zp.2 ⟨rfl,none,0,rfl,fP _,fun _=>rfl,.inl rfl⟩)
theorem v7.alloc {w:World} {size n:Nat} {v:Value} {xs:List Value} (h:v7 size v n xs w) (o:Obj):v7 size v n xs (w.alloc o) :=
 ⟨h.1,h.2.elim (fun ⟨b,e,hc⟩=>.inl ⟨b,e,fun j u hj=>zJ (hc j u hj)⟩) .inr⟩
theorem kU.no {F:Nat->Prop} {w w':World} {o:Option Ty} (ho:o=none) (hb:Below w.heap.size w w'):kU F w o (.returned (.pointer none)) w' :=
 ⟨_,rfl,hb,fun _=>rfl,fun k h=>by rw [ho] at h;simp at h⟩
theorem kU.yes {F:Nat->Prop} {w w':World} {o:Option Ty} {k:Ty} {v:Value} (ho:o=some k) (hb:Below w.heap.size w w') (hr:Rep (fun i=>F i\/w.heap.size<=i) w' (jS k) v):kU F w o (.returned v) w' :=
 ⟨_,rfl,hb,fun h=>by rw [ho] at h;simp at h,fun k' h=>by rw [ho] at h;obtain rfl:=Option.some.inj h;exact hr⟩
set_option maxRecDepth 100000 in
theorem typed_nm (F:Nat->Prop) (x:Bs) (ns:List Nm) (tv lv:Value) (w:World) (hp:TyPre F (.nm x) ns tv lv w):Calls Tryz.prog 20 #[tv,lv] w (kU F w (typeOf ns (.nm x))):=by
 obtain ⟨tb,kv,slv,rfl,_,fE,_,_,_⟩:=jT hp.rt
 simp only [yd,yr] at fE
 have t0:w.cell? ⟨tb,0,none⟩=some (str []):=by simp [World.cell?,fE]
 have t1:w.cell? ⟨tb,1,none⟩=some (str x):=by simp [World.cell?,fE]
 have hn:ns.length<=1000:=by have:=hp.room;omega
 have CF:=find_any F ns x lv w hn hp.rl
 obtain ⟨la,lc,rfl,Hd,fM⟩:=AtNms.of hp.rl
 have AT:=fX fM
 have HP:=fX hp
 clear hp fM fE
 cases hq:q_ ns x with
 | none =>
   have HT:=fX (show typeOf ns (.nm x)=none by rw [typeOf,hq];rfl)
   rw [hq] at CF
   simp only [dz] at CF
   have CF':=fX CF
   clear hq CF Hd
   go_enter Tryz.func20,Tryz.ntmps20
   go_wp2_with fail
   (with_reducible refine CF'.out.mono ?_)
   rintro en w1 ⟨rfl,e⟩
   subst w1
   go_wp2_with fail
   go_ret
   exact kU.no HT.out (fH _ _)
 | some i =>
   obtain ⟨fT,k,hk⟩:=findAt_lt hq
   obtain ⟨b,o,y,t,kb,e,hb,FX,h1,h2,mz⟩:=AT.out i fT
   subst e
   have fu:=HP.out.n15 t (List.mem_of_getElem? (uK FX))
   have HT:=fX (show typeOf ns (.nm x)=some t by rw [typeOf,hq,Option.bind_some,FX];rfl)
   have CA:=fX (uS F w 15 t fu (by unfold Lim;omega) _ mz)
   have HR:=fX mz
   rw [hq] at CF
   simp only [dz] at CF
   have CF':=fX CF
   have hi:(i:Int)<(ns.length:Int):=by omega
   have hA:¬ (15:Int)<(zV t:Int):=by omega
   clear hq CF Hd hk FX h1 mz hb
   go_enter Tryz.func20,Tryz.ntmps20
   go_wp2_with fail
   (with_reducible refine CF'.out.mono ?_)
   rintro en w1 ⟨rfl,e⟩
   subst w1
   go_wp2_with fail
   (with_reducible refine CA.out.mono ?_)
   rintro en w1 ⟨rfl,e⟩
   subst w1
   go_wp2_with fail
   go_ret
   exact kU.yes HT.out (fH _ _) (HR.out.weak fun _ h=>.inl h)
set_option maxRecDepth 100000 in
theorem typed_wd (F:Nat->Prop) (u:Bs) (ns:List Nm) (tv lv:Value) (w:World) (hp:TyPre F (.wd u) ns tv lv w):Calls Tryz.prog 20 #[tv,lv] w (kU F w (typeOf ns (.wd u))):=by
 obtain ⟨tb,kv,slv,rfl,_,fE,_,_,_⟩:=jT hp.rt
 simp only [yd,yr] at fE
 have t0:w.cell? ⟨tb,0,none⟩=some (str u):=by simp [World.cell?,fE]
 have fa:qj u=true:=hp.ok
 simp only [qj,Bool.or_eq_true,beq_iff_eq] at fa
 obtain ⟨la,lc,rfl,_,_⟩:=AtNms.of hp.rl
 have HT:=fX (show typeOf ns (.wd u)=some (.mk []) by rw [typeOf])
 have CA:=fX (uS (fun _=>True) (w.alloc (.cells #[.slice none 0 0] 102)) 15 (.mk []) (by decide) (by unfold Lim;omega) _ (xS trivial))
 have eA:((zV (.mk []):Nat):Int)=1:=by decide
 rw [eA] at CA
 clear hp fE eA
 rcases fa with (rfl | rfl) | rfl
 ·go_enter Tryz.func20,Tryz.ntmps20
  go_wp2_with fail
  (with_reducible refine CA.out.mono ?_)
  rintro en w1 ⟨rfl,e⟩
  subst w1
  go_wp2_with fail
  go_ret
  exact kU.yes HT.out ((fH _ _).alloc (fP _) _) (xS (.inr (fP _)))
 ·go_enter Tryz.func20,Tryz.ntmps20
  go_wp2_with fail
  (with_reducible refine CA.out.mono ?_)
  rintro en w1 ⟨rfl,e⟩
  subst w1
  go_wp2_with fail
  go_ret
  exact kU.yes HT.out ((fH _ _).alloc (fP _) _) (xS (.inr (fP _)))
 ·go_enter Tryz.func20,Tryz.ntmps20
  go_wp2_with fail
  (with_reducible refine CA.out.mono ?_)
  rintro en w1 ⟨rfl,e⟩
  subst w1
  go_wp2_with fail
  go_ret
  exact kU.yes HT.out ((fH _ _).alloc (fP _) _) (xS (.inr (fP _)))
set_option maxRecDepth 100000 in
theorem typed_lam (N:Nat) (ih:gZ N) (F:Nat->Prop) (x:Bs) (k:Ty) (t:Tm) (ns:List Nm) (tv lv:Value) (w:World) (hN:zM (.lam x k t)<=N+1) (hp:TyPre F (.lam x k t) ns tv lv w):Calls Tryz.prog 20 #[tv,lv] w (kU F w (typeOf ns (.lam x k t))):=by
 obtain ⟨tb,kv,slv,rfl,_,fE,_,i7,tg⟩:=jT hp.rt
 have hk:=i7 k rfl
 obtain ⟨kb,_,e,_⟩:=kK hk
 subst e
 obtain ⟨pa,pc,rfl,_,_,fM⟩:=zP tg
 simp only [yd,yr,jq] at fE
 obtain ⟨sD,sB,Ii,Ij,BF,_,ll,lV,lg,tw⟩:=fM 0 (by simp [ze])
 simp only [ze,List.map_cons,List.map_nil,List.getElem?_cons_zero,List.getElem?_cons_succ,Option.some.injEq] at lV
 subst lV
 obtain ⟨lQ,e0⟩:=qW tw
 subst e0
 subst BF
 have t0:w.cell? ⟨tb,0,none⟩=some (str [108,97,109]):=by simp [World.cell?,fE]
 have t1:w.cell? ⟨tb,1,none⟩=some (str x):=by simp [World.cell?,fE]
 have t2:w.cell? ⟨tb,2,none⟩=some (.pointer (some ⟨kb,0,none⟩)):=by simp [World.cell?,fE]
 have t3:w.cell? ⟨tb,3,none⟩=some (.slice (some ⟨sD,sB,none⟩) 1 pc):=by simp [World.cell?,fE,ze]
 have fo:=hp.room
 have fa:=hp.ok
 rw [zM] at fo hN
 have hak:=kh k
 have CK:=fX (uS F w 1000 k (by omega) (by unfold Lim;omega) _ hk)
 have hlen:ns.length<=999:=by omega
 by_cases fu:15<zV k
 ·have HT:=fX (show typeOf ns (.lam x k t)=none by rw [typeOf,if_pos fu])
  have hA:(15:Int)<(zV k:Int):=by omega
  obtain ⟨la,lc,rfl,_,_⟩:=AtNms.of hp.rl
  clear hp fM tg hk i7 fE fu tw lg fa hN
  go_enter Tryz.func20,Tryz.ntmps20
  go_wp2_with fail
  (with_reducible refine CK.out.mono ?_)
  rintro en w1 ⟨rfl,e⟩
  subst w1
  go_wp2_with fail
  go_ret
  exact kU.no HT.out (fH _ _)
 have hA:¬ (15:Int)<(zV k:Int):=by omega
 have hT:typeOf ns (.lam x k t)=(typeOf (ns++[(x,k)]) t).bind fun b=>if 15<zV (zd k b) then none else some (zd k b):=by rw [typeOf,if_neg fu]
 have HT:=fX hT
 obtain ⟨xs,il,mA⟩:∃ xs,zX F w (jA ns) xs/\∃ a c,lv=.slice a ns.length c/\v7 2 (.slice a ns.length ns.length) ns.length xs w:=by
  obtain ⟨a,c,e,_,_⟩:=AtNms.of hp.rl
  have hr:=hp.rl
  rw [e] at hr
  obtain ⟨xs,h1,h2⟩:=v7.ofRep hr (oneNm ns)
  exact ⟨xs,h1,a,c,e,h2⟩
 obtain ⟨la,lc,rfl,mA⟩:=mA
 have Hd:ns.length<=lc:=by obtain ⟨a,c,e,h,_⟩:=AtNms.of hp.rl;simp only [Value.slice.injEq] at e;obtain ⟨_,_,rfl⟩:=e;exact h
 have SX:Hid (∀ w',Below w.heap.size w w'->w'.cell? ⟨tb,1,none⟩=some (str x)/\w'.cell? ⟨tb,2,none⟩=some (.pointer (some ⟨kb,0,none⟩))/\w'.cell? ⟨tb,3,none⟩=some (.slice (some ⟨sD,sB,none⟩) 1 pc)/\w'.cell? ⟨sD,sB,none⟩=some (.pointer (some ⟨lQ,0,none⟩))):=by
  show ∀ w',_->_
  intro w' fx
  exact ⟨(fx.cell (fG w _ t1)).trans t1,(fx.cell (fG w _ t2)).trans t2,(fx.cell (fG w _ t3)).trans t3,(fx.cell ll).trans lg⟩
 have HX:=fX (fW il mA)
 have HP:=fX (fW hp (fW hk tw))
 have IH:=fX ih
 have HK:=fX (fW fu (fW fa hN))
 have ox:ns.length+1<=maxLen:=by unfold maxLen;omega
 have nA:(ns.length+1)*24<=140737488355328:=by omega
 clear hp fM tg hk i7 fE fu tw il mA fa ih hN hT
 go_enter Tryz.func20,Tryz.ntmps20
 go_wp2_with fail
 (with_reducible refine CK.out.mono ?_)
 rintro en w1 ⟨rfl,e⟩
 subst w1
 go_wp2_with fail
 refine wp_region_noPanic ?_
 refine zB (fun w'=>Below w.heap.size w w') (fun _=>false) (by kernel_rfl) ?_
 have fF:(fun w'=>Below w.heap.size w w') w.drew:=Below.drew (fH _ _)
 refine tk [0,1,2,3,4,5,6,7,8,9,10,11,12,13,14,15,16,17,18,19,20] fF ?_
 (intro d hd;simp [tkD] at hd;subst hd;simp only [tks,pQ,pZ,pS])
 iterate 21 (refine ⟨?_,?_,?_⟩;rotate_left;· (intro oi ho;simp at ho;subst ho;refine Or.inl ⟨by rfl,fun w' fI=>?_⟩;obtain ⟨e0,e1,e2,e3⟩:=SX.out w' fI;go_simp;try with_reducible rfl))
 (refine on 21 ?_;intro o ho K' hK;simp at ho;subst ho;go_simp)
 (refine hK.out _ _ (fun _=>fF.alloc (fP _) _) ?_;clear hK K';try simp only [pQ,pN,pZ,pS])
 (refine on 22 ?_;intro o ho K' hK;simp at ho;subst ho)
 have DR:zq 2 (.slice (some ⟨w.heap.size,0,none⟩) 1 1) 1 [str x,.pointer (some ⟨kb,0,none⟩)] (w.drew.alloc (.cells #[str x,.pointer (some ⟨kb,0,none⟩)] 99)):=zq.lit1 #[str x,.pointer (some ⟨kb,0,none⟩)] rfl (by simp [str,Value.oneCell']) _ (by rfl)
 have sJ:v7 2 (.slice la ns.length ns.length) ns.length xs (w.drew.alloc (.cells #[str x,.pointer (some ⟨kb,0,none⟩)] 99)):=HX.out.2.drew.alloc _
 refine xg (by rfl) _ _ _ (by rfl) 99 (.agg #[str [],.pointer none]) 2 24 Tryz.underlying93 Tryz.infoBound rfl (.slice la ns.length ns.length) ns.length xs (by rfl) sJ _ 1 _ (by rfl) DR (by omega) ox nA ?_
 intro c7 w7 fm fS
 have e8:(w.alloc (.cells #[str x,.pointer (some ⟨kb,0,none⟩)] 99)).drew.heap.size=w.heap.size+1:=by simp
 rw [e8] at fm
 have nI:Below w.heap.size w w7:=(fF.alloc (fP _) _).trans (fS.mono (fF.alloc (fP _) _).size)
 (refine hK.out _ _ (fun _=>nI) ?_;clear hK K';try simp only [pQ,pN,pZ,pS])
 (refine on 23 ?_;intro o ho K' hK;simp at ho;subst ho)
 have sg:Rep (fun i=>F i\/w.heap.size<=i) w7 (.sl 99 2 (ns++[(x,k)]).length (jA (ns++[(x,k)]))) (.slice (some ⟨w.heap.size+1,0,none⟩) (ns.length+1) c7):=by
  rw [List.length_append,gH]
  refine fm.rep (fun g hg=>.inr (by simp [Value.ownBlock] at hg;subst hg;exact Nat.le_succ _)) ?_
  exact (zX.below nI (fun _ h=>.inl h) HX.out.1).append (zQ.2 ⟨_,_,rfl,zH.2 rfl,zQ.2 ⟨_,_,rfl,Rep.below nI (fun _ h=>.inl h) HP.out.2.1,zC.2 rfl⟩⟩)
 have CT:=fX (IH.out (fun i=>F i\/w.heap.size<=i) t (ns++[(x,k)]) (.pointer (some ⟨lQ,0,none⟩)) _ w7 (by have:=HK.out.2.2;omega) ⟨Rep.below nI (fun _ h=>.inl h) HP.out.2.2,sg,HK.out.2.1.2,(fun a ha=>by
  rw [jG] at ha
  rcases List.mem_append.1 ha with ha | ha
  ·exact HP.out.1.n15 a ha
  ·simp at ha;subst ha;have:=HK.out.1;omega),by rw [List.length_append];simp;omega⟩)
 have Ba:=fX nI
 clear sg fm fS nI
 go_simp
 go_at_call 20
 (with_reducible refine CT.out.mono ?_)
 rintro en w9 ⟨bv,rfl,mj,oD,oQ⟩
 have Bq:=fX (zzT Ba.out mj)
 have HY:=fX (fW oD oQ)
 have z7:=Ba.out.size
 clear mj oD oQ
 (refine hK.out _ _ (fun _=>Bq.out) ?_;clear hK K';try simp only [pQ,pN,pZ,pS])
 (refine on 24 ?_;intro o ho K' hK;simp at ho;subst ho;go_simp)
 (refine hK.out _ _ (fun _=>Bq.out) ?_;clear hK K';try simp only [pQ,pN,pZ,pS])
 refine zU (by kernel_rfl) (NoPanic.normal ?_) _
 cases hq:typeOf (ns++[(x,k)]) t with
 | none =>
   obtain rfl:=HY.out.1 hq
   have HN:=fX (show typeOf ns (.lam x k t)=none by rw [HT.out,hq];rfl)
   clear hq
   go_wp2_with fail
   go_ret
   exact kU.no HN.out Bq.out
 | some b =>
   have mn:=HY.out.2 b hq
   obtain ⟨bb,_,e,_⟩:=kK mn
   subst e
   have sU:zV b<=15:=k9 t _ b (fun a ha=>by
    rw [jG] at ha
    rcases List.mem_append.1 ha with ha | ha
    ·exact HP.out.1.n15 a ha
    ·simp at ha;subst ha;have:=HK.out.1;omega) hq
   have hbl:=uT sU
   have CW:=fX (arrow_any (fun i=>F i\/w.heap.size<=i) k b (.pointer (some ⟨kb,0,none⟩)) (.pointer (some ⟨bb,0,none⟩)) w9 (Rep.below Bq.out (fun _ h=>.inl h) HP.out.2.1) (mn.weak fun i h=>by rcases h with h | h;exact h;exact .inr (by omega)) (show _<=_ by omega))
   have HQ:=fX (show typeOf ns (.lam x k t)=if 15<zV (zd k b) then none else some (zd k b) by rw [HT.out,hq];rfl)
   obtain ⟨e0,e1,e2,e3⟩:=SX.out w9 Bq.out
   have lm:zV (zd k b)<=1000:=by
    have h1:=HK.out.1
    have:zV (zd k b)=1+zV k+zV b:=cZ k b
    omega
   clear hq mn
   go_wp2_with fail
   (with_reducible refine CW.out.mono ?_)
   rintro en a_ ⟨av,rfl,sA,lG⟩
   have K9:=fX (zzT Bq.out sA)
   have Ai:Rep (fun i=>F i\/w.heap.size<=i) a_ (jS (zd k b)) av:=lG.weak fun i h=>by rcases h with h | h;exact h;exact .inr (by have:=Bq.out.size;omega)
   obtain ⟨ab,_,e,_⟩:=kK Ai
   subst e
   have CA:=fX (uS _ a_ 1000 (zd k b) lm (by unfold Lim;omega) _ Ai)
   have HR:=fX Ai
   clear sA lG Ai e0 e1 e2 e3
   by_cases fu:15<zV (zd k b)
   ·have hA2:(15:Int)<(zV (zd k b):Int):=by omega
    have HN:=fX (show typeOf ns (.lam x k t)=none by rw [HQ.out,if_pos fu])
    generalize zV (zd k b)=A at *
    clear fu
    go_wp2_with fail
    (with_reducible refine CA.out.mono ?_)
    rintro en sP ⟨rfl,e⟩
    subst sP
    go_wp2_with fail
    go_ret
    exact kU.no HN.out K9.out
   ·have hA2:¬ (15:Int)<(zV (zd k b):Int):=by omega
    have HN:=fX (show typeOf ns (.lam x k t)=some (zd k b) by rw [HQ.out,if_neg fu])
    generalize zV (zd k b)=A at *
    clear fu
    go_wp2_with fail
    (with_reducible refine CA.out.mono ?_)
    rintro en sP ⟨rfl,e⟩
    subst sP
    go_wp2_with fail
    go_ret
    exact kU.yes HN.out K9.out HR.out
set_option maxRecDepth 100000 in
theorem typed_app (N:Nat) (ih:gZ N) (F:Nat->Prop) (m n:Tm) (ns:List Nm) (tv lv:Value) (w:World) (hN:zM (.app m n)<=N+1) (hp:TyPre F (.app m n) ns tv lv w):Calls Tryz.prog 20 #[tv,lv] w (kU F w (typeOf ns (.app m n))):=by
 obtain ⟨tb,kv,slv,rfl,_,fE,_,_,tg⟩:=jT hp.rt
 obtain ⟨pa,pc,rfl,_,_,fM⟩:=zP tg
 simp only [yd,yr,vT] at fE
 obtain ⟨sD,sB,Ii,Ij,BF,_,ll,lV,lg,tw⟩:=fM 0 (by simp [ze])
 simp only [ze,List.map_cons,List.map_nil,List.getElem?_cons_zero,List.getElem?_cons_succ,Option.some.injEq] at lV
 subst lV
 obtain ⟨lQ,e0⟩:=qW tw
 subst e0
 subst BF
 obtain ⟨fg,fp,pu1,iz,t_,_,mt,sH,sC,rz⟩:=fM 1 (by simp [ze])
 simp only [ze,List.map_cons,List.map_nil,List.getElem?_cons_zero,List.getElem?_cons_succ,Option.some.injEq] at sH
 subst sH
 obtain ⟨Bx,e1⟩:=qW rz
 subst e1
 simp only [Option.some.injEq,Addr.mk.injEq,and_true] at t_
 obtain ⟨rfl,rfl⟩:=t_
 have t0:w.cell? ⟨tb,0,none⟩=some (str [97,112,112]):=by simp [World.cell?,fE]
 have t3:w.cell? ⟨tb,3,none⟩=some (.slice (some ⟨sD,sB,none⟩) 2 pc):=by simp [World.cell?,fE,ze]
 have fo:=hp.room
 have fa:=hp.ok
 rw [zM] at fo hN
 obtain ⟨la,lc,rfl,_,_⟩:=AtNms.of hp.rl
 have SX:Hid (∀ w',Below w.heap.size w w'->w'.cell? ⟨tb,3,none⟩=some (.slice (some ⟨sD,sB,none⟩) 2 pc)/\w'.cell? ⟨sD,sB,none⟩=some (.pointer (some ⟨lQ,0,none⟩))/\w'.cell? ⟨sD,sB+1,none⟩=some (.pointer (some ⟨Bx,0,none⟩))):=by
  show ∀ w',_->_
  intro w' fx
  exact ⟨(fx.cell (fG w _ t3)).trans t3,(fx.cell ll).trans lg,(fx.cell mt).trans sC⟩
 have C0:=fX (fun wz (hz:Below w.heap.size w wz)=>ih F m ns (.pointer (some ⟨lQ,0,none⟩)) (.slice la ns.length lc) wz (by omega) ⟨Rep.below hz (fun _ h=>h) tw,Rep.below hz (fun _ h=>h) hp.rl,fa.1,hp.n15,by omega⟩)
 have C1:=fX (fun wz (hz:Below w.heap.size w wz)=>ih F n ns (.pointer (some ⟨Bx,0,none⟩)) (.slice la ns.length lc) wz (by omega) ⟨Rep.below hz (fun _ h=>h) rz,Rep.below hz (fun _ h=>h) hp.rl,fa.2,hp.n15,by omega⟩)
 have HN:=fX hp.n15
 clear hp fM tg fE fa hN ih tw lg ll rz sC mt
 go_enter Tryz.func20,Tryz.ntmps20
 go_wp2_with fail
 refine wp_region_noPanic ?_
 refine zB (fun w'=>Below w.heap.size w w') (fun _=>false) (by kernel_rfl) ?_
 have fF:(fun w'=>Below w.heap.size w w') w.drew:=Below.drew (fH _ _)
 refine tk [0,1,2,3,4,5,6,8,9,10,11,12,13,14] fF ?_
 (intro d hd;simp [tkD] at hd;subst hd;simp only [tks,pQ,pZ,pS])
 iterate 14 (refine ⟨?_,?_,?_⟩;rotate_left;· (intro oi ho;simp at ho;subst ho;refine Or.inl ⟨by rfl,fun w' fI=>?_⟩;obtain ⟨e0,e1,e2⟩:=SX.out w' fI;go_simp;try with_reducible rfl))
 (refine on 7 ?_;intro o ho K' hK;simp at ho;subst ho;go_simp)
 go_at_call 20
 (with_reducible refine (C0.out _ fF).mono ?_)
 rintro en v0 ⟨x0,rfl,fd,aP,iq⟩
 have nD:Hid (Below w.heap.size w v0):=fF.trans fd
 have Df:Hid ((typeOf ns m=none->x0=.pointer none)/\(∀ k,typeOf ns m=some k->Rep (fun i=>F i\/w.heap.size<=i) v0 (jS k) x0)):=⟨aP,fun k h=>(iq k h).weak fun i h=>by rcases h with h | h;exact .inl h;exact .inr (h)⟩
 have Ib:=fX fd
 clear fd aP iq
 (refine hK.out _ _ (fun _=>nD.out) ?_;clear hK K';try simp only [pQ,pN,pZ,pS])
 have Bj:=nD.out
 (refine on 15 ?_;intro o ho K' hK;simp at ho;subst ho;go_simp)
 go_at_call 20
 (with_reducible refine (C1.out _ nD.out).mono ?_)
 rintro en v1 ⟨x1,rfl,fA,mH,mX⟩
 have fb:Hid (Below w.heap.size w v1):=zzT nD.out fA
 have De:Hid ((typeOf ns n=none->x1=.pointer none)/\(∀ k,typeOf ns n=some k->Rep (fun i=>F i\/w.heap.size<=i) v1 (jS k) x1)):=⟨mH,fun k h=>(mX k h).weak fun i h=>by rcases h with h | h;exact .inl h;exact .inr (fD nD.out.size h)⟩
 have Bp:=fX fA
 clear fA mH mX
 (refine hK.out _ _ (fun _=>fb.out) ?_;clear hK K';try simp only [pQ,pN,pZ,pS])
 have Cy:=fb.out
 refine tk [16,17] Cy ?_
 (intro d hd;simp [tkD] at hd;subst hd;simp only [tks,pQ,pZ,pS])
 iterate 2 (refine ⟨?_,?_,?_⟩;rotate_left;· (intro oi ho;simp at ho;subst ho;refine Or.inl ⟨by rfl,fun w' fI=>?_⟩;go_simp;try with_reducible rfl))
 refine zU (by kernel_rfl) (NoPanic.normal ?_) _
 clear t3 C0 C1
 cases hm:typeOf ns m with
 | none =>
   obtain rfl:=Df.out.1 hm
   have HQ:=fX (show typeOf ns (.app m n)=none by rw [typeOf,hm];rfl)
   clear hm
   go_wp2_with fail
   go_ret
   exact kU.no HQ.out fb.out
 | some a =>
   have iu:=Rep.below (F':=fun i=>F i\/w.heap.size<=i) Bp.out (fun _ h=>h) (Df.out.2 a hm)
   obtain ⟨ab,ak,e,_,ou,At⟩:=kK iu
   subst e
   cases hn:typeOf ns n with
   | none =>
     obtain rfl:=De.out.1 hn
     have HQ:=fX (show typeOf ns (.app m n)=none by rw [typeOf,hm,hn];rfl)
     clear hm hn iu ou At
     go_wp2_with fail
     go_ret
     exact kU.no HQ.out fb.out
   | some b =>
     have mn:=De.out.2 b hn
     obtain ⟨bb,_,e,_⟩:=kK mn
     subst e
     have nH:=k9 m ns a HN.out hm
     have sU:=k9 n ns b HN.out hn
     have q0:v1.cell? ⟨ab,0,none⟩=some ak:=by simp [World.cell?,ou]
     obtain ⟨aa,ac,rfl,Gu,_,Cu⟩:=zP At
     have Hm:=zZ ou
     cases mN:a.args with
     | nil =>
       rw [mN] at q0
       have HQ:=fX (show typeOf ns (.app m n)=none by rw [typeOf,hm,hn,Option.bind_some,Option.bind_some,mN])
       clear hm hn iu ou At Cu mn mN Gu
       go_wp2_with fail
       go_ret
       exact kU.no HQ.out fb.out
     | cons c cs =>
       rw [mN] at q0 At Cu Gu
       obtain ⟨lh,AB,u,d1,e,_,hkw2,oS,rD,rQ⟩:=Cu 0 (by simp)
       subst e
       simp only [jL,List.getElem?_cons_zero,Option.some.injEq] at oS
       subst oS
       obtain ⟨cb,_,e,_⟩:=kK rQ
       subst e
       have hc1':v1.cell? ⟨lh,AB,none⟩=some (.pointer (some ⟨cb,0,none⟩)):=rD
       have se:zV c<=15:=cf nH c (by rw [mN];simp)
       have Co:zV (.mk cs)<=15:=by have:=gD mN;omega
       have D6:cs.length<=14:=by have:=uT nH;rw [mN] at this;simp at this;omega
       have CS:=fX (same_any _ c b _ _ v1 rQ mn se sU)
       by_cases he:zN c=zN b
       ·have e0:(zN c == zN b)=true:=by rw [beq_iff_eq];exact he
        rw [e0] at CS
        have HT:=fX (show typeOf ns (.app m n)=some (.mk cs) by rw [typeOf,hm,hn,Option.bind_some,Option.bind_some,mN];exact if_pos he)
        have HS:=fX At
        have Eg:cs.length+1<=ac:=by simpa using Gu
        have KEY:∀ (v2:World) (ra:Option Addr) (rc:Nat),Below w.heap.size w v2->Rep (fun i=>F i\/w.heap.size<=i) v2 (.sl 33 1 cs.length (jL cs)) (.slice ra cs.length rc) ->
         Rep (fun i=>F i\/w.heap.size<=i) (v2.alloc (.cells #[.slice ra cs.length rc] 102)) (jS (.mk cs)) (.pointer (some ⟨v2.heap.size,0,none⟩)):=fun v2 ra rc h hr =>
         p7 (.inr h.size) (zG _ _) (Rep.below ((fH _ _).alloc (fP _) _) (fun _ h=>h) hr)
        have HK:=fX KEY
        have hA:¬ (15:Int)<(zV (.mk cs):Int):=by omega
        have La:=fX Co
        clear hm hn iu ou At Cu mn mN he e0 rD rQ nH sU Co se KEY Gu
        go_wp2_with fail
        (with_reducible refine CS.out.mono ?_)
        rintro en v2 ⟨rfl,fN⟩
        have q0':=(fN.cell (p:=⟨ab,0,none⟩) Hm).trans q0
        have ft:=fX (zzT fb.out fN)
        have KW:=fX (Rep.below (F':=fun i=>F i\/w.heap.size<=i) fN (fun _ h=>h) HS.out)
        clear fN q0 hc1'
        by_cases hac1:ac=1
        ·subst hac1
         have hcs:cs.length=0:=by omega
         obtain rfl:=List.eq_nil_of_length_eq_zero hcs
         have nC:Rep (fun i=>F i\/w.heap.size<=i) v2 (.sl 33 1 ([]:List Ty).length (jL [])) (.slice (some ⟨lh,AB,none⟩) ([]:List Ty).length 0):=zp.2 ⟨rfl,_,_,rfl,fP _,fun h=>by simp at h,.inl rfl⟩
         have tN:Rep (fun i=>F i\/w.heap.size<=i) (v2.alloc (.cells #[.slice (some ⟨lh,AB,none⟩) 0 0] 102)) (jS (.mk [])) (.pointer (some ⟨v2.heap.size,0,none⟩)):=HK.out v2 _ _ ft.out nC
         have CA:=fX (uS _ _ 15 (.mk []) La.out (by unfold Lim;omega) _ tN)
         have HR:=fX tN
         clear nC tN hcs
         go_wp2_with fail
         (with_reducible refine CA.out.mono ?_)
         rintro en w3 ⟨rfl,e⟩
         subst w3
         go_wp2_with fail
         go_ret
         exact kU.yes HT.out (ft.out.alloc ft.out.size _) HR.out
        ·have nC:Rep (fun i=>F i\/w.heap.size<=i) v2 (.sl 33 1 cs.length (jL cs)) (.slice (some ⟨lh,AB+1,none⟩) cs.length (ac-1)):=wN (d:=jS c) KW.out
         have CA:=fX (uS _ _ 15 (.mk cs) La.out (by unfold Lim;omega) _ (HK.out v2 _ _ ft.out nC))
         have HR:=fX (HK.out v2 _ _ ft.out nC)
         clear nC
         go_wp2_with fail
         (with_reducible refine CA.out.mono ?_)
         rintro en w3 ⟨rfl,e⟩
         subst w3
         go_wp2_with fail
         go_ret
         exact kU.yes HT.out (ft.out.alloc ft.out.size _) HR.out
       ·have e0:(zN c == zN b)=false:=by rw [beq_eq_false_iff_ne];exact he
        rw [e0] at CS
        have HT:=fX (show typeOf ns (.app m n)=none by rw [typeOf,hm,hn,Option.bind_some,Option.bind_some,mN];exact if_neg he)
        clear hm hn iu ou At Cu mn mN he e0 rD rQ nH sU Co se
        go_wp2_with fail
        (with_reducible refine CS.out.mono ?_)
        rintro en v2 ⟨rfl,fN⟩
        have ft:=fX (zzT fb.out fN)
        clear fN
        go_wp2_with fail
        go_ret
        exact kU.no HT.out ft.out
set_option maxRecDepth 100000 in
theorem typed_ite (N:Nat) (ih:gZ N) (F:Nat->Prop) (l m n:Tm) (ns:List Nm) (tv lv:Value) (w:World) (hN:zM (.ite l m n)<=N+1) (hp:TyPre F (.ite l m n) ns tv lv w):Calls Tryz.prog 20 #[tv,lv] w (kU F w (typeOf ns (.ite l m n))):=by
 obtain ⟨tb,kv,slv,rfl,_,fE,_,_,tg⟩:=jT hp.rt
 obtain ⟨pa,pc,rfl,_,_,fM⟩:=zP tg
 simp only [yd,yr,ifW] at fE
 obtain ⟨sD,sB,Ii,Ij,BF,_,ll,lV,lg,tw⟩:=fM 0 (by simp [ze])
 simp only [ze,List.map_cons,List.map_nil,List.getElem?_cons_zero,List.getElem?_cons_succ,Option.some.injEq] at lV
 subst lV
 obtain ⟨lQ,e0⟩:=qW tw
 subst e0
 subst BF
 obtain ⟨fg,fp,pu1,iz,t_,_,mt,sH,sC,rz⟩:=fM 1 (by simp [ze])
 simp only [ze,List.map_cons,List.map_nil,List.getElem?_cons_zero,List.getElem?_cons_succ,Option.some.injEq] at sH
 subst sH
 obtain ⟨Bx,e1⟩:=qW rz
 subst e1
 simp only [Option.some.injEq,Addr.mk.injEq,and_true] at t_
 obtain ⟨rfl,rfl⟩:=t_
 obtain ⟨FD,FB,pu2,iO,t6,_,lJ,tl,aZ,tV⟩:=fM 2 (by simp [ze])
 simp only [ze,List.map_cons,List.map_nil,List.getElem?_cons_zero,List.getElem?_cons_succ,Option.some.injEq] at tl
 subst tl
 obtain ⟨If,e2⟩:=qW tV
 subst e2
 simp only [Option.some.injEq,Addr.mk.injEq,and_true] at t6
 obtain ⟨rfl,rfl⟩:=t6
 have t0:w.cell? ⟨tb,0,none⟩=some (str [105,102]):=by simp [World.cell?,fE]
 have t3:w.cell? ⟨tb,3,none⟩=some (.slice (some ⟨sD,sB,none⟩) 3 pc):=by simp [World.cell?,fE,ze]
 have fo:=hp.room
 have fa:=hp.ok
 rw [zM] at fo hN
 obtain ⟨la,lc,rfl,_,_⟩:=AtNms.of hp.rl
 have SX:Hid (∀ w',Below w.heap.size w w'->w'.cell? ⟨tb,3,none⟩=some (.slice (some ⟨sD,sB,none⟩) 3 pc)/\w'.cell? ⟨sD,sB,none⟩=some (.pointer (some ⟨lQ,0,none⟩))/\w'.cell? ⟨sD,sB+1,none⟩=some (.pointer (some ⟨Bx,0,none⟩))/\w'.cell? ⟨sD,sB+2,none⟩=some (.pointer (some ⟨If,0,none⟩))):=by
  show ∀ w',_->_
  intro w' fx
  exact ⟨(fx.cell (fG w _ t3)).trans t3,(fx.cell ll).trans lg,(fx.cell mt).trans sC,(fx.cell lJ).trans aZ⟩
 have C0:=fX (fun wz (hz:Below w.heap.size w wz)=>ih F l ns (.pointer (some ⟨lQ,0,none⟩)) (.slice la ns.length lc) wz (by omega) ⟨Rep.below hz (fun _ h=>h) tw,Rep.below hz (fun _ h=>h) hp.rl,fa.1,hp.n15,by omega⟩)
 have C1:=fX (fun wz (hz:Below w.heap.size w wz)=>ih F m ns (.pointer (some ⟨Bx,0,none⟩)) (.slice la ns.length lc) wz (by omega) ⟨Rep.below hz (fun _ h=>h) rz,Rep.below hz (fun _ h=>h) hp.rl,fa.2.1,hp.n15,by omega⟩)
 have C2:=fX (fun wz (hz:Below w.heap.size w wz)=>ih F n ns (.pointer (some ⟨If,0,none⟩)) (.slice la ns.length lc) wz (by omega) ⟨Rep.below hz (fun _ h=>h) tV,Rep.below hz (fun _ h=>h) hp.rl,fa.2.2,hp.n15,by omega⟩)
 have HN:=fX hp.n15
 clear hp fM tg fE fa hN ih tw lg ll rz sC mt tV aZ lJ
 go_enter Tryz.func20,Tryz.ntmps20
 go_wp2_with fail
 refine wp_region_noPanic ?_
 refine zB (fun w'=>Below w.heap.size w w') (fun _=>false) (by kernel_rfl) ?_
 have fF:(fun w'=>Below w.heap.size w w') w.drew:=Below.drew (fH _ _)
 refine tk [0,1,2,3,4,5,6,8,9,10,11,12,13,14,16,17,18,19,20,21,22] fF ?_
 (intro d hd;simp [tkD] at hd;subst hd;simp only [tks,pQ,pZ,pS])
 iterate 21 (refine ⟨?_,?_,?_⟩;rotate_left;· (intro oi ho;simp at ho;subst ho;refine Or.inl ⟨by rfl,fun w' fI=>?_⟩;obtain ⟨e0,e1,e2,e3⟩:=SX.out w' fI;go_simp;try with_reducible rfl))
 (refine on 7 ?_;intro o ho K' hK;simp at ho;subst ho;go_simp)
 go_at_call 20
 (with_reducible refine (C0.out _ fF).mono ?_)
 rintro en v0 ⟨x0,rfl,fd,aP,iq⟩
 have nD:Hid (Below w.heap.size w v0):=fF.trans fd
 have Df:Hid ((typeOf ns l=none->x0=.pointer none)/\(∀ k,typeOf ns l=some k->Rep (fun i=>F i\/w.heap.size<=i) v0 (jS k) x0)):=⟨aP,fun k h=>(iq k h).weak fun i h=>by rcases h with h | h;exact .inl h;exact .inr (h)⟩
 have Ib:=fX fd
 clear fd aP iq
 (refine hK.out _ _ (fun _=>nD.out) ?_;clear hK K';try simp only [pQ,pN,pZ,pS])
 have Bj:=nD.out
 (refine on 15 ?_;intro o ho K' hK;simp at ho;subst ho;go_simp)
 go_at_call 20
 (with_reducible refine (C1.out _ nD.out).mono ?_)
 rintro en v1 ⟨x1,rfl,fA,mH,mX⟩
 have fb:Hid (Below w.heap.size w v1):=zzT nD.out fA
 have De:Hid ((typeOf ns m=none->x1=.pointer none)/\(∀ k,typeOf ns m=some k->Rep (fun i=>F i\/w.heap.size<=i) v1 (jS k) x1)):=⟨mH,fun k h=>(mX k h).weak fun i h=>by rcases h with h | h;exact .inl h;exact .inr (fD nD.out.size h)⟩
 have Bp:=fX fA
 clear fA mH mX
 (refine hK.out _ _ (fun _=>fb.out) ?_;clear hK K';try simp only [pQ,pN,pZ,pS])
 have Cy:=fb.out
 (refine on 23 ?_;intro o ho K' hK;simp at ho;subst ho;go_simp)
 go_at_call 20
 (with_reducible refine (C2.out _ fb.out).mono ?_)
 rintro en v2 ⟨x2,rfl,fN,sN,tp⟩
 have ft:Hid (Below w.heap.size w v2):=zzT fb.out fN
 have E5:Hid ((typeOf ns n=none->x2=.pointer none)/\(∀ k,typeOf ns n=some k->Rep (fun i=>F i\/w.heap.size<=i) v2 (jS k) x2)):=⟨sN,fun k h=>(tp k h).weak fun i h=>by rcases h with h | h;exact .inl h;exact .inr (fD fb.out.size h)⟩
 have K8:=fX fN
 clear fN sN tp
 (refine hK.out _ _ (fun _=>ft.out) ?_;clear hK K';try simp only [pQ,pN,pZ,pS])
 have Gy:=ft.out
 refine tk [24,25,26] Gy ?_
 (intro d hd;simp [tkD] at hd;subst hd;simp only [tks,pQ,pZ,pS])
 iterate 3 (refine ⟨?_,?_,?_⟩;rotate_left;· (intro oi ho;simp at ho;subst ho;refine Or.inl ⟨by rfl,fun w' fI=>?_⟩;go_simp;try with_reducible rfl))
 refine zU (by kernel_rfl) (NoPanic.normal ?_) _
 clear t3 C0 C1 C2
 cases hl:typeOf ns l with
 | none =>
   obtain rfl:=Df.out.1 hl
   have HQ:=fX (show typeOf ns (.ite l m n)=none by rw [typeOf,hl];rfl)
   clear hl
   go_wp2_with fail
   go_ret
   exact kU.no HQ.out ft.out
 | some a =>
   have iu:=Rep.below (F':=fun i=>F i\/w.heap.size<=i) K8.out (fun _ h=>h) (Rep.below (F':=fun i=>F i\/w.heap.size<=i) Bp.out (fun _ h=>h) (Df.out.2 a hl))
   obtain ⟨ab,ak,e,_,ou,At⟩:=kK iu
   subst e
   cases hm:typeOf ns m with
   | none =>
     obtain rfl:=De.out.1 hm
     have HQ:=fX (show typeOf ns (.ite l m n)=none by rw [typeOf,hl,hm];rfl)
     clear hl hm iu ou At
     go_wp2_with fail
     go_ret
     exact kU.no HQ.out ft.out
   | some b =>
     have mn:=Rep.below (F':=fun i=>F i\/w.heap.size<=i) K8.out (fun _ h=>h) (De.out.2 b hm)
     obtain ⟨bb,_,e,_⟩:=kK mn
     subst e
     cases hn:typeOf ns n with
     | none =>
       obtain rfl:=E5.out.1 hn
       have HQ:=fX (show typeOf ns (.ite l m n)=none by rw [typeOf,hl,hm,hn];rfl)
       clear hl hm hn iu ou At mn
       go_wp2_with fail
       go_ret
       exact kU.no HQ.out ft.out
     | some c =>
       have FU:=E5.out.2 c hn
       obtain ⟨cb,_,e,_⟩:=kK FU
       subst e
       have sU:=k9 m ns b HN.out hm
       have se:=k9 n ns c HN.out hn
       have q0:v2.cell? ⟨ab,0,none⟩=some ak:=by simp [World.cell?,ou]
       obtain ⟨aa,ac,rfl,_,_,_⟩:=zP At
       cases mN:a.args with
       | cons d ds =>
         have hd:((((d::ds).length:Nat):Int) == 0)=false:=by rw [beq_eq_false_iff_ne];simp;omega
         rw [mN] at q0
         generalize (d::ds).length=L at *
         have HQ:=fX (show typeOf ns (.ite l m n)=none by rw [typeOf,hl,hm,hn,Option.bind_some,Option.bind_some,Option.bind_some,if_neg (by rw [mN];simp)])
         clear hl hm hn iu ou At mn FU mN
         go_wp2_with fail
         go_ret
         exact kU.no HQ.out ft.out
       | nil =>
         rw [mN] at q0
         have CS:=fX (same_any _ b c _ _ v2 mn FU sU se)
         have CA:=fX (fun wz (h:Below v2.heap.size v2 wz)=>uS _ wz 15 b sU (by unfold Lim;omega) _ (Rep.below (F':=fun i=>F i\/w.heap.size<=i) h (fun _ h=>h) mn))
         have HR:=fX mn
         by_cases he:zN b=zN c
         ·have e0:(zN b == zN c)=true:=by rw [beq_iff_eq];exact he
          rw [e0] at CS
          have HT:=fX (show typeOf ns (.ite l m n)=some b by rw [typeOf,hl,hm,hn,Option.bind_some,Option.bind_some,Option.bind_some,if_pos ⟨mN,he⟩])
          have hA:¬ (15:Int)<(zV b:Int):=by omega
          clear hl hm hn iu ou At mn FU mN he e0 sU se
          go_wp2_with fail
          (with_reducible refine CS.out.mono ?_)
          rintro en w3 ⟨rfl,fv⟩
          have nh:=fX (zzT ft.out fv)
          have HR3:=fX (Rep.below (F':=fun i=>F i\/w.heap.size<=i) fv (fun _ h=>h) HR.out)
          have CA3:=fX (CA.out w3 fv)
          clear fv
          go_wp2_with fail
          (with_reducible refine CA3.out.mono ?_)
          rintro en w4 ⟨rfl,e⟩
          subst w4
          go_wp2_with fail
          go_ret
          exact kU.yes HT.out nh.out HR3.out
         ·have e0:(zN b == zN c)=false:=by rw [beq_eq_false_iff_ne];exact he
          rw [e0] at CS
          have HT:=fX (show typeOf ns (.ite l m n)=none by rw [typeOf,hl,hm,hn,Option.bind_some,Option.bind_some,Option.bind_some,if_neg (fun h=>he h.2)])
          clear hl hm hn iu ou At mn FU mN he e0 sU se
          go_wp2_with fail
          (with_reducible refine CS.out.mono ?_)
          rintro en w3 ⟨rfl,fv⟩
          have nh:=fX (zzT ft.out fv)
          clear fv
          go_wp2_with fail
          go_ret
          exact kU.no HT.out nh.out
theorem pL (N:Nat):gZ N:=by
 induction N with
 | zero=>exact fun F t ns tv lv w h=>by have:=d6 t;omega
 | succ N ih =>
   intro F t ns tv lv w h hp
   cases t with
   | nm x=>exact typed_nm F x ns tv lv w hp
   | wd u=>exact typed_wd F u ns tv lv w hp
   | lam x k t=>exact typed_lam N ih F x k t ns tv lv w h hp
   | app m n=>exact typed_app N ih F m n ns tv lv w h hp
   | ite l m n=>exact typed_ite N ih F l m n ns tv lv w h hp
end Go.Proofs.YtjggkhmojjaomaaGreatDoor

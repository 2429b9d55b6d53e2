/- Walks of functions that the statement reaches, and plain words. No conditions. -/
import Derived.Test.YtjggkhmojjaomaaGreatDoorQ3
import Derived.Test.YtjggkhmojjaomaaGreatDoorQ10
set_option linter.unusedVariables false
set_option linter.unusedSimpArgs false
set_option maxHeartbeats 4000000
namespace Go.Proofs.YtjggkhmojjaomaaGreatDoor
open Go.RowKit
theorem Tryz.infoBound:(Tryz.prog.info? 99).map (fun i=>(i.zero,i.size,i.bytes))=some (some (.agg #[str [],.pointer none]),2,24):=by kernel_rfl
def jM:List Nm->List DV
 | []=>[]
 | p::ps=>.val (str p.1)::jG p.2::jM ps
theorem gK (a b:List Nm):jM (a++b)=jM a++jM b:=by
 induction a with
 | nil=>rfl
 | cons p ps ih=>rw [List.cons_append,jM,jM,ih];rfl
theorem encNms_at:∀ (ns:List Nm) (i:Nat) (p:Nm),ns[i]? = some p->(jM ns)[i*2]? = some (.val (str p.1))/\(jM ns)[i*2+1]? = some (jG p.2)
 | [],i,p,h=>by simp at h
 | q::ps,0,p,h=>by simp at h;subst h;rw [jM];exact ⟨rfl,rfl⟩
 | q::ps,i+1,p,h=>by
   have:=encNms_at ps i p (by simpa using h)
   rw [jM,show (i+1)*2=i*2+1+1 from by omega,show i*2+1+1+1=(i*2+1)+1+1 from rfl]
   simpa using this
theorem oneNm {F:Nat->Prop} {w:World}:∀ (ns:List Nm) (us:List Value),zX F w (jM ns) us->∀ u∈us,u.oneCell'=true
 | [],us,h,u,hu=>by rw [jM,zC] at h;subst h;simp at hu
 | p::ps,us,h,u,hu=>by
   rw [jM,zQ] at h
   obtain ⟨v1,vs,rfl,h1,h2⟩:=h
   rw [zQ] at h2
   obtain ⟨v2,vs2,rfl,h3,h4⟩:=h2
   rw [zH] at h1
   subst h1
   obtain ⟨b,_,rfl,_⟩:=kZ h3
   rcases List.mem_cons.1 hu with rfl | hu
   ·simp [str,Value.oneCell']
   rcases List.mem_cons.1 hu with rfl | hu
   ·simp [Value.oneCell']
   ·exact oneNm ps vs2 h4 u hu
def AtNm (F:Nat->Prop) (w:World) (ns:List Nm) (a:Option Addr) (k:Nat):Prop :=
 ∃ b o x t kb,a=some ⟨b,o,none⟩/\b<w.heap.size/\ns[k]? = some (x,t)/\w.cell? ⟨b,o+k*2,none⟩=some (str x)/\w.cell? ⟨b,o+k*2+1,none⟩=some (.pointer (some ⟨kb,0,none⟩))/\Rep F w (jG t) (.pointer (some ⟨kb,0,none⟩))
theorem AtNms.of {F:Nat->Prop} {w:World} {ns:List Nm} {v:Value} (h:Rep F w (.sl 99 2 ns.length (jM ns)) v):∃ a c,v=.slice a ns.length c/\ns.length<=c/\∀ k,k<ns.length->AtNm F w ns a k:=by
 obtain ⟨hl,a,c,rfl,hn,hz,h⟩:=zp.1 h
 refine ⟨a,c,rfl,hn,fun k hk=>?_⟩
 rcases h with h | ⟨b,o,cs,fr,rfl,hb,hc,hr⟩
 ·omega
 ·obtain ⟨⟨x,t⟩,hp⟩:∃ p,ns[k]? = some p:=⟨ns[k],by simp [hk]⟩
  obtain ⟨g1,g2⟩:=encNms_at ns k (x,t) hp
  obtain ⟨v1,e1,r1⟩:=zX.at hr g1
  obtain ⟨v2,e2,r2⟩:=zX.at hr g2
  rw [zH] at r1
  subst r1
  obtain ⟨kb,_,rfl,_⟩:=kZ r2
  have fU:∀ j u,((cs.toList.drop o).take (ns.length*2))[j]? = some u->w.cell? ⟨b,o+j,none⟩=some u:=by
   intro j u hu
   rw [List.getElem?_take] at hu
   split at hu
   ·rw [List.getElem?_drop] at hu
    simp only [World.cell?,hc]
    simpa using hu
   ·simp at hu
  exact ⟨b,o,x,t,kb,rfl,zZ hc,hp,fU _ _ e1,by have:=fU _ _ e2;rwa [<- Nat.add_assoc] at this,r2⟩
def dB:Option Nat->Int
 | some i=>i
 | none=>-1
theorem dg (t:Tm):0<zM t:=by cases t <;> simp only [zM] <;> omega
def FoundAt (ns:List Nm) (x:Bs) (k:Nat):Prop:=jQ ns x=qJ ns x k
theorem find_any (F:Nat->Prop) (ns:List Nm) (x:Bs) (lv:Value) (w:World) (hn:ns.length<=1000) (hr:Rep F w (.sl 99 2 ns.length (jM ns)) lv) :
 Calls Tryz.prog 49 #[lv,str x] w fun en w'=>en=.returned (.int .i64 (dB (jQ ns x)))/\w'=w:=by
 obtain ⟨a,c,rfl,hc,fU⟩:=AtNms.of hr
 have AT:=ed fU
 clear fU hr
 go_enter Tryz.func49,Tryz.ntmps49
 go_wp2_with fail
 go_loop [5] (fun i=>∃ k:Nat,k<=ns.length/\i=.int .i64 ((k:Int)-1)/\FoundAt ns x k) (fun i=>(intOf i+1).toNat)
 case atStart=>exact ⟨ns.length,ei _,rfl,rfl⟩
 case round =>
  obtain ⟨k,hk,rfl,hf⟩:=hrel
  cases k with
  | zero =>
    have hz:((0:Nat):Int)-1 = -1:=rfl
    rw [hz]
    go_wp2_with fail
    go_ret
    refine ⟨?_,rfl⟩
    rw [show jQ ns x=none from hf];rfl
  | succ j =>
    have hj:j<ns.length:=by omega
    rw [show ((j+1:Nat):Int)-1=(j:Int) from by omega]
    obtain ⟨b,o,y,t,kb,e,hb,hp,h1,h2,_⟩:=AT.out j hj
    subst e
    have Jn:(j:Int)<(ns.length:Int):=by omega
    have fj:qJ ns x (j+1)=if y=x then some j else qJ ns x j:=by
     rw [qJ,hp];simp
    by_cases aE:y=x
    ·subst aE
     have q:(y == y)=true:=by simp
     have HS:=ed (show jQ ns y=some j by rw [show jQ ns y=qJ ns y (j+1) from hf,fj,if_pos rfl])
     clear hf fj hp h2
     go_wp2_with fail
     go_ret
     exact ⟨by rw [HS.out];rfl,rfl⟩
    ·have q:(y == x)=false:=by rw [beq_eq_false_iff_ne];exact aE
     have HS:=ed (show jQ ns x=qJ ns x j by rw [show jQ ns x=qJ ns x (j+1) from hf,fj,if_neg aE])
     clear hf fj hp h2 aE
     go_wp2_with fail
     go_round
     case rel=>exact ⟨j,by omega,by go_num,HS.out⟩
     case measure=>simp only [intOf];omega
theorem dd (F:Nat->Prop) (a b:Ty) (va vb:Value) (w:World) (ha:Rep F w (jG a) va) (hb:Rep F w (jG b) vb) (mo:zV a<=15) (ru:zV b<=15) :
 Calls Tryz.prog 24 #[va,vb] w fun en w'=>en=.returned (.bool (zF a == zF b))/\Below w.heap.size w w':=by
 obtain ⟨ab,_,rfl,_⟩:=kZ ha
 obtain ⟨bb,_,rfl,_⟩:=kZ hb
 have C1:=ed (textK_any 15 a mo (by omega) F w _ ha)
 have C2:=ed (fun w1 (h:Below w.heap.size w w1)=>textK_any 15 b ru (by omega) F w1 _ (Rep.below (F':=F) h (fun _ h=>h) hb))
 clear ha hb
 go_enter Tryz.func24,Tryz.ntmps24
 go_wp2_with fail
 (with_reducible refine C1.out.mono ?_)
 rintro en w1 ⟨rfl,fP⟩
 have fI:=ed fP;clear fP
 go_wp2_with fail
 (with_reducible refine (C2.out w1 fI.out).mono ?_)
 rintro en w2 ⟨rfl,fY⟩
 have fL:=ed (zzT fI.out fY);clear fY
 go_wp2_with fail
 go_ret
 exact ⟨rfl,fL.out⟩
def kU (F:Nat->Prop) (w:World) (o:Option Ty) (en:Ending) (w':World):Prop :=
 ∃ v,en=.returned v/\Below w.heap.size w w'/\(o=none->v=.pointer none)/\(∀ k,o=some k->Rep (fun i=>F i\/w.heap.size<=i) w' (jG k) v)
structure TyPre (F:Nat->Prop) (t:Tm) (ns:List Nm) (tv lv:Value) (w:World):Prop where
 rt:Rep F w (jJ t) tv
 rl:Rep F w (.sl 99 2 ns.length (jM ns)) lv
 ok:uP t
 n15:∀ a∈kinds ns,zV a<=15
 room:ns.length+zM t<=1000
def ph (N:Nat):Prop:=∀ (F:Nat->Prop) (t:Tm) (ns:List Nm) (tv lv:Value) (w:World),zM t<=N->TyPre F t ns tv lv w->Calls Tryz.prog 20 #[tv,lv] w (kU F w (typeOf ns t))
theorem xF {F:Nat->Prop} {w:World} (hF:F w.heap.size):Rep F (w.alloc (.cells #[.slice none 0 0] 102)) (jG (.mk [])) (.pointer (some ⟨w.heap.size,0,none⟩)) :=
 pu hF (zG _ _) (zp.2 ⟨rfl,none,0,rfl,ei _,fun _=>rfl,.inl rfl⟩)
theorem v8.alloc {w:World} {size n:Nat} {v:Value} {xs:List Value} (h:v8 size v n xs w) (o:Obj):v8 size v n xs (w.alloc o) :=
 ⟨h.1,h.2.elim (fun ⟨b,e,hc⟩=>.inl ⟨b,e,fun j u hj=>zJ (hc j u hj)⟩) .inr⟩
theorem kU.no {F:Nat->Prop} {w w':World} {o:Option Ty} (ho:o=none) (hb:Below w.heap.size w w'):kU F w o (.returned (.pointer none)) w' :=
 ⟨_,rfl,hb,fun _=>rfl,fun k h=>by rw [ho] at h;simp at h⟩
theorem kU.yes {F:Nat->Prop} {w w':World} {o:Option Ty} {k:Ty} {v:Value} (ho:o=some k) (hb:Below w.heap.size w w') (hr:Rep (fun i=>F i\/w.heap.size<=i) w' (jG k) v):kU F w o (.returned v) w' :=
 ⟨_,rfl,hb,fun h=>by rw [ho] at h;simp at h,fun k' h=>by rw [ho] at h;obtain rfl:=Option.some.inj h;exact hr⟩
set_option maxRecDepth 100000 in
theorem typed_nm (F:Nat->Prop) (x:Bs) (ns:List Nm) (tv lv:Value) (w:World) (hp:TyPre F (.nm x) ns tv lv w):Calls Tryz.prog 20 #[tv,lv] w (kU F w (typeOf ns (.nm x))):=by
 obtain ⟨tb,kv,slv,rfl,_,fJ,_,_,_⟩:=jF hp.rt
 simp only [yd,yr] at fJ
 have t0:w.cell? ⟨tb,0,none⟩=some (str []):=by simp [World.cell?,fJ]
 have t1:w.cell? ⟨tb,1,none⟩=some (str x):=by simp [World.cell?,fJ]
 have hn:ns.length<=1000:=by have:=hp.room;omega
 have CF:=find_any F ns x lv w hn hp.rl
 obtain ⟨la,lc,rfl,G0,fU⟩:=AtNms.of hp.rl
 have AT:=ed fU
 have HP:=ed hp
 clear hp fU fJ
 cases hq:jQ ns x with
 | none =>
   have HT:=ed (show typeOf ns (.nm x)=none by rw [typeOf,hq];rfl)
   rw [hq] at CF
   simp only [dB] at CF
   have CF':=ed CF
   clear hq CF G0
   go_enter Tryz.func20,Tryz.ntmps20
   go_wp2_with fail
   (with_reducible refine CF'.out.mono ?_)
   rintro en w1 ⟨rfl,e⟩
   subst w1
   go_wp2_with fail
   go_ret
   exact kU.no HT.out (e_ _ _)
 | some i =>
   obtain ⟨fG,k,hk⟩:=findAt_lt hq
   obtain ⟨b,o,y,t,kb,e,hb,FM,h1,h2,mD⟩:=AT.out i fG
   subst e
   have fM:=HP.out.n15 t (List.mem_of_getElem? (uK FM))
   have HT:=ed (show typeOf ns (.nm x)=some t by rw [typeOf,hq,Option.bind_some,FM];rfl)
   have CA:=ed (uR F w 15 t fM (by unfold Lim;omega) _ mD)
   have HR:=ed mD
   rw [hq] at CF
   simp only [dB] at CF
   have CF':=ed CF
   have hi:(i:Int)<(ns.length:Int):=by omega
   have hA:¬ (15:Int)<(zV t:Int):=by omega
   clear hq CF G0 hk FM h1 mD hb
   go_enter Tryz.func20,Tryz.ntmps20
   go_wp2_with fail
   (with_reducible refine CF'.out.mono ?_)
   rintro en w1 ⟨rfl,e⟩
   subst w1
   go_wp2_with fail
   (with_reducible refine CA.out.mono ?_)
   rintro en w1 ⟨rfl,e⟩
   subst w1
   go_wp2_with fail
   go_ret
   exact kU.yes HT.out (e_ _ _) (HR.out.weak fun _ h=>.inl h)
set_option maxRecDepth 100000 in
theorem typed_wd (F:Nat->Prop) (u:Bs) (ns:List Nm) (tv lv:Value) (w:World) (hp:TyPre F (.wd u) ns tv lv w):Calls Tryz.prog 20 #[tv,lv] w (kU F w (typeOf ns (.wd u))):=by
 obtain ⟨tb,kv,slv,rfl,_,fJ,_,_,_⟩:=jF hp.rt
 simp only [yd,yr] at fJ
 have t0:w.cell? ⟨tb,0,none⟩=some (str u):=by simp [World.cell?,fJ]
 have fw:qy u=true:=hp.ok
 simp only [qy,Bool.or_eq_true,beq_iff_eq] at fw
 obtain ⟨la,lc,rfl,_,_⟩:=AtNms.of hp.rl
 have HT:=ed (show typeOf ns (.wd u)=some (.mk []) by rw [typeOf])
 have CA:=ed (uR (fun _=>True) (w.alloc (.cells #[.slice none 0 0] 102)) 15 (.mk []) (by decide) (by unfold Lim;omega) _ (xF trivial))
 have eA:((zV (.mk []):Nat):Int)=1:=by decide
 rw [eA] at CA
 clear hp fJ eA
 rcases fw with (rfl | rfl) | rfl
 ·go_enter Tryz.func20,Tryz.ntmps20
  go_wp2_with fail
  (with_reducible refine CA.out.mono ?_)
  rintro en w1 ⟨rfl,e⟩
  subst w1
  go_wp2_with fail
  go_ret
  exact kU.yes HT.out ((e_ _ _).alloc (ei _) _) (xF (.inr (ei _)))
 ·go_enter Tryz.func20,Tryz.ntmps20
  go_wp2_with fail
  (with_reducible refine CA.out.mono ?_)
  rintro en w1 ⟨rfl,e⟩
  subst w1
  go_wp2_with fail
  go_ret
  exact kU.yes HT.out ((e_ _ _).alloc (ei _) _) (xF (.inr (ei _)))
 ·go_enter Tryz.func20,Tryz.ntmps20
  go_wp2_with fail
  (with_reducible refine CA.out.mono ?_)
  rintro en w1 ⟨rfl,e⟩
  subst w1
  go_wp2_with fail
  go_ret
  exact kU.yes HT.out ((e_ _ _).alloc (ei _) _) (xF (.inr (ei _)))
set_option maxRecDepth 100000 in
theorem typed_lam (N:Nat) (ih:ph N) (F:Nat->Prop) (x:Bs) (k:Ty) (t:Tm) (ns:List Nm) (tv lv:Value) (w:World) (hN:zM (.lam x k t)<=N+1) (hp:TyPre F (.lam x k t) ns tv lv w):Calls Tryz.prog 20 #[tv,lv] w (kU F w (typeOf ns (.lam x k t))):=by
 obtain ⟨tb,kv,slv,rfl,_,fJ,_,ib,tS⟩:=jF hp.rt
 have hk:=ib k rfl
 obtain ⟨kb,_,e,_⟩:=kZ hk
 subst e
 obtain ⟨pa,pc,rfl,_,_,fU⟩:=zP tS
 simp only [yd,yr,jI] at fJ
 obtain ⟨sY,sV,Hz,H_,Bu,_,lw,i5,lA,tR⟩:=fU 0 (by simp [za])
 simp only [za,List.map_cons,List.map_nil,List.getElem?_cons_zero,List.getElem?_cons_succ,Option.some.injEq] at i5
 subst i5
 obtain ⟨i1,e0⟩:=qC tR
 subst e0
 subst Bu
 have t0:w.cell? ⟨tb,0,none⟩=some (str [108,97,109]):=by simp [World.cell?,fJ]
 have t1:w.cell? ⟨tb,1,none⟩=some (str x):=by simp [World.cell?,fJ]
 have t2:w.cell? ⟨tb,2,none⟩=some (.pointer (some ⟨kb,0,none⟩)):=by simp [World.cell?,fJ]
 have t3:w.cell? ⟨tb,3,none⟩=some (.slice (some ⟨sY,sV,none⟩) 1 pc):=by simp [World.cell?,fJ,za]
 have fg:=hp.room
 have fw:=hp.ok
 rw [zM] at fg hN
 have hak:=kr k
 have CK:=ed (uR F w 1000 k (by omega) (by unfold Lim;omega) _ hk)
 have hlen:ns.length<=999:=by omega
 by_cases fM:15<zV k
 ·have HT:=ed (show typeOf ns (.lam x k t)=none by rw [typeOf,if_pos fM])
  have hA:(15:Int)<(zV k:Int):=by omega
  obtain ⟨la,lc,rfl,_,_⟩:=AtNms.of hp.rl
  clear hp fU tS hk ib fJ fM tR lA fw hN
  go_enter Tryz.func20,Tryz.ntmps20
  go_wp2_with fail
  (with_reducible refine CK.out.mono ?_)
  rintro en w1 ⟨rfl,e⟩
  subst w1
  go_wp2_with fail
  go_ret
  exact kU.no HT.out (e_ _ _)
 have hA:¬ (15:Int)<(zV k:Int):=by omega
 have hT:typeOf ns (.lam x k t)=(typeOf (ns++[(x,k)]) t).bind fun b=>if 15<zV (zd k b) then none else some (zd k b):=by rw [typeOf,if_neg fM]
 have HT:=ed hT
 obtain ⟨xs,iu,mW⟩:∃ xs,zX F w (jM ns) xs/\∃ a c,lv=.slice a ns.length c/\v8 2 (.slice a ns.length ns.length) ns.length xs w:=by
  obtain ⟨a,c,e,_,_⟩:=AtNms.of hp.rl
  have hr:=hp.rl
  rw [e] at hr
  obtain ⟨xs,h1,h2⟩:=v8.ofRep hr (oneNm ns)
  exact ⟨xs,h1,a,c,e,h2⟩
 obtain ⟨la,lc,rfl,mW⟩:=mW
 have G0:ns.length<=lc:=by obtain ⟨a,c,e,h,_⟩:=AtNms.of hp.rl;simp only [Value.slice.injEq] at e;obtain ⟨_,_,rfl⟩:=e;exact h
 have SX:Hid (∀ w',Below w.heap.size w w'->w'.cell? ⟨tb,1,none⟩=some (str x)/\w'.cell? ⟨tb,2,none⟩=some (.pointer (some ⟨kb,0,none⟩))/\w'.cell? ⟨tb,3,none⟩=some (.slice (some ⟨sY,sV,none⟩) 1 pc)/\w'.cell? ⟨sY,sV,none⟩=some (.pointer (some ⟨i1,0,none⟩))):=by
  show ∀ w',_->_
  intro w' fN
  exact ⟨(fN.cell (e9 w _ t1)).trans t1,(fN.cell (e9 w _ t2)).trans t2,(fN.cell (e9 w _ t3)).trans t3,(fN.cell lw).trans lA⟩
 have HX:=ed (ef iu mW)
 have HP:=ed (ef hp (ef hk tR))
 have IH:=ed ih
 have HK:=ed (ef fM (ef fw hN))
 have oL:ns.length+1<=maxLen:=by unfold maxLen;omega
 have nP:(ns.length+1)*24<=140737488355328:=by omega
 clear hp fU tS hk ib fJ fM tR iu mW fw ih hN hT
 go_enter Tryz.func20,Tryz.ntmps20
 go_wp2_with fail
 (with_reducible refine CK.out.mono ?_)
 rintro en w1 ⟨rfl,e⟩
 subst w1
 go_wp2_with fail
 refine wp_region_noPanic ?_
 refine zB (fun w'=>Below w.heap.size w w') (fun _=>false) (by kernel_rfl) ?_
 have fV:(fun w'=>Below w.heap.size w w') w.drew:=Below.drew (e_ _ _)
 refine tk [0,1,2,3,4,5,6,7,8,9,10,11,12,13,14,15,16,17,18,19,20] fV ?_
 (intro d hd;simp [tkD] at hd;subst hd;simp only [tks,pQ,pZ,pS])
 iterate 21 (refine ⟨?_,?_,?_⟩;rotate_left;· (intro oi ho;simp at ho;subst ho;refine Or.inl ⟨by rfl,fun w' fB=>?_⟩;obtain ⟨e0,e1,e2,e3⟩:=SX.out w' fB;go_simp;try with_reducible rfl))
 (refine on 21 ?_;intro o ho K' hK;simp at ho;subst ho;go_simp)
 (refine hK.out _ _ (fun _=>fV.alloc (ei _) _) ?_;clear hK K';try simp only [pQ,pN,pZ,pS])
 (refine on 22 ?_;intro o ho K' hK;simp at ho;subst ho)
 have DF:zO 2 (.slice (some ⟨w.heap.size,0,none⟩) 1 1) 1 [str x,.pointer (some ⟨kb,0,none⟩)] (w.drew.alloc (.cells #[str x,.pointer (some ⟨kb,0,none⟩)] 99)):=zO.lit1 #[str x,.pointer (some ⟨kb,0,none⟩)] rfl (by simp [str,Value.oneCell']) _ (by rfl)
 have rz:v8 2 (.slice la ns.length ns.length) ns.length xs (w.drew.alloc (.cells #[str x,.pointer (some ⟨kb,0,none⟩)] 99)):=HX.out.2.drew.alloc _
 refine xz (by rfl) _ _ _ (by rfl) 99 (.agg #[str [],.pointer none]) 2 24 Tryz.underlying93 Tryz.infoBound rfl (.slice la ns.length ns.length) ns.length xs (by rfl) rz _ 1 _ (by rfl) DF (by omega) oL nP ?_
 intro c7 w7 fu fW
 have e8:(w.alloc (.cells #[str x,.pointer (some ⟨kb,0,none⟩)] 99)).drew.heap.size=w.heap.size+1:=by simp
 rw [e8] at fu
 have nG:Below w.heap.size w w7:=(fV.alloc (ei _) _).trans (fW.mono (fV.alloc (ei _) _).size)
 (refine hK.out _ _ (fun _=>nG) ?_;clear hK K';try simp only [pQ,pN,pZ,pS])
 (refine on 23 ?_;intro o ho K' hK;simp at ho;subst ho)
 have sA:Rep (fun i=>F i\/w.heap.size<=i) w7 (.sl 99 2 (ns++[(x,k)]).length (jM (ns++[(x,k)]))) (.slice (some ⟨w.heap.size+1,0,none⟩) (ns.length+1) c7):=by
  rw [List.length_append,gK]
  refine fu.rep (fun g hg=>.inr (by simp [Value.ownBlock] at hg;subst hg;exact Nat.le_succ _)) ?_
  exact (zX.below nG (fun _ h=>.inl h) HX.out.1).append (zQ.2 ⟨_,_,rfl,zH.2 rfl,zQ.2 ⟨_,_,rfl,Rep.below nG (fun _ h=>.inl h) HP.out.2.1,zC.2 rfl⟩⟩)
 have CT:=ed (IH.out (fun i=>F i\/w.heap.size<=i) t (ns++[(x,k)]) (.pointer (some ⟨i1,0,none⟩)) _ w7 (by have:=HK.out.2.2;omega) ⟨Rep.below nG (fun _ h=>.inl h) HP.out.2.2,sA,HK.out.2.1.2,(fun a ha=>by
  rw [jY] at ha
  rcases List.mem_append.1 ha with ha | ha
  ·exact HP.out.1.n15 a ha
  ·simp at ha;subst ha;have:=HK.out.1;omega),by rw [List.length_append];simp;omega⟩)
 have oO:=ed nG
 clear sA fu fW nG
 go_simp
 go_at_call 20
 (with_reducible refine CT.out.mono ?_)
 rintro en w9 ⟨bv,rfl,mB,oX,lm⟩
 have Ba:=ed (zzT oO.out mB)
 have HY:=ed (ef oX lm)
 have z7:=oO.out.size
 clear mB oX lm
 (refine hK.out _ _ (fun _=>Ba.out) ?_;clear hK K';try simp only [pQ,pN,pZ,pS])
 (refine on 24 ?_;intro o ho K' hK;simp at ho;subst ho;go_simp)
 (refine hK.out _ _ (fun _=>Ba.out) ?_;clear hK K';try simp only [pQ,pN,pZ,pS])
 refine zU (by kernel_rfl) (NoPanic.normal ?_) _
 cases hq:typeOf (ns++[(x,k)]) t with
 | none =>
   obtain rfl:=HY.out.1 hq
   have HN:=ed (show typeOf ns (.lam x k t)=none by rw [HT.out,hq];rfl)
   clear hq
   go_wp2_with fail
   go_ret
   exact kU.no HN.out Ba.out
 | some b =>
   have mj:=HY.out.2 b hq
   obtain ⟨bb,_,e,_⟩:=kZ mj
   subst e
   have ru:zV b<=15:=kg t _ b (fun a ha=>by
    rw [jY] at ha
    rcases List.mem_append.1 ha with ha | ha
    ·exact HP.out.1.n15 a ha
    ·simp at ha;subst ha;have:=HK.out.1;omega) hq
   have hbl:=uS ru
   have CW:=ed (arrow_any (fun i=>F i\/w.heap.size<=i) k b (.pointer (some ⟨kb,0,none⟩)) (.pointer (some ⟨bb,0,none⟩)) w9 (Rep.below Ba.out (fun _ h=>.inl h) HP.out.2.1) (mj.weak fun i h=>by rcases h with h | h;exact h;exact .inr (by omega)) (show _<=_ by omega))
   have HQ:=ed (show typeOf ns (.lam x k t)=if 15<zV (zd k b) then none else some (zd k b) by rw [HT.out,hq];rfl)
   obtain ⟨e0,e1,e2,e3⟩:=SX.out w9 Ba.out
   have lq:zV (zd k b)<=1000:=by
    have h1:=HK.out.1
    have:zV (zd k b)=1+zV k+zV b:=bh k b
    omega
   clear hq mj
   go_wp2_with fail
   (with_reducible refine CW.out.mono ?_)
   rintro en aI ⟨av,rfl,sC,lZ⟩
   have KW:=ed (zzT Ba.out sC)
   have Ab:Rep (fun i=>F i\/w.heap.size<=i) aI (jG (zd k b)) av:=lZ.weak fun i h=>by rcases h with h | h;exact h;exact .inr (by have:=Ba.out.size;omega)
   obtain ⟨ab,_,e,_⟩:=kZ Ab
   subst e
   have CA:=ed (uR _ aI 1000 (zd k b) lq (by unfold Lim;omega) _ Ab)
   have HR:=ed Ab
   clear sC lZ Ab e0 e1 e2 e3
   by_cases fM:15<zV (zd k b)
   ·have hA2:(15:Int)<(zV (zd k b):Int):=by omega
    have HN:=ed (show typeOf ns (.lam x k t)=none by rw [HQ.out,if_pos fM])
    generalize zV (zd k b)=A at *
    clear fM
    go_wp2_with fail
    (with_reducible refine CA.out.mono ?_)
    rintro en r9 ⟨rfl,e⟩
    subst r9
    go_wp2_with fail
    go_ret
    exact kU.no HN.out KW.out
   ·have hA2:¬ (15:Int)<(zV (zd k b):Int):=by omega
    have HN:=ed (show typeOf ns (.lam x k t)=some (zd k b) by rw [HQ.out,if_neg fM])
    generalize zV (zd k b)=A at *
    clear fM
    go_wp2_with fail
    (with_reducible refine CA.out.mono ?_)
    rintro en r9 ⟨rfl,e⟩
    subst r9
    go_wp2_with fail
    go_ret
    exact kU.yes HN.out KW.out HR.out
set_option maxRecDepth 100000 in
theorem typed_app (N:Nat) (ih:ph N) (F:Nat->Prop) (m n:Tm) (ns:List Nm) (tv lv:Value) (w:World) (hN:zM (.app m n)<=N+1) (hp:TyPre F (.app m n) ns tv lv w):Calls Tryz.prog 20 #[tv,lv] w (kU F w (typeOf ns (.app m n))):=by
 obtain ⟨tb,kv,slv,rfl,_,fJ,_,_,tS⟩:=jF hp.rt
 obtain ⟨pa,pc,rfl,_,_,fU⟩:=zP tS
 simp only [yd,yr,vN] at fJ
 obtain ⟨sY,sV,Hz,H_,Bu,_,lw,i5,lA,tR⟩:=fU 0 (by simp [za])
 simp only [za,List.map_cons,List.map_nil,List.getElem?_cons_zero,List.getElem?_cons_succ,Option.some.injEq] at i5
 subst i5
 obtain ⟨i1,e0⟩:=qC tR
 subst e0
 subst Bu
 obtain ⟨fT,fS,pu1,iE,tp,_,mL,sJ,sU,rH⟩:=fU 1 (by simp [za])
 simp only [za,List.map_cons,List.map_nil,List.getElem?_cons_zero,List.getElem?_cons_succ,Option.some.injEq] at sJ
 subst sJ
 obtain ⟨Bh,e1⟩:=qC rH
 subst e1
 simp only [Option.some.injEq,Addr.mk.injEq,and_true] at tp
 obtain ⟨rfl,rfl⟩:=tp
 have t0:w.cell? ⟨tb,0,none⟩=some (str [97,112,112]):=by simp [World.cell?,fJ]
 have t3:w.cell? ⟨tb,3,none⟩=some (.slice (some ⟨sY,sV,none⟩) 2 pc):=by simp [World.cell?,fJ,za]
 have fg:=hp.room
 have fw:=hp.ok
 rw [zM] at fg hN
 obtain ⟨la,lc,rfl,_,_⟩:=AtNms.of hp.rl
 have SX:Hid (∀ w',Below w.heap.size w w'->w'.cell? ⟨tb,3,none⟩=some (.slice (some ⟨sY,sV,none⟩) 2 pc)/\w'.cell? ⟨sY,sV,none⟩=some (.pointer (some ⟨i1,0,none⟩))/\w'.cell? ⟨sY,sV+1,none⟩=some (.pointer (some ⟨Bh,0,none⟩))):=by
  show ∀ w',_->_
  intro w' fN
  exact ⟨(fN.cell (e9 w _ t3)).trans t3,(fN.cell lw).trans lA,(fN.cell mL).trans sU⟩
 have C0:=ed (fun wz (hz:Below w.heap.size w wz)=>ih F m ns (.pointer (some ⟨i1,0,none⟩)) (.slice la ns.length lc) wz (by omega) ⟨Rep.below hz (fun _ h=>h) tR,Rep.below hz (fun _ h=>h) hp.rl,fw.1,hp.n15,by omega⟩)
 have C1:=ed (fun wz (hz:Below w.heap.size w wz)=>ih F n ns (.pointer (some ⟨Bh,0,none⟩)) (.slice la ns.length lc) wz (by omega) ⟨Rep.below hz (fun _ h=>h) rH,Rep.below hz (fun _ h=>h) hp.rl,fw.2,hp.n15,by omega⟩)
 have HN:=ed hp.n15
 clear hp fU tS fJ fw hN ih tR lA lw rH sU mL
 go_enter Tryz.func20,Tryz.ntmps20
 go_wp2_with fail
 refine wp_region_noPanic ?_
 refine zB (fun w'=>Below w.heap.size w w') (fun _=>false) (by kernel_rfl) ?_
 have fV:(fun w'=>Below w.heap.size w w') w.drew:=Below.drew (e_ _ _)
 refine tk [0,1,2,3,4,5,6,8,9,10,11,12,13,14] fV ?_
 (intro d hd;simp [tkD] at hd;subst hd;simp only [tks,pQ,pZ,pS])
 iterate 14 (refine ⟨?_,?_,?_⟩;rotate_left;· (intro oi ho;simp at ho;subst ho;refine Or.inl ⟨by rfl,fun w' fB=>?_⟩;obtain ⟨e0,e1,e2⟩:=SX.out w' fB;go_simp;try with_reducible rfl))
 (refine on 7 ?_;intro o ho K' hK;simp at ho;subst ho;go_simp)
 go_at_call 20
 (with_reducible refine (C0.out _ fV).mono ?_)
 rintro en v0 ⟨x0,rfl,fq,aZ,iM⟩
 have nZ:Hid (Below w.heap.size w v0):=fV.trans fq
 have Cx:Hid ((typeOf ns m=none->x0=.pointer none)/\(∀ k,typeOf ns m=some k->Rep (fun i=>F i\/w.heap.size<=i) v0 (jG k) x0)):=⟨aZ,fun k h=>(iM k h).weak fun i h=>by rcases h with h | h;exact .inl h;exact .inr (h)⟩
 have Hq:=ed fq
 clear fq aZ iM
 (refine hK.out _ _ (fun _=>nZ.out) ?_;clear hK K';try simp only [pQ,pN,pZ,pS])
 have A8:=nZ.out
 (refine on 15 ?_;intro o ho K' hK;simp at ho;subst ho;go_simp)
 go_at_call 20
 (with_reducible refine (C1.out _ nZ.out).mono ?_)
 rintro en v1 ⟨x1,rfl,fP,mZ,fo⟩
 have fI:Hid (Below w.heap.size w v1):=zzT nZ.out fP
 have lx:Hid ((typeOf ns n=none->x1=.pointer none)/\(∀ k,typeOf ns n=some k->Rep (fun i=>F i\/w.heap.size<=i) v1 (jG k) x1)):=⟨mZ,fun k h=>(fo k h).weak fun i h=>by rcases h with h | h;exact .inl h;exact .inr (fQ nZ.out.size h)⟩
 have A_:=ed fP
 clear fP mZ fo
 (refine hK.out _ _ (fun _=>fI.out) ?_;clear hK K';try simp only [pQ,pN,pZ,pS])
 have Cj:=fI.out
 refine tk [16,17] Cj ?_
 (intro d hd;simp [tkD] at hd;subst hd;simp only [tks,pQ,pZ,pS])
 iterate 2 (refine ⟨?_,?_,?_⟩;rotate_left;· (intro oi ho;simp at ho;subst ho;refine Or.inl ⟨by rfl,fun w' fB=>?_⟩;go_simp;try with_reducible rfl))
 refine zU (by kernel_rfl) (NoPanic.normal ?_) _
 clear t3 C0 C1
 cases hm:typeOf ns m with
 | none =>
   obtain rfl:=Cx.out.1 hm
   have HQ:=ed (show typeOf ns (.app m n)=none by rw [typeOf,hm];rfl)
   clear hm
   go_wp2_with fail
   go_ret
   exact kU.no HQ.out fI.out
 | some a =>
   have iR:=Rep.below (F':=fun i=>F i\/w.heap.size<=i) A_.out (fun _ h=>h) (Cx.out.2 a hm)
   obtain ⟨ab,ak,e,_,oT,has⟩:=kZ iR
   subst e
   cases hn:typeOf ns n with
   | none =>
     obtain rfl:=lx.out.1 hn
     have HQ:=ed (show typeOf ns (.app m n)=none by rw [typeOf,hm,hn];rfl)
     clear hm hn iR oT has
     go_wp2_with fail
     go_ret
     exact kU.no HQ.out fI.out
   | some b =>
     have mj:=lx.out.2 b hn
     obtain ⟨bb,_,e,_⟩:=kZ mj
     subst e
     have mo:=kg m ns a HN.out hm
     have ru:=kg n ns b HN.out hn
     have q0:v1.cell? ⟨ab,0,none⟩=some ak:=by simp [World.cell?,oT]
     obtain ⟨aa,ac,rfl,hac,_,Cf⟩:=zP has
     have G9:=zZ oT
     cases mU:a.args with
     | nil =>
       rw [mU] at q0
       have HQ:=ed (show typeOf ns (.app m n)=none by rw [typeOf,hm,hn,Option.bind_some,Option.bind_some,mU])
       clear hm hn iR oT has Cf mj mU hac
       go_wp2_with fail
       go_ret
       exact kU.no HQ.out fI.out
     | cons c cs =>
       rw [mU] at q0 has Cf hac
       obtain ⟨lL,At,u,d1,e,_,hkw2,oB,rZ,nI⟩:=Cf 0 (by simp)
       subst e
       simp only [jN,List.getElem?_cons_zero,Option.some.injEq] at oB
       subst oB
       obtain ⟨cb,_,e,_⟩:=kZ nI
       subst e
       have hc1':v1.cell? ⟨lL,At,none⟩=some (.pointer (some ⟨cb,0,none⟩)):=rZ
       have sO:zV c<=15:=cL mo c (by rw [mU];simp)
       have B_:zV (.mk cs)<=15:=by have:=gQ mU;omega
       have DT:cs.length<=14:=by have:=uS mo;rw [mU] at this;simp at this;omega
       have CS:=ed (dd _ c b _ _ v1 nI mj sO ru)
       by_cases he:zF c=zF b
       ·have e0:(zF c == zF b)=true:=by rw [beq_iff_eq];exact he
        rw [e0] at CS
        have HT:=ed (show typeOf ns (.app m n)=some (.mk cs) by rw [typeOf,hm,hn,Option.bind_some,Option.bind_some,mU];exact if_pos he)
        have HS:=ed has
        have D5:cs.length+1<=ac:=by simpa using hac
        have KEY:∀ (v2:World) (ra:Option Addr) (rc:Nat),Below w.heap.size w v2->Rep (fun i=>F i\/w.heap.size<=i) v2 (.sl 33 1 cs.length (jN cs)) (.slice ra cs.length rc) ->
         Rep (fun i=>F i\/w.heap.size<=i) (v2.alloc (.cells #[.slice ra cs.length rc] 102)) (jG (.mk cs)) (.pointer (some ⟨v2.heap.size,0,none⟩)):=fun v2 ra rc h hr =>
         pu (.inr h.size) (zG _ _) (Rep.below ((e_ _ _).alloc (ei _) _) (fun _ h=>h) hr)
        have HK:=ed KEY
        have hA:¬ (15:Int)<(zV (.mk cs):Int):=by omega
        have KY:=ed B_
        clear hm hn iR oT has Cf mj mU he e0 rZ nI mo ru B_ sO KEY hac
        go_wp2_with fail
        (with_reducible refine CS.out.mono ?_)
        rintro en v2 ⟨rfl,fY⟩
        have q0':=(fY.cell (p:=⟨ab,0,none⟩) G9).trans q0
        have fL:=ed (zzT fI.out fY)
        have KI:=ed (Rep.below (F':=fun i=>F i\/w.heap.size<=i) fY (fun _ h=>h) HS.out)
        clear fY q0 hc1'
        by_cases hac1:ac=1
        ·subst hac1
         have hcs:cs.length=0:=by omega
         obtain rfl:=List.eq_nil_of_length_eq_zero hcs
         have mt:Rep (fun i=>F i\/w.heap.size<=i) v2 (.sl 33 1 ([]:List Ty).length (jN [])) (.slice (some ⟨lL,At,none⟩) ([]:List Ty).length 0):=zp.2 ⟨rfl,_,_,rfl,ei _,fun h=>by simp at h,.inl rfl⟩
         have tG:Rep (fun i=>F i\/w.heap.size<=i) (v2.alloc (.cells #[.slice (some ⟨lL,At,none⟩) 0 0] 102)) (jG (.mk [])) (.pointer (some ⟨v2.heap.size,0,none⟩)):=HK.out v2 _ _ fL.out mt
         have CA:=ed (uR _ _ 15 (.mk []) KY.out (by unfold Lim;omega) _ tG)
         have HR:=ed tG
         clear mt tG hcs
         go_wp2_with fail
         (with_reducible refine CA.out.mono ?_)
         rintro en w3 ⟨rfl,e⟩
         subst w3
         go_wp2_with fail
         go_ret
         exact kU.yes HT.out (fL.out.alloc fL.out.size _) HR.out
        ·have mt:Rep (fun i=>F i\/w.heap.size<=i) v2 (.sl 33 1 cs.length (jN cs)) (.slice (some ⟨lL,At+1,none⟩) cs.length (ac-1)):=wH (d:=jG c) KI.out
         have CA:=ed (uR _ _ 15 (.mk cs) KY.out (by unfold Lim;omega) _ (HK.out v2 _ _ fL.out mt))
         have HR:=ed (HK.out v2 _ _ fL.out mt)
         clear mt
         go_wp2_with fail
         (with_reducible refine CA.out.mono ?_)
         rintro en w3 ⟨rfl,e⟩
         subst w3
         go_wp2_with fail
         go_ret
         exact kU.yes HT.out (fL.out.alloc fL.out.size _) HR.out
       ·have e0:(zF c == zF b)=false:=by rw [beq_eq_false_iff_ne];exact he
        rw [e0] at CS
        have HT:=ed (show typeOf ns (.app m n)=none by rw [typeOf,hm,hn,Option.bind_some,Option.bind_some,mU];exact if_neg he)
        clear hm hn iR oT has Cf mj mU he e0 rZ nI mo ru B_ sO
        go_wp2_with fail
        (with_reducible refine CS.out.mono ?_)
        rintro en v2 ⟨rfl,fY⟩
        have fL:=ed (zzT fI.out fY)
        clear fY
        go_wp2_with fail
        go_ret
        exact kU.no HT.out fL.out
set_option maxRecDepth 100000 in
theorem typed_ite (N:Nat) (ih:ph N) (F:Nat->Prop) (l m n:Tm) (ns:List Nm) (tv lv:Value) (w:World) (hN:zM (.ite l m n)<=N+1) (hp:TyPre F (.ite l m n) ns tv lv w):Calls Tryz.prog 20 #[tv,lv] w (kU F w (typeOf ns (.ite l m n))):=by
 obtain ⟨tb,kv,slv,rfl,_,fJ,_,_,tS⟩:=jF hp.rt
 obtain ⟨pa,pc,rfl,_,_,fU⟩:=zP tS
 simp only [yd,yr,ifW] at fJ
 obtain ⟨sY,sV,Hz,H_,Bu,_,lw,i5,lA,tR⟩:=fU 0 (by simp [za])
 simp only [za,List.map_cons,List.map_nil,List.getElem?_cons_zero,List.getElem?_cons_succ,Option.some.injEq] at i5
 subst i5
 obtain ⟨i1,e0⟩:=qC tR
 subst e0
 subst Bu
 obtain ⟨fT,fS,pu1,iE,tp,_,mL,sJ,sU,rH⟩:=fU 1 (by simp [za])
 simp only [za,List.map_cons,List.map_nil,List.getElem?_cons_zero,List.getElem?_cons_succ,Option.some.injEq] at sJ
 subst sJ
 obtain ⟨Bh,e1⟩:=qC rH
 subst e1
 simp only [Option.some.injEq,Addr.mk.injEq,and_true] at tp
 obtain ⟨rfl,rfl⟩:=tp
 obtain ⟨Fs,Fq,pu2,iD,tw,_,i2,tx,tg,sf⟩:=fU 2 (by simp [za])
 simp only [za,List.map_cons,List.map_nil,List.getElem?_cons_zero,List.getElem?_cons_succ,Option.some.injEq] at tx
 subst tx
 obtain ⟨Hu,e2⟩:=qC sf
 subst e2
 simp only [Option.some.injEq,Addr.mk.injEq,and_true] at tw
 obtain ⟨rfl,rfl⟩:=tw
 have t0:w.cell? ⟨tb,0,none⟩=some (str [105,102]):=by simp [World.cell?,fJ]
 have t3:w.cell? ⟨tb,3,none⟩=some (.slice (some ⟨sY,sV,none⟩) 3 pc):=by simp [World.cell?,fJ,za]
 have fg:=hp.room
 have fw:=hp.ok
 rw [zM] at fg hN
 obtain ⟨la,lc,rfl,_,_⟩:=AtNms.of hp.rl
 have SX:Hid (∀ w',Below w.heap.size w w'->w'.cell? ⟨tb,3,none⟩=some (.slice (some ⟨sY,sV,none⟩) 3 pc)/\w'.cell? ⟨sY,sV,none⟩=some (.pointer (some ⟨i1,0,none⟩))/\w'.cell? ⟨sY,sV+1,none⟩=some (.pointer (some ⟨Bh,0,none⟩))/\w'.cell? ⟨sY,sV+2,none⟩=some (.pointer (some ⟨Hu,0,none⟩))):=by
  show ∀ w',_->_
  intro w' fN
  exact ⟨(fN.cell (e9 w _ t3)).trans t3,(fN.cell lw).trans lA,(fN.cell mL).trans sU,(fN.cell i2).trans tg⟩
 have C0:=ed (fun wz (hz:Below w.heap.size w wz)=>ih F l ns (.pointer (some ⟨i1,0,none⟩)) (.slice la ns.length lc) wz (by omega) ⟨Rep.below hz (fun _ h=>h) tR,Rep.below hz (fun _ h=>h) hp.rl,fw.1,hp.n15,by omega⟩)
 have C1:=ed (fun wz (hz:Below w.heap.size w wz)=>ih F m ns (.pointer (some ⟨Bh,0,none⟩)) (.slice la ns.length lc) wz (by omega) ⟨Rep.below hz (fun _ h=>h) rH,Rep.below hz (fun _ h=>h) hp.rl,fw.2.1,hp.n15,by omega⟩)
 have C2:=ed (fun wz (hz:Below w.heap.size w wz)=>ih F n ns (.pointer (some ⟨Hu,0,none⟩)) (.slice la ns.length lc) wz (by omega) ⟨Rep.below hz (fun _ h=>h) sf,Rep.below hz (fun _ h=>h) hp.rl,fw.2.2,hp.n15,by omega⟩)
 have HN:=ed hp.n15
 clear hp fU tS fJ fw hN ih tR lA lw rH sU mL sf tg i2
 go_enter Tryz.func20,Tryz.ntmps20
 go_wp2_with fail
 refine wp_region_noPanic ?_
 refine zB (fun w'=>Below w.heap.size w w') (fun _=>false) (by kernel_rfl) ?_
 have fV:(fun w'=>Below w.heap.size w w') w.drew:=Below.drew (e_ _ _)
 refine tk [0,1,2,3,4,5,6,8,9,10,11,12,13,14,16,17,18,19,20,21,22] fV ?_
 (intro d hd;simp [tkD] at hd;subst hd;simp only [tks,pQ,pZ,pS])
 iterate 21 (refine ⟨?_,?_,?_⟩;rotate_left;· (intro oi ho;simp at ho;subst ho;refine Or.inl ⟨by rfl,fun w' fB=>?_⟩;obtain ⟨e0,e1,e2,e3⟩:=SX.out w' fB;go_simp;try with_reducible rfl))
 (refine on 7 ?_;intro o ho K' hK;simp at ho;subst ho;go_simp)
 go_at_call 20
 (with_reducible refine (C0.out _ fV).mono ?_)
 rintro en v0 ⟨x0,rfl,fq,aZ,iM⟩
 have nZ:Hid (Below w.heap.size w v0):=fV.trans fq
 have Cx:Hid ((typeOf ns l=none->x0=.pointer none)/\(∀ k,typeOf ns l=some k->Rep (fun i=>F i\/w.heap.size<=i) v0 (jG k) x0)):=⟨aZ,fun k h=>(iM k h).weak fun i h=>by rcases h with h | h;exact .inl h;exact .inr (h)⟩
 have Hq:=ed fq
 clear fq aZ iM
 (refine hK.out _ _ (fun _=>nZ.out) ?_;clear hK K';try simp only [pQ,pN,pZ,pS])
 have A8:=nZ.out
 (refine on 15 ?_;intro o ho K' hK;simp at ho;subst ho;go_simp)
 go_at_call 20
 (with_reducible refine (C1.out _ nZ.out).mono ?_)
 rintro en v1 ⟨x1,rfl,fP,mZ,fo⟩
 have fI:Hid (Below w.heap.size w v1):=zzT nZ.out fP
 have lx:Hid ((typeOf ns m=none->x1=.pointer none)/\(∀ k,typeOf ns m=some k->Rep (fun i=>F i\/w.heap.size<=i) v1 (jG k) x1)):=⟨mZ,fun k h=>(fo k h).weak fun i h=>by rcases h with h | h;exact .inl h;exact .inr (fQ nZ.out.size h)⟩
 have A_:=ed fP
 clear fP mZ fo
 (refine hK.out _ _ (fun _=>fI.out) ?_;clear hK K';try simp only [pQ,pN,pZ,pS])
 have Cj:=fI.out
 (refine on 23 ?_;intro o ho K' hK;simp at ho;subst ho;go_simp)
 go_at_call 20
 (with_reducible refine (C2.out _ fI.out).mono ?_)
 rintro en v2 ⟨x2,rfl,fY,sZ,tW⟩
 have fL:Hid (Below w.heap.size w v2):=zzT fI.out fY
 have ET:Hid ((typeOf ns n=none->x2=.pointer none)/\(∀ k,typeOf ns n=some k->Rep (fun i=>F i\/w.heap.size<=i) v2 (jG k) x2)):=⟨sZ,fun k h=>(tW k h).weak fun i h=>by rcases h with h | h;exact .inl h;exact .inr (fQ fI.out.size h)⟩
 have KV:=ed fY
 clear fY sZ tW
 (refine hK.out _ _ (fun _=>fL.out) ?_;clear hK K';try simp only [pQ,pN,pZ,pS])
 have Gm:=fL.out
 refine tk [24,25,26] Gm ?_
 (intro d hd;simp [tkD] at hd;subst hd;simp only [tks,pQ,pZ,pS])
 iterate 3 (refine ⟨?_,?_,?_⟩;rotate_left;· (intro oi ho;simp at ho;subst ho;refine Or.inl ⟨by rfl,fun w' fB=>?_⟩;go_simp;try with_reducible rfl))
 refine zU (by kernel_rfl) (NoPanic.normal ?_) _
 clear t3 C0 C1 C2
 cases hl:typeOf ns l with
 | none =>
   obtain rfl:=Cx.out.1 hl
   have HQ:=ed (show typeOf ns (.ite l m n)=none by rw [typeOf,hl];rfl)
   clear hl
   go_wp2_with fail
   go_ret
   exact kU.no HQ.out fL.out
 | some a =>
   have iR:=Rep.below (F':=fun i=>F i\/w.heap.size<=i) KV.out (fun _ h=>h) (Rep.below (F':=fun i=>F i\/w.heap.size<=i) A_.out (fun _ h=>h) (Cx.out.2 a hl))
   obtain ⟨ab,ak,e,_,oT,has⟩:=kZ iR
   subst e
   cases hm:typeOf ns m with
   | none =>
     obtain rfl:=lx.out.1 hm
     have HQ:=ed (show typeOf ns (.ite l m n)=none by rw [typeOf,hl,hm];rfl)
     clear hl hm iR oT has
     go_wp2_with fail
     go_ret
     exact kU.no HQ.out fL.out
   | some b =>
     have mj:=Rep.below (F':=fun i=>F i\/w.heap.size<=i) KV.out (fun _ h=>h) (lx.out.2 b hm)
     obtain ⟨bb,_,e,_⟩:=kZ mj
     subst e
     cases hn:typeOf ns n with
     | none =>
       obtain rfl:=ET.out.1 hn
       have HQ:=ed (show typeOf ns (.ite l m n)=none by rw [typeOf,hl,hm,hn];rfl)
       clear hl hm hn iR oT has mj
       go_wp2_with fail
       go_ret
       exact kU.no HQ.out fL.out
     | some c =>
       have FJ:=ET.out.2 c hn
       obtain ⟨cb,_,e,_⟩:=kZ FJ
       subst e
       have ru:=kg m ns b HN.out hm
       have sO:=kg n ns c HN.out hn
       have q0:v2.cell? ⟨ab,0,none⟩=some ak:=by simp [World.cell?,oT]
       obtain ⟨aa,ac,rfl,_,_,_⟩:=zP has
       cases mU:a.args with
       | cons d ds =>
         have hd:((((d::ds).length:Nat):Int) == 0)=false:=by rw [beq_eq_false_iff_ne];simp;omega
         rw [mU] at q0
         generalize (d::ds).length=L at *
         have HQ:=ed (show typeOf ns (.ite l m n)=none by rw [typeOf,hl,hm,hn,Option.bind_some,Option.bind_some,Option.bind_some,if_neg (by rw [mU];simp)])
         clear hl hm hn iR oT has mj FJ mU
         go_wp2_with fail
         go_ret
         exact kU.no HQ.out fL.out
       | nil =>
         rw [mU] at q0
         have CS:=ed (dd _ b c _ _ v2 mj FJ ru sO)
         have CA:=ed (fun wz (h:Below v2.heap.size v2 wz)=>uR _ wz 15 b ru (by unfold Lim;omega) _ (Rep.below (F':=fun i=>F i\/w.heap.size<=i) h (fun _ h=>h) mj))
         have HR:=ed mj
         by_cases he:zF b=zF c
         ·have e0:(zF b == zF c)=true:=by rw [beq_iff_eq];exact he
          rw [e0] at CS
          have HT:=ed (show typeOf ns (.ite l m n)=some b by rw [typeOf,hl,hm,hn,Option.bind_some,Option.bind_some,Option.bind_some,if_pos ⟨mU,he⟩])
          have hA:¬ (15:Int)<(zV b:Int):=by omega
          clear hl hm hn iR oT has mj FJ mU he e0 ru sO
          go_wp2_with fail
          (with_reducible refine CS.out.mono ?_)
          rintro en w3 ⟨rfl,fE⟩
          have mp:=ed (zzT fL.out fE)
          have HR3:=ed (Rep.below (F':=fun i=>F i\/w.heap.size<=i) fE (fun _ h=>h) HR.out)
          have CA3:=ed (CA.out w3 fE)
          clear fE
          go_wp2_with fail
          (with_reducible refine CA3.out.mono ?_)
          rintro en w4 ⟨rfl,e⟩
          subst w4
          go_wp2_with fail
          go_ret
          exact kU.yes HT.out mp.out HR3.out
         ·have e0:(zF b == zF c)=false:=by rw [beq_eq_false_iff_ne];exact he
          rw [e0] at CS
          have HT:=ed (show typeOf ns (.ite l m n)=none by rw [typeOf,hl,hm,hn,Option.bind_some,Option.bind_some,Option.bind_some,if_neg (fun h=>he h.2)])
          clear hl hm hn iR oT has mj FJ mU he e0 ru sO
          go_wp2_with fail
          (with_reducible refine CS.out.mono ?_)
          rintro en w3 ⟨rfl,fE⟩
          have mp:=ed (zzT fL.out fE)
          clear fE
          go_wp2_with fail
          go_ret
          exact kU.no HT.out mp.out
theorem b_ (N:Nat):ph N:=by
 induction N with
 | zero=>exact fun F t ns tv lv w h=>by have:=dg t;omega
 | succ N ih =>
   intro F t ns tv lv w h hp
   cases t with
   | nm x=>exact typed_nm F x ns tv lv w hp
   | wd u=>exact typed_wd F u ns tv lv w hp
   | lam x k t=>exact typed_lam N ih F x k t ns tv lv w h hp
   | app m n=>exact typed_app N ih F m n ns tv lv w h hp
   | ite l m n=>exact typed_ite N ih F l m n ns tv lv w h hp
end Go.Proofs.YtjggkhmojjaomaaGreatDoor

/- Walks of functions that the statement reaches, and plain words. No conditions. -/
import Derived.Test.YtfedjhgaeikjmaaGreatDoorQ9
set_option linter.unusedVariables false
set_option linter.unusedSimpArgs false
set_option maxHeartbeats 8000000
namespace Go.Proofs.YtfedjhgaeikjmaaGreatDoor
open Go.RowKit
mutual
def kU:Ty->Bs->List Bs
 | .mk ts,p=>(113::p)::(116::p)::(102::p)::z9 ts 0 p
def z9:List Ty->Nat->Bs->List Bs
 | [],_,_=>[]
 | a::ts,i,p=>kU a (p++dec i)++z9 ts (i+1) p
end
theorem movesT_eq (t:Ty) (p:Bs):kU t p=[113::p,116::p,102::p]++z9 t.args 0 p:=by
 cases t;rw [kU];rfl
theorem xL:∀ (ts:List Ty) (a:Ty) (i:Nat) (p:Bs),z9 (ts++[a]) i p=z9 ts i p++kU a (p++dec (i+ts.length))
 | [],a,i,p=>by rw [List.nil_append,z9,z9,z9];simp
 | b::ts,a,i,p=>by rw [List.cons_append,z9,z9,xL ts a (i+1) p,List.append_assoc,List.length_cons,show i+1+ts.length=i+(ts.length+1) from by omega]
theorem movesTs_take {ts:List Ty} {i:Nat} {a:Ty} (h:ts[i]? = some a) (p:Bs):z9 (ts.take (i+1)) 0 p=z9 (ts.take i) 0 p++kU a (p++dec i):=by
 have hl:=(List.getElem?_eq_some_iff.1 h).1
 rw [List.take_add_one,h,Option.toList_some,xL,List.length_take,show 0+min i ts.length=i from by omega]
mutual
theorem gI:∀ (t:Ty) (p:Bs),2*(kU t p).length<=3*(zW t+1)
 | .mk ts,p=>by
   have:=un ts 0 p
   rw [kU,zW]
   simp only [List.length_cons];omega
theorem un:∀ (ts:List Ty) (i:Nat) (p:Bs),2*(z9 ts i p).length<=3*zj ts
 | [],_,_=>by simp [z9]
 | a::ts,i,p=>by
   have h1:=gI a (p++dec i)
   have h2:=un ts (i+1) p
   rw [z9,zj,List.length_append];omega
end
mutual
theorem movesT_ok (t0:Ty):∀ (t:Ty) (p:Bs),atT t0 p=some t->zW t<=15->∀ m∈kU t p,jH t0 m=true
 | .mk ts,p,h,bL,m,hm=>by
   rw [kU] at hm
   simp only [List.mem_cons] at hm
   rcases hm with rfl | rfl | rfl | hm
   ·simp only [jH,h];rfl
   ·simp only [jH,h];rfl
   ·simp only [jH,h];rfl
   ·have h1:=kd (.mk ts)
    refine gL t0 (.mk ts) p h ts 0 (by simp [Ty.args]) (by show 0+ts.length<=10;have:(Ty.mk ts).args=ts:=rfl;rw [this] at h1;omega) (fun a ha=>?_) m hm
    obtain ⟨i,hi⟩:=List.mem_iff_getElem?.1 ha
    have:=xZ (t:=.mk ts) hi
    omega
theorem gL (t0 t:Ty) (p:Bs) (h:atT t0 p=some t):∀ (ts:List Ty) (i:Nat),ts=t.args.drop i->i+ts.length<=10->(∀ a∈ts,zW a<=15)->∀ m∈z9 ts i p,jH t0 m=true
 | [],_,_,_,_,m,hm=>by simp [z9] at hm
 | a::ts,i,e,h10,bL,m,hm=>by
   rw [List.length_cons] at h10
   rw [z9,List.mem_append] at hm
   have ha:t.args[i]? = some a:=by
    have:(t.args.drop i)[0]? = some a:=by rw [<- e];rfl
    rwa [List.getElem?_drop,Nat.add_zero] at this
   rcases hm with hm | hm
   ·refine movesT_ok t0 a (p++dec i) ?_ (bL a (List.mem_cons_self ..)) m hm
    rw [jf,h,Option.bind_some,qB (by omega),atT_digit _ (by omega)];exact ha
   ·refine gL t0 t p h ts (i+1) ?_ (by omega) (fun a' h'=>bL a' (List.mem_cons_of_mem _ h')) m hm
    rw [<- List.drop_drop,<- e];rfl
end
def yU (t:Ty) (v:Pl) (m:Bs) (i:Nat):Bool:=zv t (v++[(m,(i:Int))]) && qd (v++[(m,(i:Int))])
def fitsS (v:Pl) (m:Bs) (i:Nat):Bool:=(kW v (decide (v.length % 2=0)) v.length).contains i && (!(m == [113]) && (kC m == decide (v.length % 2=0)) && ((v[i]?).map (·.1) == some (qe m))) && (isQ m || kL v v.length [] == (i:Int))
theorem fits_eq {t:Ty} {v:Pl} (hv:zv t v=true) (hl:qd v=true) (h0:0<v.length) (ci:v.length<60) {m:Bs} (hm:jH t m=true) {i:Nat} (hi:i<v.length):yU t v m i=fitsS v m i:=by
 have bD:=snoc_new v (m,(i:Int))
 have b4:jT t (v++[(m,(i:Int))]) v.length=((kC m == decide (v.length % 2=0)) && (!(m == [113]) && ((v[i]?).map (·.1) == some (qe m)))):=by
  unfold jT
  rw [bD]
  simp only
  rw [if_neg (by omega),hm,Int.toNat_natCast,vu hi,decide_eq_true (show (0:Int)<=(i:Int) by omega),decide_eq_true (show (i:Int)<(v.length:Int) by omega),Bool.true_and,Bool.true_and]
  rfl
 have ml:(((kW v (kC m) v.length).map fun n=>((n:Nat):Int)).contains (i:Int))=(kW v (kC m) v.length).contains i:=by
  rw [Bool.eq_iff_iff,List.contains_iff_mem,List.contains_iff_mem,List.mem_map]
  exact ⟨fun ⟨a,h1,h2⟩=>by obtain rfl:a=i:=by omega
                           exact h1,fun h=>⟨i,h,rfl⟩⟩
 unfold yU fitsS
 rw [p9 hv,b4,gz hv hl,xX bD h0,xt bD,yh hv _ _ (bX _),vM v _ _ _ (bX _),ml,decide_eq_true ci,Bool.true_and]
 cases hb:(kC m == decide (v.length % 2=0)) with
 | false=>simp
 | true =>
   have e:kC m=decide (v.length % 2=0):=by simpa using hb
   rw [e]
   have hz:((i:Int) == kL v v.length [])=(kL v v.length [] == (i:Int)):=by
    rw [Bool.eq_iff_iff,beq_iff_eq,beq_iff_eq];exact eq_comm
   rw [hz]
   cases (kW v (decide (v.length % 2=0)) v.length).contains i <;> cases (m == [113]) <;> cases ((v[i]?).map (·.1) == some (qe m)) <;> simp
def wW (t:Ty) (v:Pl) (i:Nat) (ms:List Bs):List Pl:=ms.filterMap fun m=>if yU t v m i then some (v++[(m,(i:Int))]) else none
def uO (t:Ty) (v:Pl) (n:Nat):List Pl:=(List.range n).flatMap fun i=>wW t v i (kU t [])
def j7 (t:Ty) (v:Pl):List Pl:=if v.length=0 then [[([113],-1)]] else uO t v v.length
theorem rowL_snoc (t:Ty) (v:Pl) (i:Nat) (ms:List Bs) (m:Bs):wW t v i (ms++[m])=wW t v i ms++(if yU t v m i then [v++[(m,(i:Int))]] else []):=by
 unfold wW
 rw [List.filterMap_append]
 congr 1
 by_cases h:yU t v m i=true
 ·simp [h]
 ·simp [h]
theorem rowL_take {t:Ty} {v:Pl} {i j:Nat} {ms:List Bs} {m:Bs} (h:ms[j]? = some m):wW t v i (ms.take (j+1))=wW t v i (ms.take j)++(if yU t v m i then [v++[(m,(i:Int))]] else []):=by
 rw [List.take_add_one,h,Option.toList_some,rowL_snoc]
theorem rowL_nil (t:Ty) (v:Pl) (i:Nat):wW t v i []=[]:=rfl
theorem ym (t:Ty) (v:Pl) (n:Nat):uO t v (n+1)=uO t v n++wW t v n (kU t []):=by
 unfold uO;rw [List.range_succ,List.flatMap_append];simp
theorem rowL_len (t:Ty) (v:Pl) (i:Nat) (ms:List Bs):(wW t v i ms).length<=ms.length:=List.length_filterMap_le ..
theorem xA {t:Ty} (bL:zW t<=15) (p:Bs):(kU t p).length<=24:=by have:=gI t p;omega
theorem wD {t:Ty} (bL:zW t<=15) (v:Pl):∀ n,(uO t v n).length<=24*n
 | 0=>by simp [uO]
 | n+1=>by
   have h1:=wD bL v n
   have h2:=rowL_len t v n (kU t [])
   have h3:=xA bL []
   rw [ym,List.length_append];omega
theorem nextL_len {t:Ty} (bL:zW t<=15) (v:Pl):(j7 t v).length<=24*v.length+1:=by
 unfold j7
 split
 ·simp
 ·have:=wD bL v v.length;omega
def LegPl (t:Ty) (v:Pl):Prop:=zv t v=true/\qd v=true
theorem mem_next {t:Ty} {v u:Pl} (h0:v.length≠0) (h:u∈j7 t v):∃ m i,i<v.length/\u=v++[(m,(i:Int))]/\LegPl t u:=by
 unfold j7 uO at h
 rw [if_neg h0] at h
 simp only [List.mem_flatMap,List.mem_range,wW,List.mem_filterMap] at h
 obtain ⟨i,hi,m,_,hm⟩:=h
 split at hm
 ·rename_i hf
  obtain rfl:=Option.some.inj hm
  unfold yU at hf
  rw [Bool.and_eq_true] at hf
  exact ⟨m,i,hi,rfl,hf⟩
 ·simp at hm
theorem leg_first (t:Ty):LegPl t [([113],-1)]:=by
 constructor
 ·unfold zv qW qW jT jH
  simp only [List.length_singleton,List.getElem?_cons_zero,jw]
  rfl
 ·decide
theorem next_leg {t:Ty} {v u:Pl} (h:u∈j7 t v):LegPl t u/\u.length=v.length+1:=by
 by_cases h0:v.length=0
 ·unfold j7 at h
  rw [if_pos h0,List.mem_singleton] at h
  subst h
  exact ⟨leg_first t,by rw [h0];rfl⟩
 ·obtain ⟨m,i,hi,rfl,hl⟩:=mem_next h0 h
  exact ⟨hl,by rw [List.length_append];rfl⟩
theorem next_in {t:Ty} {b:Bd} {v u:Pl} (hv:yD t b v) (he:v.length % 2=0) (h:u∈j7 t v):yD t b u/\u.length=v.length+1:=by
 obtain ⟨h1,h2⟩:=next_leg h
 refine ⟨⟨h1.1,h1.2,fun j hj hjo=>?_⟩,h2⟩
 by_cases h0:v.length=0
 ·omega
 ·obtain ⟨m,i,hi,rfl,hl⟩:=mem_next h0 h
  exact xh hl.1 v.length (bX _) hv.fo j (by omega) hjo
def stepL (t:Ty) (b:Bd) (v:Pl):List Pl:=match qN t b v with
 | none=>[]
 | some u=>j7 t u
def vt (t:Ty) (b:Bd):Nat->List Pl
 | 0=>j7 t []
 | r+1=>(vt t b r).flatMap (stepL t b)
def jX (t:Ty) (b:Bd):Nat->List Pl
 | 0=>[[]]
 | r+1=>jX t b r++vt t b r
theorem in_nil (t:Ty) (b:Bd):yD t b []:=⟨rfl,rfl,fun i hi=>absurd hi (by simp)⟩
theorem pz {t:Ty} {b:Bd} (bL:zW t<=15) (hf:kB t.args b) (hw:wfB b):∀ r,r<=20->∀ u∈vt t b r,yD t b u/\u.length=2*r+1
 | 0,_,u,hu=>by
   obtain ⟨h1,h2⟩:=next_in (in_nil t b) rfl hu
   exact ⟨h1,h2⟩
 | r+1,hr,u,hu=>by
   rw [vt,List.mem_flatMap] at hu
   obtain ⟨v,hv,hu⟩:=hu
   obtain ⟨h1,h2⟩:=pz bL hf hw r (by omega) v hv
   unfold stepL qN at hu
   rw [if_neg (by omega)] at hu
   cases hx:kZ t b v v.length with
   | none=>rw [hx] at hu;simp at hu
   | some x =>
     rw [hx] at hu
     simp only [Option.map_some] at hu
     have h3:=ue bL hf hw h1 (by omega) (by omega) hx
     have hl:(v++[x]).length=v.length+1:=by rw [List.length_append];rfl
     obtain ⟨h4,h5⟩:=next_in h3 (by omega) hu
     exact ⟨h4,by omega⟩
theorem out_in {t:Ty} {b:Bd} (bL:zW t<=15) (hf:kB t.args b) (hw:wfB b):∀ r,r<=20->∀ u∈jX t b r,yD t b u/\u.length<=2*r/\(u.length=0\/u.length % 2=1)
 | 0,_,u,hu=>by
   rw [jX,List.mem_singleton] at hu
   subst hu
   exact ⟨in_nil t b,bX _,.inl rfl⟩
 | r+1,hr,u,hu=>by
   rw [jX,List.mem_append] at hu
   rcases hu with hu | hu
   ·obtain ⟨h1,h2,h3⟩:=out_in bL hf hw r (by omega) u hu
    exact ⟨h1,by omega,h3⟩
   ·obtain ⟨h1,h2⟩:=pz bL hf hw r (by omega) u hu
    exact ⟨h1,by omega,.inr (by omega)⟩
theorem gT (t:Ty) (b:Bd) {r q:Nat} (h:r<=q):(jX t b r).length<=(jX t b q).length:=by
 induction q with
 | zero=>obtain rfl:r=0:=by omega
         exact bX _
 | succ q ih =>
   rcases Nat.lt_or_ge r (q+1) with h' | h'
   ·have:=ih (by omega)
    rw [jX,List.length_append];omega
   ·obtain rfl:r=q+1:=by omega
    exact bX _
def qR (s text:Bs) (n:Int):Option (List Pl):=match zM s text with
 | none=>none
 | some b=>if n<0\/8<n then none else if 300<(jX (zV s).1 b ((n.toNat+1) / 2)).length then none else some (jX (zV s).1 b ((n.toNat+1) / 2))
theorem flat_take {α β:Type} {l:List α} {i:Nat} {x:α} (h:l[i]? = some x) (f:α->List β):(l.take (i+1)).flatMap f=(l.take i).flatMap f++f x:=by
 rw [List.take_add_one,h,Option.toList_some,List.flatMap_append];simp
theorem flat_take_le {α β:Type} (l:List α) (f:α->List β) (i:Nat):((l.take i).flatMap f).length<=(l.flatMap f).length:=by
 have:(l.take i).flatMap f++(l.drop i).flatMap f=l.flatMap f:=by rw [<- List.flatMap_append,List.take_append_drop]
 rw [<- this,List.length_append];omega
set_option maxRecDepth 100000 in
theorem yx (t:Ty) (b:Bd) (v:Pl) (tv mv pt:Value) (nv:List Value) (w:World) (hk:Rep (fun _=>True) w (qZ t) tv) (hb:zq (fun _=>True) w (ke b) nv) (hm:vU (fun _=>True) t v mv pt w)
 (bL:zW t<=15) (hf:kB t.args b) (hw:wfB b) :
 Calls Tryz.prog 50 #[.agg #[tv],.agg nv.toArray,.agg #[mv,pt]] w fun en w'=>en=.returned (.bool (decide (zI t b v v.length)))/\Below w.heap.size w w':=by
 have ci:=ze hm.ok
 obtain ⟨vi,a2,c2,a3,c3,rfl,_,_⟩:=jI hb
 obtain ⟨ta,tc,rfl⟩:=zu hk
 obtain ⟨ma,mc,rfl,rX,_⟩:=zO hm.m
 obtain ⟨pa,pc,rfl,rU,_⟩:=zO hm.p
 obtain ⟨_,_,e1,cH⟩:=hm.m.cells
 obtain ⟨_,_,e2,cw⟩:=hm.p.cells
 simp only [Value.slice.injEq,true_and] at e1 e2
 obtain ⟨rfl,rfl⟩:=e1
 obtain ⟨rfl,rfl⟩:=e2
 generalize hq0:jx b=q0 at *
 generalize nC:(qg b).length=q2 at *
 generalize hq3:(jk b).length=q3 at *
 obtain ⟨W,hW,bM,hz,b0,b1,b2⟩:=boxes_3 w (.cells #[.slice ta t.args.length tc] 61) (.cells #[str q0,.int .i64 vi,.slice a2 q2 c2,.slice a3 q3 c3] 64) (.cells #[.slice ma v.length mc,.slice pa v.length pc] 33)
 have PF:=bU (fun e (he:e<v.length) (rr:e % 2=0)=>jS bL hf hw hm.ok e he rr)
 have RPL:=bU (fun (y:World) (hy:Below w.heap.size w y) (k n:Nat) (s0:St) (hnk:n=k+1) (rP:n<=v.length) (eT:k % 2=0) (dY:zI t b v k) (c_:k7 t b v (k+1)=some s0) (mv' pt':Value) (h1:qH (fun _=>True) w (v.take n) mv') (h2:qG (fun _=>True) w (v.take n) pt') =>
  yJ (fun _=>True) t b (v.take n) k s0 (.slice ta t.args.length tc) mv' pt' [str q0,.int .i64 vi,.slice a2 q2 c2,.slice a3 q3 c3] y (hk.below hy fun _ h=>h) ((Rep.keep fun i o hi ho=>⟨hi,by rw [hy.block i (zZ ho)];exact ho⟩).2 _ _ hb) ((hm.take h1 h2).below hy) bL hf hw (by rw [List.length_take];omega) eT (follows_take hm.ok b (by omega) (by omega) dY) (by rw [jv hm.ok b (by omega) (by omega)];exact c_))
 have HH:=bU (bY cH (bY cw (bY bM (bY hm (bY rX rU)))))
 have HW:=bU (bY hW (bY hz (bY b0 (bY b1 b2))))
 clear hm cH cw hz b0 b1 b2 bM hW hk hb bL hf hw rX rU
 obtain ⟨c0,c1,_,_⟩:=zJ HW.out.2.2.2.2
 go_enter Tryz.func50,Tryz.ntmps50
 go_upto_region 1 with (fail)
 rw [HW.out.1]
 go_wp2_with fail
 go_loopw [7] (fun i wr=>∃ (wz:World) (k n:Nat),wz=wr/\n=k+1/\k % 2=0/\k<=v.length+1/\i=.int .i64 (n:Nat)/\zI t b v n/\Below W.heap.size W wz) (fun i _=>v.length+5-(intOf i).toNat)
 case atStart=>exact ⟨_,0,1,rfl,rfl,rfl,by omega,rfl,fun i hi h=>by omega,bP _ _⟩
 case round =>
  obtain ⟨wr,k,n,rfl,hnk,eT,iE,rfl,dY,hB⟩:=hrel
  have d0:=(hB.cell (bW _ _ c0)).trans c0
  have d1:=(hB.cell (bW _ _ c1)).trans c1
  clear c0 c1
  have HB:=bU (bY hB (zzT HH.out.2.2.1 hB))
  clear hB
  by_cases bA:n<v.length
  ·have cT:(n:Int)<(v.length:Int):=by omega
   obtain ⟨x,p,z,bi,b4⟩:=kV HH.out.2.2.2.1.ok bA
   obtain ⟨mb,mo,rfl,_,cr,cf⟩:=HH.out.1 n _ bi
   obtain ⟨pb,po,rfl,_,cd,dZ⟩:=HH.out.2.1 n _ bi
   have rX:=HH.out.2.2.2.2.1
   have rU:=HH.out.2.2.2.2.2
   have tK:(v.take n).length=n:=by rw [List.length_take];omega
   have HM:qH (fun _=>True) w (v.take n) (.slice (some ⟨mb,mo,none⟩) n mc):=by
    have:=Rep_take HH.out.2.2.2.1.m (show n<=v.length by omega) (by simp)
    unfold qH;rw [tK,List.map_take];exact this
   have HP:qG (fun _=>True) w (v.take n) (.slice (some ⟨pb,po,none⟩) n pc):=by
    have:=Rep_take HH.out.2.2.2.1.p (show n<=v.length by omega) (by simp)
    unfold qG;rw [tK,List.map_take];exact this
   have CCU:=bU (fun (y:World)=>l3Cut_at mb mo mc pb po pc v.length v.length n y (by omega) (by omega))
   obtain ⟨s,hand,c_,cJ⟩:=PF.out k (by omega) eT (fun i hi h=>dY i (by omega) h)
   have CRE:∀ y,Below wr.heap.size wr y->Calls Tryz.prog 51 #[.agg #[.slice ta t.args.length tc],.agg #[str q0,.int .i64 vi,.slice a2 q2 c2,.slice a3 q3 c3],.agg #[.slice (some ⟨mb,mo,none⟩) n mc,.slice (some ⟨pb,po,none⟩) n pc]] y (ReplyQ s (v.take n) (.slice (some ⟨mb,mo,none⟩) n mc) (.slice (some ⟨pb,po,none⟩) n pc) y):=fun y hy =>
    RPL.out y (zzT HB.out.2 hy) k n s hnk (by omega) eT (fun i hi h=>dY i (by omega) h) c_ _ _ HM HP
   have f_:kZ t b v n=qj s:=by unfold kZ;rw [hnk,c_];rfl
   have KEY:=bU (fun (y:World) (hy:Below wr.heap.size wr y)=>(show (y.cell? ⟨w.heap.size+2,0,none⟩=some (.slice (some ⟨mb,mo,none⟩) v.length mc)/\y.cell? ⟨w.heap.size+2,1,none⟩=some (.slice (some ⟨pb,po,none⟩) v.length pc))/\y.cell? ⟨mb,mo+n,none⟩=some (str (x::p))/\y.cell? ⟨pb,po+n,none⟩=some (.int .i64 z)/\y.cell? ⟨w.heap.size,0,none⟩=some (.slice ta t.args.length tc)/\y.cell? ⟨w.heap.size+1,0,none⟩=some (str q0)/\y.cell? ⟨w.heap.size+1,1,none⟩=some (.int .i64 vi)/\y.cell? ⟨w.heap.size+1,2,none⟩=some (.slice a2 q2 c2)/\y.cell? ⟨w.heap.size+1,3,none⟩=some (.slice a3 q3 c3) from by
    have hk:∀ (a:Addr) (u:Value),wr.cell? a=some u->y.cell? a=some u:=fun a u h=>(hy.cell (bW _ _ h)).trans h
    have dM:∀ (a:Addr) (u:Value),W.cell? a=some u->y.cell? a=some u:=fun a u h=>hk a u ((HB.out.1.cell (bW _ _ h)).trans h)
    obtain ⟨i0,i1,i2,i3⟩:=zl HW.out.2.2.2.1
    exact ⟨⟨hk _ _ d0,hk _ _ d1⟩,hk _ _ ((HB.out.2.cell (p:=⟨mb,mo+n,none⟩) cr).trans cf),hk _ _ ((HB.out.2.cell (p:=⟨pb,po+n,none⟩) cd).trans dZ),dM _ _ (kP HW.out.2.2.1),dM _ _ i0,dM _ _ i1,dM _ _ i2,dM _ _ i3⟩))
   have HF:=bU (bY dY (bY hnk (bY eT (bY iE (bY bA (bY bi f_))))))
   have EQ:=bU tK
   obtain ⟨M,hM⟩:=zzM (x::p)
   rw [<- hM] at KEY
   have HMM:=bU hM
   have rQ:IntKind.i64.wrap ((n:Int)+2)=((n+2:Nat):Int):=by rw [qD _ (by omega) (by omega)];omega
   obtain ⟨oo,ho⟩:=zzN (qj s)
   have HO:=bU ho
   clear bi b4 cr cf cd dZ c_ cJ f_ dY hnk eT iE hM RPL PF HM HP rX rU tK
   cases oo with
   | none =>
     have CRN:=bU (fun (y:World) (hy:Below wr.heap.size wr y)=>(show Calls Tryz.prog 51 #[.agg #[.slice ta t.args.length tc],.agg #[str q0,.int .i64 vi,.slice a2 q2 c2,.slice a3 q3 c3],.agg #[.slice (some ⟨mb,mo,none⟩) n mc,.slice (some ⟨pb,po,none⟩) n pc]] y (fun en w'=>en=.returned (.tuple #[.agg #[.slice (some ⟨mb,mo,none⟩) n mc,.slice (some ⟨pb,po,none⟩) n pc],.bool false])/\Below y.heap.size y w') from by
      refine (CRE y hy).mono ?_
      rintro en w' ⟨r1,m1,e1,r2,m2,e2,rfl,hb,dU,_⟩
      obtain ⟨h1,h2⟩:=dU ho
      rw [h1,h2,ho];exact ⟨rfl,hb⟩))
     clear CRE ho
     go_upto_region 4 with (fail)
     clear d0 d1
     refine ji (X:=Nat) (fun zz x=>(((((((((((zz.put (some 18) (.agg #[.slice ta t.args.length tc])).put (some 19) (.agg #[str q0,.int .i64 vi,.slice a2 q2 c2,.slice a3 q3 c3])).put (some 20) (.agg #[.slice (some ⟨mb,mo,none⟩) v.length mc,.slice (some ⟨pb,po,none⟩) v.length pc])).put (some 21) (.int .i64 (n:Nat))).put (some 22) (.agg #[.slice (some ⟨mb,mo,none⟩) n mc,.slice (some ⟨pb,po,none⟩) n pc])).put (some 23) (.tuple #[.agg #[.slice (some ⟨mb,mo,none⟩) n mc,.slice (some ⟨pb,po,none⟩) n pc],.bool false])).put (some 17) (.tuple #[.agg #[.slice (some ⟨mb,mo,none⟩) n mc,.slice (some ⟨pb,po,none⟩) n pc],.bool false])).put (some 24) (.agg #[.slice (some ⟨mb,mo,none⟩) n mc,.slice (some ⟨pb,po,none⟩) n pc])).put (some 25) (.bool false)).put (some 8) (.pointer (some ⟨x,0,none⟩))).put (some 9) (.bool false))) (fun x w7=>Below wr.heap.size wr w7) ?_ ?_
     ·refine wp_region_noPanic ?_
      refine zX (fun w'=>Below wr.heap.size wr w') (fun _=>false) (by kernel_rfl) ?_
      obtain ⟨y0,cM⟩:=zzN (wr.drew)
      rw [cM]
      have bO:Below wr.heap.size wr y0:=by rw [<- cM];exact Below.drew (bP _ _)
      obtain ⟨dr,dH⟩:∃ x:Nat->Nat,x=fun _=>0:=⟨_,rfl⟩
      clear cM dH
      refine tk [0] bO ?_
      (intro d hd;simp [tkD] at hd;subst hd;simp only [tks,pQ,pZ,pS])
      (refine ⟨?_,?_,?_⟩;rotate_left;· (intro oi ho;simp at ho;subst ho;refine Or.inl ⟨by rfl,fun w' bR=>?_⟩;have e0:=(KEY.out w' bR).2.2.2.1;go_simp;try with_reducible rfl))
      refine tk [1] bO ?_
      (intro d hd;simp [tkD] at hd;subst hd;simp only [tks,pQ,pZ,pS])
      (refine ⟨?_,?_,?_⟩;rotate_left;· (intro oi ho;simp at ho;subst ho;refine Or.inl ⟨by rfl,fun w' bR=>?_⟩;obtain ⟨_,_,_,_,e0,e1,e2,e3⟩:=KEY.out w' bR;go_simp;try with_reducible rfl))
      refine tk [2,3] bO ?_
      (intro d hd;simp [tkD] at hd;subst hd;simp only [tks,pQ,pZ,pS])
      iterate 2 (refine ⟨?_,?_,?_⟩;rotate_left;· (intro oi ho;simp at ho;subst ho;refine Or.inl ⟨by rfl,fun w' bR=>?_⟩;obtain ⟨e0,e1⟩:=(KEY.out w' bR).1;go_simp;try with_reducible rfl))
      refine kK 4 9 (by kernel_rfl) ?_ ?_
      ·(intro o4 ho K' hK;simp at ho;subst ho)
       go_simp
       go_at_call 89
       (with_reducible refine (CCU.out _).mono ?_)
       rintro en y1 ⟨rfl,hb⟩
       have bj:Below wr.heap.size wr y1:=zzT bO hb
       have tC:=bU hb;clear hb
       (refine hK.out _ _ (fun _=>bj) ?_;clear hK K';try simp only [pQ,pN,pZ,pS])
       refine kK 5 9 (by kernel_rfl) ?_ ?_
       ·(intro o5 ho K' hK;simp at ho;subst ho)
        go_simp
        go_at_call 51
        (with_reducible refine (CRN.out _ bj).mono ?_)
        rintro en y2 ⟨rfl,hb⟩
        have cK:Below wr.heap.size wr y2:=zzT bj hb
        have hby2:=bU hb;clear hb
        (refine hK.out _ _ (fun _=>cK) ?_;clear hK K';try simp only [pQ,pN,pZ,pS])
        refine tk [6,7,8] cK ?_
        (intro d hd;simp [tkD] at hd;subst hd;simp only [tks,pQ,pZ,pS])
        iterate 3 (refine ⟨?_,?_,?_⟩;rotate_left;· (intro oi ho;simp at ho;subst ho;refine Or.inl ⟨by rfl,fun w' bR=>?_⟩;go_simp;try with_reducible rfl))
        (refine on 9 ?_;intro o ho K' hK;simp at ho;subst ho;go_simp)
        (refine hK.out _ _ (fun _=>cK.alloc cK.size _) ?_;clear hK K';try simp only [pQ,pN,pZ,pS])
        obtain ⟨y3,bD⟩:=zzN (y2.alloc (.cells #[.slice none 0 0,.slice none 0 0] 33))
        obtain ⟨gX,fU⟩:=zzN (y2.heap.size)
        rw [bD,fU]
        have ce:Below wr.heap.size wr y3:=by rw [<- bD];exact cK.alloc cK.size _
        obtain ⟨sR,bT⟩:=zzN (zF dr gX 1)
        have EX:Hid (y3.heap[gX]? = some (.cells #[.slice none 0 0,.slice none 0 0] 33 (0,0))/\sR gX=1/\wr.heap.size<=gX):=by rw [<- bD,<- bT,<- fU];exact ⟨zS _ _,by unfold zF;rw [if_pos rfl],cK.size⟩
        clear bD fU bT
        (refine on 10 ?_;intro o ho K' hK;simp at ho;subst ho)
        obtain ⟨BD,td⟩:∃ u,y3.cell? ⟨gX,0,none⟩=some u:=⟨_,by simp [World.cell?,EX.out.1];rfl⟩
        have tp:y3.frozen? ⟨gX,0,none⟩=false:=by simp [World.frozen?,EX.out.1]
        obtain ⟨BC,th⟩:∃ u,y3.cell? ⟨gX,1,none⟩=some u:=⟨_,by simp [World.cell?,EX.out.1];rfl⟩
        have tw:y3.frozen? ⟨gX,1,none⟩=false:=by simp [World.frozen?,EX.out.1]
        go_simp
        (refine hK.out _ _ (fun _=>((ce.setCell (p:=⟨gX,0,none⟩) EX.out.2.2 _).setCell (p:=⟨gX,1,none⟩) EX.out.2.2 _)) ?_;clear hK K';try simp only [pQ,pN,pZ,pS])
        obtain ⟨y4,bD⟩:=zzN (((y3.setCell ⟨gX,0,none⟩ (.slice (some ⟨mb,mo,none⟩) n mc)).setCell ⟨gX,1,none⟩ (.slice (some ⟨pb,po,none⟩) n pc)))
        rw [bD]
        have dj:Below wr.heap.size wr y4:=by rw [<- bD];exact ((ce.setCell (p:=⟨gX,0,none⟩) EX.out.2.2 _).setCell (p:=⟨gX,1,none⟩) EX.out.2.2 _)
        have bf:But (fun i=>i=gX) y3 y4:=by rw [<- bD];exact (((But.refl (fun i=>i=gX) y3).setCell (p:=⟨gX,0,none⟩) (.inl rfl) _).setCell (p:=⟨gX,1,none⟩) (.inl rfl) _)
        have bT:∀ g,g=gX->sR g=1:=fun g e=>by rw [e];exact EX.out.2.1
        have EX:Hid (y4.heap[gX]? = some (.cells #[.slice (some ⟨mb,mo,none⟩) n mc,.slice (some ⟨pb,po,none⟩) n pc] 33 (0,0))/\sR gX=1/\wr.heap.size<=gX):=⟨by rw [<- bD];exact (zK (zK EX.out.1)),EX.out.2⟩
        clear bD bf bT td tp th tw
        (refine on 11 ?_;intro o ho K' hK;simp at ho;subst ho;go_simp)
        (refine hK.out _ _ (fun _=>dj) ?_;clear hK K';try simp only [pQ,pN,pZ,pS])
        refine zU (by kernel_rfl) (NoPanic.normal ?_) _
        exact ⟨rfl,gX,by rfl,dj⟩
       ·(intro o9 ho K' hK;simp at ho;subst ho)
        go_simp
        (refine hK.out _ _ (fun _=>bj.alloc bj.size _) ?_;clear hK K';try simp only [pQ,pN,pZ,pS])
        obtain ⟨y6,bD⟩:=zzN (y1.alloc (.cells #[.slice none 0 0,.slice none 0 0] 33))
        obtain ⟨gX,fU⟩:=zzN (y1.heap.size)
        rw [bD,fU]
        have cP:Below wr.heap.size wr y6:=by rw [<- bD];exact bj.alloc bj.size _
        obtain ⟨rC,bT⟩:=zzN (zF dr gX 1)
        have EX:Hid (y6.heap[gX]? = some (.cells #[.slice none 0 0,.slice none 0 0] 33 (0,0))/\rC gX=1/\wr.heap.size<=gX):=by rw [<- bD,<- bT,<- fU];exact ⟨zS _ _,by unfold zF;rw [if_pos rfl],bj.size⟩
        clear bD fU bT
        (refine on 5 ?_;intro o ho K' hK;simp at ho;subst ho;go_simp)
        go_at_call 51
        (with_reducible refine (CRN.out _ cP).mono ?_)
        rintro en y7 ⟨rfl,hb⟩
        have cI:Below wr.heap.size wr y7:=zzT cP hb
        have EX:Hid (y7.heap[gX]? = some (.cells #[.slice none 0 0,.slice none 0 0] 33 (0,0))/\rC gX=1/\wr.heap.size<=gX):=⟨(hb.block _ (zZ EX.out.1)).trans EX.out.1,EX.out.2⟩
        have hby7:=bU hb;clear hb
        (refine hK.out _ _ (fun _=>cI) ?_;clear hK K';try simp only [pQ,pN,pZ,pS])
        refine tk [6,7,8] cI ?_
        (intro d hd;simp [tkD] at hd;subst hd;simp only [tks,pQ,pZ,pS])
        iterate 3 (refine ⟨?_,?_,?_⟩;rotate_left;· (intro oi ho;simp at ho;subst ho;refine Or.inl ⟨by rfl,fun w' bR=>?_⟩;go_simp;try with_reducible rfl))
        (refine on 10 ?_;intro o ho K' hK;simp at ho;subst ho)
        obtain ⟨BD,td⟩:∃ u,y7.cell? ⟨gX,0,none⟩=some u:=⟨_,by simp [World.cell?,EX.out.1];rfl⟩
        have tp:y7.frozen? ⟨gX,0,none⟩=false:=by simp [World.frozen?,EX.out.1]
        obtain ⟨BC,th⟩:∃ u,y7.cell? ⟨gX,1,none⟩=some u:=⟨_,by simp [World.cell?,EX.out.1];rfl⟩
        have tw:y7.frozen? ⟨gX,1,none⟩=false:=by simp [World.frozen?,EX.out.1]
        go_simp
        (refine hK.out _ _ (fun _=>((cI.setCell (p:=⟨gX,0,none⟩) EX.out.2.2 _).setCell (p:=⟨gX,1,none⟩) EX.out.2.2 _)) ?_;clear hK K';try simp only [pQ,pN,pZ,pS])
        obtain ⟨y8,bD⟩:=zzN (((y7.setCell ⟨gX,0,none⟩ (.slice (some ⟨mb,mo,none⟩) n mc)).setCell ⟨gX,1,none⟩ (.slice (some ⟨pb,po,none⟩) n pc)))
        rw [bD]
        have eg:Below wr.heap.size wr y8:=by rw [<- bD];exact ((cI.setCell (p:=⟨gX,0,none⟩) EX.out.2.2 _).setCell (p:=⟨gX,1,none⟩) EX.out.2.2 _)
        have bf:But (fun i=>i=gX) y7 y8:=by rw [<- bD];exact (((But.refl (fun i=>i=gX) y7).setCell (p:=⟨gX,0,none⟩) (.inl rfl) _).setCell (p:=⟨gX,1,none⟩) (.inl rfl) _)
        have bT:∀ g,g=gX->rC g=1:=fun g e=>by rw [e];exact EX.out.2.1
        have EX:Hid (y8.heap[gX]? = some (.cells #[.slice (some ⟨mb,mo,none⟩) n mc,.slice (some ⟨pb,po,none⟩) n pc] 33 (0,0))/\rC gX=1/\wr.heap.size<=gX):=⟨by rw [<- bD];exact (zK (zK EX.out.1)),EX.out.2⟩
        clear bD bf bT td tp th tw
        (refine on 11 ?_;intro o ho K' hK;simp at ho;subst ho;go_simp)
        (refine hK.out _ _ (fun _=>eg) ?_;clear hK K';try simp only [pQ,pN,pZ,pS])
        refine zU (by kernel_rfl) (NoPanic.normal ?_) _
        exact ⟨rfl,gX,by rfl,eg⟩
      ·(intro o9 ho K' hK;simp at ho;subst ho)
       go_simp
       (refine hK.out _ _ (fun _=>bO.alloc bO.size _) ?_;clear hK K';try simp only [pQ,pN,pZ,pS])
       obtain ⟨aQ,bD⟩:=zzN (y0.alloc (.cells #[.slice none 0 0,.slice none 0 0] 33))
       obtain ⟨gX,fU⟩:=zzN (y0.heap.size)
       rw [bD,fU]
       have dA:Below wr.heap.size wr aQ:=by rw [<- bD];exact bO.alloc bO.size _
       obtain ⟨dc,bT⟩:=zzN (zF dr gX 1)
       have EX:Hid (aQ.heap[gX]? = some (.cells #[.slice none 0 0,.slice none 0 0] 33 (0,0))/\dc gX=1/\wr.heap.size<=gX):=by rw [<- bD,<- bT,<- fU];exact ⟨zS _ _,by unfold zF;rw [if_pos rfl],bO.size⟩
       clear bD fU bT
       (refine on 4 ?_;intro o ho K' hK;simp at ho;subst ho;go_simp)
       go_at_call 89
       (with_reducible refine (CCU.out _).mono ?_)
       rintro en sN ⟨rfl,hb⟩
       have ct:Below wr.heap.size wr sN:=zzT dA hb
       have EX:Hid (sN.heap[gX]? = some (.cells #[.slice none 0 0,.slice none 0 0] 33 (0,0))/\dc gX=1/\wr.heap.size<=gX):=⟨(hb.block _ (zZ EX.out.1)).trans EX.out.1,EX.out.2⟩
       have DH:=bU hb;clear hb
       (refine hK.out _ _ (fun _=>ct) ?_;clear hK K';try simp only [pQ,pN,pZ,pS])
       (refine on 5 ?_;intro o ho K' hK;simp at ho;subst ho;go_simp)
       go_at_call 51
       (with_reducible refine (CRN.out _ ct).mono ?_)
       rintro en eY ⟨rfl,hb⟩
       have cv:Below wr.heap.size wr eY:=zzT ct hb
       have EX:Hid (eY.heap[gX]? = some (.cells #[.slice none 0 0,.slice none 0 0] 33 (0,0))/\dc gX=1/\wr.heap.size<=gX):=⟨(hb.block _ (zZ EX.out.1)).trans EX.out.1,EX.out.2⟩
       have DG:=bU hb;clear hb
       (refine hK.out _ _ (fun _=>cv) ?_;clear hK K';try simp only [pQ,pN,pZ,pS])
       refine tk [6,7,8] cv ?_
       (intro d hd;simp [tkD] at hd;subst hd;simp only [tks,pQ,pZ,pS])
       iterate 3 (refine ⟨?_,?_,?_⟩;rotate_left;· (intro oi ho;simp at ho;subst ho;refine Or.inl ⟨by rfl,fun w' bR=>?_⟩;go_simp;try with_reducible rfl))
       (refine on 10 ?_;intro o ho K' hK;simp at ho;subst ho)
       obtain ⟨BD,td⟩:∃ u,eY.cell? ⟨gX,0,none⟩=some u:=⟨_,by simp [World.cell?,EX.out.1];rfl⟩
       have tp:eY.frozen? ⟨gX,0,none⟩=false:=by simp [World.frozen?,EX.out.1]
       obtain ⟨BC,th⟩:∃ u,eY.cell? ⟨gX,1,none⟩=some u:=⟨_,by simp [World.cell?,EX.out.1];rfl⟩
       have tw:eY.frozen? ⟨gX,1,none⟩=false:=by simp [World.frozen?,EX.out.1]
       go_simp
       (refine hK.out _ _ (fun _=>((cv.setCell (p:=⟨gX,0,none⟩) EX.out.2.2 _).setCell (p:=⟨gX,1,none⟩) EX.out.2.2 _)) ?_;clear hK K';try simp only [pQ,pN,pZ,pS])
       obtain ⟨nH,bD⟩:=zzN (((eY.setCell ⟨gX,0,none⟩ (.slice (some ⟨mb,mo,none⟩) n mc)).setCell ⟨gX,1,none⟩ (.slice (some ⟨pb,po,none⟩) n pc)))
       rw [bD]
       have dX:Below wr.heap.size wr nH:=by rw [<- bD];exact ((cv.setCell (p:=⟨gX,0,none⟩) EX.out.2.2 _).setCell (p:=⟨gX,1,none⟩) EX.out.2.2 _)
       have bf:But (fun i=>i=gX) eY nH:=by rw [<- bD];exact (((But.refl (fun i=>i=gX) eY).setCell (p:=⟨gX,0,none⟩) (.inl rfl) _).setCell (p:=⟨gX,1,none⟩) (.inl rfl) _)
       have bT:∀ g,g=gX->dc g=1:=fun g e=>by rw [e];exact EX.out.2.1
       have EX:Hid (nH.heap[gX]? = some (.cells #[.slice (some ⟨mb,mo,none⟩) n mc,.slice (some ⟨pb,po,none⟩) n pc] 33 (0,0))/\dc gX=1/\wr.heap.size<=gX):=⟨by rw [<- bD];exact (zK (zK EX.out.1)),EX.out.2⟩
       clear bD bf bT td tp th tw
       (refine on 11 ?_;intro o ho K' hK;simp at ho;subst ho;go_simp)
       (refine hK.out _ _ (fun _=>dX) ?_;clear hK K';try simp only [pQ,pN,pZ,pS])
       refine zU (by kernel_rfl) (NoPanic.normal ?_) _
       exact ⟨rfl,gX,by rfl,dX⟩
     rintro gX W7 dK
     simp only [pQ,pN,pZ,pS]
     have sI:=zzT HB.out.2 dK
     go_upto_region 5 with (fail)
     refine wp_region_noPanic ?_
     refine zX (fun w'=>Below W7.heap.size W7 w') (fun _=>false) (by kernel_rfl) ?_
     have bS:(fun w'=>Below W7.heap.size W7 w') W7.drew:=Below.drew (bP _ _)
     refine tk [0,1,2,3,4,5,6,7,8,9,10,11,12,13,14,15,16,17,18,19,20,21,22,23,24,25,26,27] bS ?_
     (intro d hd;simp [tkD] at hd;subst hd;simp only [tks,pQ,pZ,pS])
     iterate 28 (refine ⟨?_,?_,?_⟩;rotate_left;· (intro oi ho;simp at ho;subst ho;first | (refine Or.inr ⟨by rfl,?_⟩;with_reducible rfl) | (refine Or.inl ⟨by rfl,fun w' bR=>?_⟩;go_simp;try with_reducible rfl)))
     refine zU (by kernel_rfl) (NoPanic.normal ?_) _
     have E:=bU (show decide (zI t b v v.length)=false by
      rw [decide_eq_false_iff_not]
      intro h
      have h1:=HF.out.2.1;have h2:=HF.out.2.2.1
      have h3:=h n HF.out.2.2.2.2.1 (by omega)
      rw [HF.out.2.2.2.2.2.2,HO.out,HF.out.2.2.2.2.2.1] at h3
      simp at h3)
     have EU:=bU sI
     clear bS dK sI KEY
     go_wp2_with fail
     go_ret
     exact ⟨by rw [E.out];rfl,EU.out.drew⟩
   | some xx =>
     obtain ⟨m,zz⟩:=xx
     have CRS:=bU (fun (y:World) (hy:Below wr.heap.size wr y)=>(show Calls Tryz.prog 51 #[.agg #[.slice ta t.args.length tc],.agg #[str q0,.int .i64 vi,.slice a2 q2 c2,.slice a3 q3 c3],.agg #[.slice (some ⟨mb,mo,none⟩) n mc,.slice (some ⟨pb,po,none⟩) n pc]] y (fun en w'=>∃ r1 e1 r2 e2,en=.returned (.tuple #[.agg #[.slice r1 (n+1) e1,.slice r2 (n+1) e2],.bool true])/\Below y.heap.size y w'/\zC w' (v.take n++[(m,zz)]) (.slice r1 (n+1) e1) (.slice r2 (n+1) e2)) from by
      refine (CRE y hy).mono ?_
      rintro en w' ⟨r1,m1,e1,r2,m2,e2,rfl,hb,_,iZ⟩
      obtain ⟨hp,_⟩:=iZ _ ho
      obtain ⟨_,_,q1⟩:=hp.1.slice
      obtain ⟨_,_,q2⟩:=hp.2.slice
      simp only [Value.slice.injEq] at q1 q2
      have l1:(v.take n++[(m,zz)]).length=n+1:=by rw [List.length_append,EQ.out];rfl
      obtain rfl:m1=n+1:=q1.2.1.trans l1
      obtain rfl:m2=n+1:=q2.2.1.trans l1
      rw [ho];exact ⟨r1,e1,r2,e2,rfl,hb,hp⟩))
     clear CRE ho
     go_upto_region 4 with (fail)
     clear d0 d1
     refine ji (X:=Option Addr×Nat×Option Addr×Nat×Nat) (fun zx x=>(((((((((((zx.put (some 18) (.agg #[.slice ta t.args.length tc])).put (some 19) (.agg #[str q0,.int .i64 vi,.slice a2 q2 c2,.slice a3 q3 c3])).put (some 20) (.agg #[.slice (some ⟨mb,mo,none⟩) v.length mc,.slice (some ⟨pb,po,none⟩) v.length pc])).put (some 21) (.int .i64 (n:Nat))).put (some 22) (.agg #[.slice (some ⟨mb,mo,none⟩) n mc,.slice (some ⟨pb,po,none⟩) n pc])).put (some 23) (.tuple #[.agg #[.slice x.1 (n+1) x.2.1,.slice x.2.2.1 (n+1) x.2.2.2.1],.bool true])).put (some 17) (.tuple #[.agg #[.slice x.1 (n+1) x.2.1,.slice x.2.2.1 (n+1) x.2.2.2.1],.bool true])).put (some 24) (.agg #[.slice x.1 (n+1) x.2.1,.slice x.2.2.1 (n+1) x.2.2.2.1])).put (some 25) (.bool true)).put (some 8) (.pointer (some ⟨x.2.2.2.2,0,none⟩))).put (some 9) (.bool true))) (fun x w7=>Below wr.heap.size wr w7/\w7.heap[x.2.2.2.2]? = some (.cells #[.slice x.1 (n+1) x.2.1,.slice x.2.2.1 (n+1) x.2.2.2.1] 33 (0,0))/\zC w7 (v.take n++[(m,zz)]) (.slice x.1 (n+1) x.2.1) (.slice x.2.2.1 (n+1) x.2.2.2.1)) ?_ ?_
     ·refine wp_region_noPanic ?_
      refine zX (fun w'=>Below wr.heap.size wr w') (fun _=>false) (by kernel_rfl) ?_
      obtain ⟨y0,cM⟩:=zzN (wr.drew)
      rw [cM]
      have bO:Below wr.heap.size wr y0:=by rw [<- cM];exact Below.drew (bP _ _)
      obtain ⟨dr,dH⟩:∃ x:Nat->Nat,x=fun _=>0:=⟨_,rfl⟩
      clear cM dH
      refine tk [0] bO ?_
      (intro d hd;simp [tkD] at hd;subst hd;simp only [tks,pQ,pZ,pS])
      (refine ⟨?_,?_,?_⟩;rotate_left;· (intro oi ho;simp at ho;subst ho;refine Or.inl ⟨by rfl,fun w' bR=>?_⟩;have e0:=(KEY.out w' bR).2.2.2.1;go_simp;try with_reducible rfl))
      refine tk [1] bO ?_
      (intro d hd;simp [tkD] at hd;subst hd;simp only [tks,pQ,pZ,pS])
      (refine ⟨?_,?_,?_⟩;rotate_left;· (intro oi ho;simp at ho;subst ho;refine Or.inl ⟨by rfl,fun w' bR=>?_⟩;obtain ⟨_,_,_,_,e0,e1,e2,e3⟩:=KEY.out w' bR;go_simp;try with_reducible rfl))
      refine tk [2,3] bO ?_
      (intro d hd;simp [tkD] at hd;subst hd;simp only [tks,pQ,pZ,pS])
      iterate 2 (refine ⟨?_,?_,?_⟩;rotate_left;· (intro oi ho;simp at ho;subst ho;refine Or.inl ⟨by rfl,fun w' bR=>?_⟩;obtain ⟨e0,e1⟩:=(KEY.out w' bR).1;go_simp;try with_reducible rfl))
      refine kK 4 9 (by kernel_rfl) ?_ ?_
      ·(intro o4 ho K' hK;simp at ho;subst ho)
       go_simp
       go_at_call 89
       (with_reducible refine (CCU.out _).mono ?_)
       rintro en y1 ⟨rfl,hb⟩
       have bj:Below wr.heap.size wr y1:=zzT bO hb
       have tC:=bU hb;clear hb
       (refine hK.out _ _ (fun _=>bj) ?_;clear hK K';try simp only [pQ,pN,pZ,pS])
       refine kK 5 9 (by kernel_rfl) ?_ ?_
       ·(intro o5 ho K' hK;simp at ho;subst ho)
        go_simp
        go_at_call 51
        (with_reducible refine (CRS.out _ bj).mono ?_)
        rintro en y2 ⟨r1,e1,r2,e2,rfl,hb,hp⟩
        have CP:Hid (zC y2 (v.take n++[(m,zz)]) (.slice r1 (n+1) e1) (.slice r2 (n+1) e2)):=hp
        clear hp
        have cK:Below wr.heap.size wr y2:=zzT bj hb
        have hby2:=bU hb;clear hb
        (refine hK.out _ _ (fun _=>cK) ?_;clear hK K';try simp only [pQ,pN,pZ,pS])
        refine tk [6,7,8] cK ?_
        (intro d hd;simp [tkD] at hd;subst hd;simp only [tks,pQ,pZ,pS])
        iterate 3 (refine ⟨?_,?_,?_⟩;rotate_left;· (intro oi ho;simp at ho;subst ho;refine Or.inl ⟨by rfl,fun w' bR=>?_⟩;go_simp;try with_reducible rfl))
        (refine on 9 ?_;intro o ho K' hK;simp at ho;subst ho;go_simp)
        (refine hK.out _ _ (fun _=>cK.alloc cK.size _) ?_;clear hK K';try simp only [pQ,pN,pZ,pS])
        obtain ⟨y3,bD⟩:=zzN (y2.alloc (.cells #[.slice none 0 0,.slice none 0 0] 33))
        obtain ⟨gX,fU⟩:=zzN (y2.heap.size)
        rw [bD,fU]
        have ce:Below wr.heap.size wr y3:=by rw [<- bD];exact cK.alloc cK.size _
        obtain ⟨sR,bT⟩:=zzN (zF dr gX 1)
        have CP:Hid (zC y3 (v.take n++[(m,zz)]) (.slice r1 (n+1) e1) (.slice r2 (n+1) e2)):=by rw [<- bD];exact CP.out.below ((bP _ _).alloc (bX _) _)
        have EX:Hid (y3.heap[gX]? = some (.cells #[.slice none 0 0,.slice none 0 0] 33 (0,0))/\sR gX=1/\wr.heap.size<=gX):=by rw [<- bD,<- bT,<- fU];exact ⟨zS _ _,by unfold zF;rw [if_pos rfl],cK.size⟩
        clear bD fU bT
        (refine on 10 ?_;intro o ho K' hK;simp at ho;subst ho)
        obtain ⟨BD,td⟩:∃ u,y3.cell? ⟨gX,0,none⟩=some u:=⟨_,by simp [World.cell?,EX.out.1];rfl⟩
        have tp:y3.frozen? ⟨gX,0,none⟩=false:=by simp [World.frozen?,EX.out.1]
        obtain ⟨BC,th⟩:∃ u,y3.cell? ⟨gX,1,none⟩=some u:=⟨_,by simp [World.cell?,EX.out.1];rfl⟩
        have tw:y3.frozen? ⟨gX,1,none⟩=false:=by simp [World.frozen?,EX.out.1]
        go_simp
        (refine hK.out _ _ (fun _=>((ce.setCell (p:=⟨gX,0,none⟩) EX.out.2.2 _).setCell (p:=⟨gX,1,none⟩) EX.out.2.2 _)) ?_;clear hK K';try simp only [pQ,pN,pZ,pS])
        obtain ⟨y4,bD⟩:=zzN (((y3.setCell ⟨gX,0,none⟩ (.slice r1 (n+1) e1)).setCell ⟨gX,1,none⟩ (.slice r2 (n+1) e2)))
        rw [bD]
        have dj:Below wr.heap.size wr y4:=by rw [<- bD];exact ((ce.setCell (p:=⟨gX,0,none⟩) EX.out.2.2 _).setCell (p:=⟨gX,1,none⟩) EX.out.2.2 _)
        have bf:But (fun i=>i=gX) y3 y4:=by rw [<- bD];exact (((But.refl (fun i=>i=gX) y3).setCell (p:=⟨gX,0,none⟩) (.inl rfl) _).setCell (p:=⟨gX,1,none⟩) (.inl rfl) _)
        have bT:∀ g,g=gX->sR g=1:=fun g e=>by rw [e];exact EX.out.2.1
        have CP:Hid (zC y4 (v.take n++[(m,zz)]) (.slice r1 (n+1) e1) (.slice r2 (n+1) e2)):=CP.out.but bf (CP.out.notBox EX.out.1 (by decide) (by decide))
        have EX:Hid (y4.heap[gX]? = some (.cells #[.slice r1 (n+1) e1,.slice r2 (n+1) e2] 33 (0,0))/\sR gX=1/\wr.heap.size<=gX):=⟨by rw [<- bD];exact (zK (zK EX.out.1)),EX.out.2⟩
        clear bD bf bT td tp th tw
        (refine on 11 ?_;intro o ho K' hK;simp at ho;subst ho;go_simp)
        (refine hK.out _ _ (fun _=>dj) ?_;clear hK K';try simp only [pQ,pN,pZ,pS])
        refine zU (by kernel_rfl) (NoPanic.normal ?_) _
        exact ⟨rfl,⟨r1,e1,r2,e2,gX⟩,by rfl,dj,EX.out.1,CP.out⟩
       ·(intro o9 ho K' hK;simp at ho;subst ho)
        go_simp
        (refine hK.out _ _ (fun _=>bj.alloc bj.size _) ?_;clear hK K';try simp only [pQ,pN,pZ,pS])
        obtain ⟨y6,bD⟩:=zzN (y1.alloc (.cells #[.slice none 0 0,.slice none 0 0] 33))
        obtain ⟨gX,fU⟩:=zzN (y1.heap.size)
        rw [bD,fU]
        have cP:Below wr.heap.size wr y6:=by rw [<- bD];exact bj.alloc bj.size _
        obtain ⟨rC,bT⟩:=zzN (zF dr gX 1)
        have EX:Hid (y6.heap[gX]? = some (.cells #[.slice none 0 0,.slice none 0 0] 33 (0,0))/\rC gX=1/\wr.heap.size<=gX):=by rw [<- bD,<- bT,<- fU];exact ⟨zS _ _,by unfold zF;rw [if_pos rfl],bj.size⟩
        clear bD fU bT
        (refine on 5 ?_;intro o ho K' hK;simp at ho;subst ho;go_simp)
        go_at_call 51
        (with_reducible refine (CRS.out _ cP).mono ?_)
        rintro en y7 ⟨r1,e1,r2,e2,rfl,hb,hp⟩
        have CP:Hid (zC y7 (v.take n++[(m,zz)]) (.slice r1 (n+1) e1) (.slice r2 (n+1) e2)):=hp
        clear hp
        have cI:Below wr.heap.size wr y7:=zzT cP hb
        have EX:Hid (y7.heap[gX]? = some (.cells #[.slice none 0 0,.slice none 0 0] 33 (0,0))/\rC gX=1/\wr.heap.size<=gX):=⟨(hb.block _ (zZ EX.out.1)).trans EX.out.1,EX.out.2⟩
        have hby7:=bU hb;clear hb
        (refine hK.out _ _ (fun _=>cI) ?_;clear hK K';try simp only [pQ,pN,pZ,pS])
        refine tk [6,7,8] cI ?_
        (intro d hd;simp [tkD] at hd;subst hd;simp only [tks,pQ,pZ,pS])
        iterate 3 (refine ⟨?_,?_,?_⟩;rotate_left;· (intro oi ho;simp at ho;subst ho;refine Or.inl ⟨by rfl,fun w' bR=>?_⟩;go_simp;try with_reducible rfl))
        (refine on 10 ?_;intro o ho K' hK;simp at ho;subst ho)
        obtain ⟨BD,td⟩:∃ u,y7.cell? ⟨gX,0,none⟩=some u:=⟨_,by simp [World.cell?,EX.out.1];rfl⟩
        have tp:y7.frozen? ⟨gX,0,none⟩=false:=by simp [World.frozen?,EX.out.1]
        obtain ⟨BC,th⟩:∃ u,y7.cell? ⟨gX,1,none⟩=some u:=⟨_,by simp [World.cell?,EX.out.1];rfl⟩
        have tw:y7.frozen? ⟨gX,1,none⟩=false:=by simp [World.frozen?,EX.out.1]
        go_simp
        (refine hK.out _ _ (fun _=>((cI.setCell (p:=⟨gX,0,none⟩) EX.out.2.2 _).setCell (p:=⟨gX,1,none⟩) EX.out.2.2 _)) ?_;clear hK K';try simp only [pQ,pN,pZ,pS])
        obtain ⟨y8,bD⟩:=zzN (((y7.setCell ⟨gX,0,none⟩ (.slice r1 (n+1) e1)).setCell ⟨gX,1,none⟩ (.slice r2 (n+1) e2)))
        rw [bD]
        have eg:Below wr.heap.size wr y8:=by rw [<- bD];exact ((cI.setCell (p:=⟨gX,0,none⟩) EX.out.2.2 _).setCell (p:=⟨gX,1,none⟩) EX.out.2.2 _)
        have bf:But (fun i=>i=gX) y7 y8:=by rw [<- bD];exact (((But.refl (fun i=>i=gX) y7).setCell (p:=⟨gX,0,none⟩) (.inl rfl) _).setCell (p:=⟨gX,1,none⟩) (.inl rfl) _)
        have bT:∀ g,g=gX->rC g=1:=fun g e=>by rw [e];exact EX.out.2.1
        have CP:Hid (zC y8 (v.take n++[(m,zz)]) (.slice r1 (n+1) e1) (.slice r2 (n+1) e2)):=CP.out.but bf (CP.out.notBox EX.out.1 (by decide) (by decide))
        have EX:Hid (y8.heap[gX]? = some (.cells #[.slice r1 (n+1) e1,.slice r2 (n+1) e2] 33 (0,0))/\rC gX=1/\wr.heap.size<=gX):=⟨by rw [<- bD];exact (zK (zK EX.out.1)),EX.out.2⟩
        clear bD bf bT td tp th tw
        (refine on 11 ?_;intro o ho K' hK;simp at ho;subst ho;go_simp)
        (refine hK.out _ _ (fun _=>eg) ?_;clear hK K';try simp only [pQ,pN,pZ,pS])
        refine zU (by kernel_rfl) (NoPanic.normal ?_) _
        exact ⟨rfl,⟨r1,e1,r2,e2,gX⟩,by rfl,eg,EX.out.1,CP.out⟩
      ·(intro o9 ho K' hK;simp at ho;subst ho)
       go_simp
       (refine hK.out _ _ (fun _=>bO.alloc bO.size _) ?_;clear hK K';try simp only [pQ,pN,pZ,pS])
       obtain ⟨aQ,bD⟩:=zzN (y0.alloc (.cells #[.slice none 0 0,.slice none 0 0] 33))
       obtain ⟨gX,fU⟩:=zzN (y0.heap.size)
       rw [bD,fU]
       have dA:Below wr.heap.size wr aQ:=by rw [<- bD];exact bO.alloc bO.size _
       obtain ⟨dc,bT⟩:=zzN (zF dr gX 1)
       have EX:Hid (aQ.heap[gX]? = some (.cells #[.slice none 0 0,.slice none 0 0] 33 (0,0))/\dc gX=1/\wr.heap.size<=gX):=by rw [<- bD,<- bT,<- fU];exact ⟨zS _ _,by unfold zF;rw [if_pos rfl],bO.size⟩
       clear bD fU bT
       (refine on 4 ?_;intro o ho K' hK;simp at ho;subst ho;go_simp)
       go_at_call 89
       (with_reducible refine (CCU.out _).mono ?_)
       rintro en sN ⟨rfl,hb⟩
       have ct:Below wr.heap.size wr sN:=zzT dA hb
       have EX:Hid (sN.heap[gX]? = some (.cells #[.slice none 0 0,.slice none 0 0] 33 (0,0))/\dc gX=1/\wr.heap.size<=gX):=⟨(hb.block _ (zZ EX.out.1)).trans EX.out.1,EX.out.2⟩
       have DH:=bU hb;clear hb
       (refine hK.out _ _ (fun _=>ct) ?_;clear hK K';try simp only [pQ,pN,pZ,pS])
       (refine on 5 ?_;intro o ho K' hK;simp at ho;subst ho;go_simp)
       go_at_call 51
       (with_reducible refine (CRS.out _ ct).mono ?_)
       rintro en eY ⟨r1,e1,r2,e2,rfl,hb,hp⟩
       have CP:Hid (zC eY (v.take n++[(m,zz)]) (.slice r1 (n+1) e1) (.slice r2 (n+1) e2)):=hp
       clear hp
       have cv:Below wr.heap.size wr eY:=zzT ct hb
       have EX:Hid (eY.heap[gX]? = some (.cells #[.slice none 0 0,.slice none 0 0] 33 (0,0))/\dc gX=1/\wr.heap.size<=gX):=⟨(hb.block _ (zZ EX.out.1)).trans EX.out.1,EX.out.2⟩
       have DG:=bU hb;clear hb
       (refine hK.out _ _ (fun _=>cv) ?_;clear hK K';try simp only [pQ,pN,pZ,pS])
       refine tk [6,7,8] cv ?_
       (intro d hd;simp [tkD] at hd;subst hd;simp only [tks,pQ,pZ,pS])
       iterate 3 (refine ⟨?_,?_,?_⟩;rotate_left;· (intro oi ho;simp at ho;subst ho;refine Or.inl ⟨by rfl,fun w' bR=>?_⟩;go_simp;try with_reducible rfl))
       (refine on 10 ?_;intro o ho K' hK;simp at ho;subst ho)
       obtain ⟨BD,td⟩:∃ u,eY.cell? ⟨gX,0,none⟩=some u:=⟨_,by simp [World.cell?,EX.out.1];rfl⟩
       have tp:eY.frozen? ⟨gX,0,none⟩=false:=by simp [World.frozen?,EX.out.1]
       obtain ⟨BC,th⟩:∃ u,eY.cell? ⟨gX,1,none⟩=some u:=⟨_,by simp [World.cell?,EX.out.1];rfl⟩
       have tw:eY.frozen? ⟨gX,1,none⟩=false:=by simp [World.frozen?,EX.out.1]
       go_simp
       (refine hK.out _ _ (fun _=>((cv.setCell (p:=⟨gX,0,none⟩) EX.out.2.2 _).setCell (p:=⟨gX,1,none⟩) EX.out.2.2 _)) ?_;clear hK K';try simp only [pQ,pN,pZ,pS])
       obtain ⟨nH,bD⟩:=zzN (((eY.setCell ⟨gX,0,none⟩ (.slice r1 (n+1) e1)).setCell ⟨gX,1,none⟩ (.slice r2 (n+1) e2)))
       rw [bD]
       have dX:Below wr.heap.size wr nH:=by rw [<- bD];exact ((cv.setCell (p:=⟨gX,0,none⟩) EX.out.2.2 _).setCell (p:=⟨gX,1,none⟩) EX.out.2.2 _)
       have bf:But (fun i=>i=gX) eY nH:=by rw [<- bD];exact (((But.refl (fun i=>i=gX) eY).setCell (p:=⟨gX,0,none⟩) (.inl rfl) _).setCell (p:=⟨gX,1,none⟩) (.inl rfl) _)
       have bT:∀ g,g=gX->dc g=1:=fun g e=>by rw [e];exact EX.out.2.1
       have CP:Hid (zC nH (v.take n++[(m,zz)]) (.slice r1 (n+1) e1) (.slice r2 (n+1) e2)):=CP.out.but bf (CP.out.notBox EX.out.1 (by decide) (by decide))
       have EX:Hid (nH.heap[gX]? = some (.cells #[.slice r1 (n+1) e1,.slice r2 (n+1) e2] 33 (0,0))/\dc gX=1/\wr.heap.size<=gX):=⟨by rw [<- bD];exact (zK (zK EX.out.1)),EX.out.2⟩
       clear bD bf bT td tp th tw
       (refine on 11 ?_;intro o ho K' hK;simp at ho;subst ho;go_simp)
       (refine hK.out _ _ (fun _=>dX) ?_;clear hK K';try simp only [pQ,pN,pZ,pS])
       refine zU (by kernel_rfl) (NoPanic.normal ?_) _
       exact ⟨rfl,⟨r1,e1,r2,e2,gX⟩,by rfl,dX,EX.out.1,CP.out⟩
     rintro ⟨r1,e1,r2,e2,gX⟩ W7 ⟨dK,hX7,Az⟩
     dsimp only at hX7 Az
     simp only [pQ,pN,pZ,pS]
     obtain ⟨hm7,lG⟩:=Az.mv (F:=fun _=>True) (fun _ _=>trivial)
     have iR:(v.take n++[(m,zz)])[n]? = some (m,zz):=by rw [List.getElem?_append_right (by rw [EQ.out];exact bX _),EQ.out];simp
     obtain ⟨_,_,u1,fc⟩:=hm7.cells
     obtain ⟨_,_,u2,eB⟩:=lG.cells
     simp only [Value.slice.injEq] at u1 u2
     obtain ⟨rfl,q8,rfl⟩:=u1
     obtain ⟨rfl,q9,rfl⟩:=u2
     clear q8 q9
     obtain ⟨rb,ro,rfl,_,_,hrm⟩:=fc n _ iR
     obtain ⟨rb2,ro2,rfl,_,_,hrp⟩:=eB n _ iR
     have sI:=zzT HB.out.2 dK
     have dI:=bU (fun (y:World) (hy:Below W7.heap.size W7 y)=>(show (y.cell? ⟨gX,0,none⟩=some (.slice (some ⟨rb,ro,none⟩) (n+1) e1)/\y.cell? ⟨gX,1,none⟩=some (.slice (some ⟨rb2,ro2,none⟩) (n+1) e2))/\y.cell? ⟨rb,ro+n,none⟩=some (str m)/\y.cell? ⟨rb2,ro2+n,none⟩=some (.int .i64 zz)/\_ from by
      have hk:∀ (a:Addr) (u:Value),W7.cell? a=some u->y.cell? a=some u:=fun a u h=>(hy.cell (bW _ _ h)).trans h
      obtain ⟨i0,i1,_,_⟩:=zJ hX7
      exact ⟨⟨hk _ _ i0,hk _ _ i1⟩,hk _ _ hrm,hk _ _ hrp,KEY.out y (zzT dK hy)⟩))
     have EU:=bU (bY (zzT HB.out.1 dK) sI)
     have hn1I:(n:Int)<(n:Int)+1:=by omega
     clear dK hX7 Az hm7 lG iR fc eB hrm hrp sI KEY
     by_cases hm:m=M
     ·have lB:(m == M)=true:=by simp [hm]
      have ox:(m != M)=false:=by simp [hm]
      obtain ⟨cn,eO⟩:∃ cn,(zz != z)=cn:=⟨_,rfl⟩
      have HC:=bU (bY hm eO)
      clear hm
      go_upto_region 5 with (fail)
      refine wp_region_noPanic ?_
      refine zX (fun w'=>Below W7.heap.size W7 w') (fun _=>false) (by kernel_rfl) ?_
      have bS:(fun w'=>Below W7.heap.size W7 w') W7.drew:=Below.drew (bP _ _)
      refine tk [0,1,2,3,4,5,6] bS ?_
      (intro d hd;simp [tkD] at hd;subst hd;simp only [tks,pQ,pZ,pS])
      iterate 7 (refine ⟨?_,?_,?_⟩;rotate_left;· (intro oi ho;simp at ho;subst ho;refine Or.inl ⟨by rfl,fun w' bR=>?_⟩;have e0:=(dI.out w' bR).1.1;go_simp;try with_reducible rfl))
      refine tk [7,8] bS ?_
      (intro d hd;simp [tkD] at hd;subst hd;simp only [tks,pQ,pZ,pS])
      iterate 2 (refine ⟨?_,?_,?_⟩;rotate_left;· (intro oi ho;simp at ho;subst ho;refine Or.inl ⟨by rfl,fun w' bR=>?_⟩;have e0:=(dI.out w' bR).2.1;go_simp;try with_reducible rfl))
      refine tk [9,10,11] bS ?_
      (intro d hd;simp [tkD] at hd;subst hd;simp only [tks,pQ,pZ,pS])
      iterate 3 (refine ⟨?_,?_,?_⟩;rotate_left;· (intro oi ho;simp at ho;subst ho;refine Or.inl ⟨by rfl,fun w' bR=>?_⟩;have e0:=(dI.out w' bR).2.2.2.1.1;go_simp;try with_reducible rfl))
      refine tk [12,13,14,15,16] bS ?_
      (intro d hd;simp [tkD] at hd;subst hd;simp only [tks,pQ,pZ,pS])
      iterate 5 (refine ⟨?_,?_,?_⟩;rotate_left;· (intro oi ho;simp at ho;subst ho;refine Or.inl ⟨by rfl,fun w' bR=>?_⟩;have e0:=(dI.out w' bR).2.2.2.2.1;go_simp;try with_reducible rfl))
      refine tk [17,18,19] bS ?_
      (intro d hd;simp [tkD] at hd;subst hd;simp only [tks,pQ,pZ,pS])
      iterate 3 (refine ⟨?_,?_,?_⟩;rotate_left;· (intro oi ho;simp at ho;subst ho;refine Or.inl ⟨by rfl,fun w' bR=>?_⟩;have e0:=(dI.out w' bR).1.2;go_simp;try with_reducible rfl))
      refine tk [20,21] bS ?_
      (intro d hd;simp [tkD] at hd;subst hd;simp only [tks,pQ,pZ,pS])
      iterate 2 (refine ⟨?_,?_,?_⟩;rotate_left;· (intro oi ho;simp at ho;subst ho;refine Or.inl ⟨by rfl,fun w' bR=>?_⟩;have e0:=(dI.out w' bR).2.2.1;go_simp;try with_reducible rfl))
      refine tk [22,23,24] bS ?_
      (intro d hd;simp [tkD] at hd;subst hd;simp only [tks,pQ,pZ,pS])
      iterate 3 (refine ⟨?_,?_,?_⟩;rotate_left;· (intro oi ho;simp at ho;subst ho;refine Or.inl ⟨by rfl,fun w' bR=>?_⟩;have e0:=(dI.out w' bR).2.2.2.1.2;go_simp;try with_reducible rfl))
      refine tk [25,26,27] bS ?_
      (intro d hd;simp [tkD] at hd;subst hd;simp only [tks,pQ,pZ,pS])
      iterate 3 (refine ⟨?_,?_,?_⟩;rotate_left;· (intro oi ho;simp at ho;subst ho;refine Or.inl ⟨by rfl,fun w' bR=>?_⟩;have e0:=(dI.out w' bR).2.2.2.2.2.1;go_simp;try with_reducible rfl))
      refine zU (by kernel_rfl) (NoPanic.normal ?_) _
      clear bS dI
      cases cn with
      | false =>
        have hz:zz=z:=by have h:=HC.out.2;simpa using h
        have E:=bU (show zI t b v (n+2) from fun i hi h=>by
         have h1:=HF.out.2.1;have h2:=HF.out.2.2.1
         rcases Nat.lt_or_ge i n with h3 | h3
         ·exact HF.out.1 i h3 h
         ·obtain rfl:i=n:=by omega
          rw [HF.out.2.2.2.2.2.2,HO.out,HF.out.2.2.2.2.2.1,HC.out.1,HMM.out,hz])
        have HE:=bU (show (n+1) % 2=0/\n+1<=v.length+1 by
         have h1:=HF.out.2.1;have h2:=HF.out.2.2.1;have h3:=HF.out.2.2.2.2.1;omega)
        clear hz eO
        go_wp2_with fail
        go_roundw
        case rel=>exact ⟨_,n+1,n+2,rfl,rfl,HE.out.1,HE.out.2,rfl,E.out,EU.out.1.drew⟩
        case measure=>simp [intOf];omega
      | true =>
        have E:=bU (show decide (zI t b v v.length)=false by
         rw [decide_eq_false_iff_not]
         intro h
         have h1:=HF.out.2.1;have h2:=HF.out.2.2.1
         have h3:=h n HF.out.2.2.2.2.1 (by omega)
         rw [HF.out.2.2.2.2.2.2,HO.out,HF.out.2.2.2.2.2.1] at h3
         have h4:=HC.out.2
         simp only [Option.some.injEq,Prod.mk.injEq] at h3
         simp [h3.2] at h4)
        clear eO
        go_wp2_with fail
        go_ret
        exact ⟨by rw [E.out];rfl,EU.out.2.drew⟩
     ·have lB:(m == M)=false:=by simp [hm]
      have ox:(m != M)=true:=by simp [hm]
      have E:=bU (show decide (zI t b v v.length)=false by
       rw [decide_eq_false_iff_not]
       intro h
       have h1:=HF.out.2.1;have h2:=HF.out.2.2.1
       have h3:=h n HF.out.2.2.2.2.1 (by omega)
       rw [HF.out.2.2.2.2.2.2,HO.out,HF.out.2.2.2.2.2.1] at h3
       simp only [Option.some.injEq,Prod.mk.injEq] at h3
       exact hm (h3.1.trans HMM.out.symm))
      clear hm
      go_upto_region 5 with (fail)
      refine wp_region_noPanic ?_
      refine zX (fun w'=>Below W7.heap.size W7 w') (fun _=>false) (by kernel_rfl) ?_
      have bS:(fun w'=>Below W7.heap.size W7 w') W7.drew:=Below.drew (bP _ _)
      refine tk [0,1,2,3,4,5,6] bS ?_
      (intro d hd;simp [tkD] at hd;subst hd;simp only [tks,pQ,pZ,pS])
      iterate 7 (refine ⟨?_,?_,?_⟩;rotate_left;· (intro oi ho;simp at ho;subst ho;refine Or.inl ⟨by rfl,fun w' bR=>?_⟩;have e0:=(dI.out w' bR).1.1;go_simp;try with_reducible rfl))
      refine tk [7,8] bS ?_
      (intro d hd;simp [tkD] at hd;subst hd;simp only [tks,pQ,pZ,pS])
      iterate 2 (refine ⟨?_,?_,?_⟩;rotate_left;· (intro oi ho;simp at ho;subst ho;refine Or.inl ⟨by rfl,fun w' bR=>?_⟩;have e0:=(dI.out w' bR).2.1;go_simp;try with_reducible rfl))
      refine tk [9,10,11] bS ?_
      (intro d hd;simp [tkD] at hd;subst hd;simp only [tks,pQ,pZ,pS])
      iterate 3 (refine ⟨?_,?_,?_⟩;rotate_left;· (intro oi ho;simp at ho;subst ho;refine Or.inl ⟨by rfl,fun w' bR=>?_⟩;have e0:=(dI.out w' bR).2.2.2.1.1;go_simp;try with_reducible rfl))
      refine tk [12,13,14,15,16,17,18,19,20,21,22,23,24,25,26,27] bS ?_
      (intro d hd;simp [tkD] at hd;subst hd;simp only [tks,pQ,pZ,pS])
      iterate 16 (refine ⟨?_,?_,?_⟩;rotate_left;· (intro oi ho;simp at ho;subst ho;first | (refine Or.inr ⟨by rfl,?_⟩;with_reducible rfl) | (refine Or.inl ⟨by rfl,fun w' bR=>?_⟩;have e0:=(dI.out w' bR).2.2.2.2.1;go_simp;try with_reducible rfl)))
      refine zU (by kernel_rfl) (NoPanic.normal ?_) _
      clear bS dI
      go_wp2_with fail
      go_ret
      exact ⟨by rw [E.out];rfl,EU.out.2.drew⟩
  ·have cT:¬ (n:Int)<(v.length:Int):=by omega
   have E:=bU (show decide (zI t b v v.length)=true from decide_eq_true fun i hi h=>dY i (by omega) h)
   clear dY hnk
   go_wp2_with fail
   go_ret
   exact ⟨by rw [E.out];rfl,HB.out.2⟩
set_option maxRecDepth 100000 in
theorem v3 (F:Nat->Prop) (s text:Bs) (mv pt:Value) (ms:List Bs) (ps:List Int) (w:World) (hs:Lim s.length) (ht:Lim text.length) (hm:jz F w ms mv) (hp:jO F w ps pt) (hl:∀ x∈ms,Lim x.length) :
 Calls Tryz.prog 21 #[str s,str text,.agg #[mv,pt]] w fun en w'=>en=.returned (.bool (qY s text ms ps))/\Below w.heap.size w w':=by
 obtain ⟨ma,mc,rfl⟩:=hm.slice
 obtain ⟨pa,pc,rfl⟩:=hp.slice
 obtain ⟨W,hW,bM,hz,b0⟩:=kJ w (.cells #[.slice ma ms.length mc,.slice pa ps.length pc] 33)
 have C:=bU (vR s text hs ht W)
 have CL:=bU (fun (y:World) (hy:Below W.heap.size W y)=>vj F s _ _ ms ps y hs ((hm.below bM fun _ h=>h).below hy fun _ h=>h) ((hp.below bM fun _ h=>h).below hy fun _ h=>h) hl)
 have HP:=bU (fun (y:World) (hy:Below W.heap.size W y) (h:kt s ms ps=true)=>(vE (hm.below bM fun _ h=>h) (hp.below bM fun _ h=>h) hl h).below hy)
 have HW:=bU (bY hW (bY bM b0))
 clear hW bM hz b0 hs ht hm hp hl
 go_enter Tryz.func21,Tryz.ntmps21
 go_upto_region 1 with (fail)
 rw [HW.out.1]
 go_wp2_with fail
 (with_reducible refine C.out.mono ?_)
 rintro en w1 ⟨ta,tc,s',v',a2,n2,c2,a3,n3,c3,rfl,bE,mH,fv⟩
 have sQ:=bU (fun b (h:zM s text=some b)=>(qS h).1)
 have nN:Hid (qY s text ms ps=match zM s text with | none=>false | some b=>kO s ms ps && decide (zI (zV s).1 b (ms.zip ps) (ms.zip ps).length)):=bU rfl
 generalize hT:(zV s).1=t at *
 obtain ⟨so,lJ⟩:=zzM (zM s text)
 rw [<- lJ] at fv sQ nN ⊢
 clear lJ C
 obtain ⟨X,hX,dp,ai,x0,x1⟩:=kH w1 (.cells #[.slice ta t.args.length tc] 61) (.cells #[str s',.int .i64 v',.slice a2 n2 c2,.slice a3 n3 c3] 64)
 have mM:Below W.heap.size W X:=zzT bE dp
 obtain ⟨c0,c1,_,_⟩:=zJ HW.out.2.2
 have d0:=(mM.cell (bW _ _ c0)).trans c0
 have d1:=(mM.cell (bW _ _ c1)).trans c1
 have t0:=kP x0
 obtain ⟨n0,n1,i4,io⟩:=zl x1
 have HX:=bU (bY hX (bY mM (zzT HW.out.2.1 mM)))
 have mO:Rep (fun _=>True) X (qZ t) (.slice ta t.args.length tc):=(Rep.keep fun i o _ ho=>⟨trivial,by rw [dp.block i (zZ ho)];exact ho⟩).1 _ _ mH
 have mj:∀ b,so=some b->zq (fun _=>True) X (ke b) [str s',.int .i64 v',.slice a2 n2 c2,.slice a3 n3 c3]:=fun b h=>(Rep.keep fun i o _ ho=>⟨trivial,by rw [dp.block i (zZ ho)];exact ho⟩).2 _ _ (fv b h)
 have HR:=bU (bY mO mj)
 have HT:=bU hT
 clear c0 c1 bE hX dp ai x0 x1 mM mH fv mO mj hT
 go_upto_region 2 with (fail)
 rw [HX.out.1]
 cases so with
 | none =>
   have E:=bU nN.out
   clear nN
   go_wp2_with fail
   go_ret
   exact ⟨by rw [E.out];rfl,HX.out.2.2⟩
 | some b =>
   have E:qY s text ms ps=(kO s ms ps && decide (zI t b (ms.zip ps) (ms.zip ps).length)):=nN.out
   have dn:=sQ.out b rfl
   have C1:=CL.out X HX.out.2.1
   clear nN sQ CL
   cases dF:kO s ms ps with
   | false =>
     rw [dF] at E C1
     have E:=bU E
     have C1:=bU C1
     clear dF dn
     go_wp2_with fail
     (with_reducible refine C1.out.mono ?_)
     rintro en w2 ⟨rfl,bN⟩
     have b6:=bU (zzT HX.out.2.2 bN)
     clear bN d0 d1 t0 n0 n1 i4 io
     go_wp2_with fail
     go_ret
     exact ⟨by rw [E.out];rfl,b6.out⟩
   | true =>
     rw [dF,Bool.true_and] at E
     rw [dF] at C1
     have n5:=bU (vN dF)
     obtain ⟨r,hr⟩:=zzN (decide (zI t b (ms.zip ps) (ms.zip ps).length))
     have HRR:=bU hr
     rw [hr] at E
     have E:=bU E
     have C1:=bU C1
     have HG:=bU dn
     clear dF hr dn
     go_wp2_with fail
     (with_reducible refine C1.out.mono ?_)
     rintro en w2 ⟨rfl,bN⟩
     have hk:∀ (a:Addr) (u:Value),X.cell? a=some u->w2.cell? a=some u:=fun a u h=>(bN.cell (bW _ _ h)).trans h
     have d0':=hk _ _ d0;have d1':=hk _ _ d1;have t0':=hk _ _ t0;have m0:=hk _ _ n0;have m1:=hk _ _ n1;have m2:=hk _ _ i4;have m3:=hk _ _ io
     have bw:=HP.out w2 (zzT HX.out.2.1 bN) n5.out
     have C2:=yx t b (ms.zip ps) (.slice ta t.args.length tc) (.slice ma ms.length mc) (.slice pa ps.length pc) [str s',.int .i64 v',.slice a2 n2 c2,.slice a3 n3 c3] w2 ((Rep.below bN fun _ h=>h) HR.out.1) ((Rep.keep fun i o hi ho=>⟨hi,by rw [bN.block i (zZ ho)];exact ho⟩).2 _ _ (HR.out.2 b rfl))
      ⟨(Rep.keep fun b o _ ho=>⟨trivial,ho⟩).1 _ _ bw.m,(Rep.keep fun b o _ ho=>⟨trivial,ho⟩).1 _ _ bw.p,bw.ok,bw.l⟩ HG.out.atoms HG.out.fit HG.out.wf
     rw [HRR.out] at C2
     have C2:=bU (show Calls Tryz.prog 50 #[.agg #[.slice ta t.args.length tc],.agg #[str s',.int .i64 v',.slice a2 n2 c2,.slice a3 n3 c3],.agg #[.slice ma ms.length mc,.slice pa ps.length pc]] w2 _ from C2)
     have b6:=bU (zzT HX.out.2.2 bN)
     clear bN d0 d1 t0 n0 n1 i4 io bw C1 HP hk
     go_wp2_with fail
     (with_reducible refine C2.out.mono ?_)
     rintro en w3 ⟨rfl,bp⟩
     have cF:=bU (zzT b6.out bp)
     clear bp
     go_wp2_with fail
     go_ret
     exact ⟨by rw [E.out];rfl,cF.out⟩
def PlQ (o:Option Pl) (w:World) (en:Ending) (w':World):Prop :=
 ∃ a1 c1 a2 c2,en=.returned (.tuple #[.agg #[.slice a1 (o.getD []).length c1,.slice a2 (o.getD []).length c2],.bool o.isSome])/\Below w.heap.size w w'/\zC w' (o.getD []) (.slice a1 (o.getD []).length c1) (.slice a2 (o.getD []).length c2) /\
   ∀ g,(Value.slice a1 (o.getD []).length c1).ownBlock=some g\/(Value.slice a2 (o.getD []).length c2).ownBlock=some g->w.heap.size<=g
theorem PlQ.none {w w':World} (hb:Below w.heap.size w w'):PlQ none w (.returned (.tuple #[.agg #[.slice .none 0 0,.slice .none 0 0],.bool false])) w' :=
 ⟨_,_,_,_,rfl,hb,gC _,fun g h=>by simp [Value.ownBlock] at h⟩
theorem told_ne {s:St} {x:Bs×Int} (h:qj s=some x):∃ c p,x.1=c::p:=by
 unfold qj at h
 split at h
 ·split at h
  ·simp at h
  ·obtain rfl:=Option.some.inj h;exact ⟨_,_,rfl⟩
 ·rw [Option.map_eq_some_iff] at h
  obtain ⟨pl,_,rfl⟩:=h
  exact ⟨_,_,rfl⟩
set_option maxRecDepth 100000 in
theorem reply_any (F:Nat->Prop) (t:Ty) (b:Bd) (v:Pl) (k:Nat) (kv bv mv pt:Value) (w:World) (hg:qr w) (hk:Rep F w (jD t) kv) (hb:Rep F w (qm b) bv) (hm:vU F t v mv pt w)
 (bL:zW t<=15) (hf:kB t.args b) (hw:wfB b) (bi:v.length=k+1) (eT:k % 2=0) (dY:zI t b v k) :
 Calls Tryz.prog 33 #[kv,bv,.agg #[mv,pt]] w (PlQ (qN t b v) w):=by
 have ci:=ze hm.ok
 obtain ⟨s,hand,c_,cJ⟩:=jS bL hf hw hm.ok k (by omega) eT dY
 obtain ⟨ba,rfl⟩:=qI hb
 obtain ⟨kb,ks,rfl,_⟩:=zc hk
 obtain ⟨ma,mc,rfl,_⟩:=hm.m.cells
 obtain ⟨pa,pc,rfl,_⟩:=hm.p.cells
 obtain ⟨W,hW,bM,hz,b0,b1⟩:=kH w (.cells #[.slice ma v.length mc,.slice pa v.length pc] 33) (.cells #[.slice none 0 0,.slice none 0 0] 33)
 obtain ⟨c0,c1,_,_⟩:=zJ b0
 have CS:=bU (wm F t b v k v.length bi s (.pointer (some ⟨kb,0,none⟩)) (.pointer (some ⟨ba,0,none⟩)) (.slice ma v.length mc) (.slice pa v.length pc) W (hg.below bM) (hk.below bM fun _ h=>h) (hb.below bM fun _ h=>h) (hm.below bM) bL hf hw (by omega) eT dY c_)
 have CT:=bU (fun (y:World) (xv lv:Value) (hr:uj (fun _=>True) y s xv lv)=>tells_any (fun _=>True) xv lv y cJ bL (by omega) hr)
 have CW:=bU (fun (y:World) (hy:Below W.heap.size W y) (m:Bs) (z:Int)=>with_any v (.slice ma v.length mc) (.slice pa v.length pc) m z y (qH.src ((hm.below bM).below hy).m) (qG.src ((hm.below bM).below hy).p) (by omega))
 have HR:Hid (kZ t b v v.length=qj s):=bU (by unfold kZ;rw [bi,c_];rfl)
 have HW:=bU (bY hW (bY bM (bY b1 hz)))
 clear hm hW bM hz b0 b1 hg hk hb bL hf hw c_ cJ dY eT bi
 by_cases he:v.length=60
 ·have E:=bU (show qN t b v=none by unfold qN;rw [if_pos he])
  rw [he] at HW c0 c1
  rw [he]
  obtain ⟨z0,z1,f0,f1⟩:=zJ HW.out.2.2.1
  clear CS CT CW HR he ci
  go_enter Tryz.func33,Tryz.ntmps33
  go_upto_region 1 with (fail)
  rw [HW.out.1]
  go_wp2_with fail
  have hV:=kE HW.out.2.2.1 (.slice none 0 0) (.slice none 0 0)
  obtain ⟨s0,s1,_,_⟩:=zJ hV
  refine bodyPost_ret (v:=.tuple #[.agg #[.slice none 0 0,.slice none 0 0],.bool false]) (by simp [results,Tryz.results33,go_sem,s0,s1]) rfl ?_
  rw [E.out]
  exact PlQ.none ((HW.out.2.1.setCell (p:=⟨w.heap.size+1,0,none⟩) (Nat.le_add_right _ _) _).setCell (p:=⟨w.heap.size+1,1,none⟩) (Nat.le_add_right _ _) _)
 ·have heI:¬ (v.length:Int)=60:=by omega
  have heB:((v.length:Int) == 60)=false:=by simpa using heI
  have E:=bU (show qN t b v=(qj s).map fun x=>v++[x] by unfold qN;rw [if_neg he,HR.out])
  clear HR he
  go_enter Tryz.func33,Tryz.ntmps33
  go_upto_region 1 with (fail)
  rw [HW.out.1]
  go_wp2_with fail
  (with_reducible refine CS.out.mono ?_)
  rintro en w1 ⟨xv,lv,rfl,bE,dV⟩
  have d0:=(bE.cell (bW _ _ c0)).trans c0
  have d1:=(bE.cell (bW _ _ c1)).trans c1
  have cO:=bU bE
  have sV:=CT.out w1 xv lv dV
  clear CS CT bE dV c0 c1
  cases ho:qj s with
  | none =>
    rw [ho] at E
    have et:vW s=([],-1):=by unfold vW;rw [ho];rfl
    rw [et] at sV
    have sV:=bU sV
    clear CW ho et
    go_wp2_with fail
    (with_reducible refine sV.out.mono ?_)
    rintro en w2 ⟨rfl,bN⟩
    have b7:=zzT cO.out bN
    have b3:=(b7.block _ (zZ HW.out.2.2.1)).trans HW.out.2.2.1
    obtain ⟨z0,z1,f0,f1⟩:=zJ b3
    have b6:=bU (bY b3 (zzT HW.out.2.1 b7))
    clear bN b7 b3 d0 d1 sV
    go_wp2_with fail
    have hV:=kE b6.out.1 (.slice none 0 0) (.slice none 0 0)
    obtain ⟨s0,s1,_,_⟩:=zJ hV
    refine bodyPost_ret (v:=.tuple #[.agg #[.slice none 0 0,.slice none 0 0],.bool false]) (by simp [results,Tryz.results33,go_sem,s0,s1]) rfl ?_
    rw [E.out]
    exact PlQ.none ((b6.out.2.setCell (p:=⟨w.heap.size+1,0,none⟩) (Nat.le_add_right _ _) _).setCell (p:=⟨w.heap.size+1,1,none⟩) (Nat.le_add_right _ _) _)
  | some x =>
    rw [ho] at E
    obtain ⟨c,p,fY⟩:=told_ne ho
    obtain ⟨m,z⟩:=x
    simp only at fY
    have et:vW s=(m,z):=by unfold vW;rw [ho];rfl
    rw [et] at sV
    have sV:=bU sV
    have mQ:(m == ([]:Bs))=false:=by rw [fY];rfl
    have A_:¬ m=[]:=by rw [fY];simp
    clear ho et fY
    go_wp2_with fail
    (with_reducible refine sV.out.mono ?_)
    rintro en w2 ⟨rfl,bN⟩
    have b7:=zzT cO.out bN
    have b3:=(b7.block _ (zZ HW.out.2.2.1)).trans HW.out.2.2.1
    have e0:=(bN.cell (bW _ _ d0)).trans d0
    have e1:=(bN.cell (bW _ _ d1)).trans d1
    have sJ:=bU (CW.out w2 b7 m z)
    have b6:=bU (bY b3 (zzT HW.out.2.1 b7))
    clear bN b7 b3 d0 d1 sV CW
    go_wp2_with fail
    (with_reducible refine sJ.out.mono ?_)
    rintro en w3 ⟨mvn,ptn,rfl,cR,bp,eI⟩
    obtain ⟨a8,c8,e8⟩:=cR.1.slice
    obtain ⟨a9,c9,e9⟩:=cR.2.slice
    subst e8;subst e9
    have b3:=(bp.block _ (zZ b6.out.1)).trans b6.out.1
    obtain ⟨z0,z1,f0,f1⟩:=zJ b3
    have cF:=bU (bY b3 (bY (zzT b6.out.2 bp) (bY cR (bY eI (show w.heap.size+1<w2.heap.size from zZ b6.out.1)))))
    clear bp b3 cR eI sJ e0 e1
    generalize hL:(v++[(m,z)]).length=L at *
    go_wp2_with fail
    have hV:=kE cF.out.1 (.slice a8 L c8) (.slice a9 L c9)
    obtain ⟨mR,mN,_,_⟩:=zJ hV
    have cG:∀ g,g≠w.heap.size+1->((w3.setCell ⟨w.heap.size+1,0,none⟩ (.slice a8 L c8)).setCell ⟨w.heap.size+1,1,none⟩ (.slice a9 L c9)).heap[g]? = w3.heap[g]?:=fun g hg=>by
     rw [bG _ _ _ _ (by show g≠w.heap.size+1;exact hg),bG _ _ _ _ (by show g≠w.heap.size+1;exact hg)]
    refine bodyPost_ret (v:=.tuple #[.agg #[.slice a8 L c8,.slice a9 L c9],.bool true]) (by simp [results,Tryz.results33,go_sem,mR,mN]) rfl ?_
    rw [E.out]
    have bA:=cF.out.2.2.2.2
    refine ⟨a8,c8,a9,c9,by rw [Option.map_some,Option.getD_some,hL];rfl,(cF.out.2.1.setCell (p:=⟨w.heap.size+1,0,none⟩) (Nat.le_add_right _ _) _).setCell (p:=⟨w.heap.size+1,1,none⟩) (Nat.le_add_right _ _) _,?_,fun g hg=>?_⟩
    ·rw [Option.map_some,Option.getD_some,hL]
     refine ⟨cF.out.2.2.1.1.keep fun g o hg ho=>?_,cF.out.2.2.1.2.keep fun g o hg ho=>?_⟩
     ·have:=cF.out.2.2.2.1 g (.inl hg)
      rw [cG g (by omega)];exact ho
     ·have:=cF.out.2.2.2.1 g (.inr hg)
      rw [cG g (by omega)];exact ho
    ·rw [Option.map_some,Option.getD_some,hL] at hg
     have:=cF.out.2.2.2.1 g hg;omega
def qx (t:Ty) (b:Bd) (v:Pl) (lg:Bool) (n:Nat):Option Pl:=if (lg && decide (n % 2=1) && decide (zI t b v v.length))=true then qN t b v else none
def kX (s text:Bs) (ms:List Bs) (ps:List Int):Option Pl:=match zM s text with
 | none=>none
 | some b=>qx (zV s).1 b (ms.zip ps) (kO s ms ps) ms.length
theorem replyOk_none {s text:Bs} (h:xN s text=none) (ms:List Bs) (ps:List Int):kX s text ms ps=none:=by
 rw [pL,Option.map_eq_none_iff] at h
 unfold kX;rw [h]
theorem replyOk_some {s text:Bs} {t:Ty} {b:Bd} (h:xN s text=some (t,b)) (ms:List Bs) (ps:List Int):kX s text ms ps=qx t b (ms.zip ps) (kO s ms ps) ms.length/\t=(zV s).1/\Good t b:=by
 rw [pL,Option.map_eq_some_iff] at h
 obtain ⟨b',h,e⟩:=h
 simp at e;obtain ⟨rfl,rfl⟩:=e
 refine ⟨?_,rfl,(qS h).1⟩
 unfold kX;rw [h]
theorem gU (t:Ty) (b:Bd) (v:Pl) (n:Nat):qx t b v false n=none:=by unfold qx;simp
theorem xF (t:Ty) (b:Bd) (v:Pl) (lg:Bool) {n:Nat} (h:n % 2=0):qx t b v lg n=none:=by unfold qx;rw [decide_eq_false (show ¬ n % 2=1 by omega)];simp
theorem wb (t:Ty) (b:Bd) (v:Pl) (lg:Bool) (n:Nat) (h:decide (zI t b v v.length)=false):qx t b v lg n=none:=by unfold qx;rw [h];simp
theorem wt (t:Ty) (b:Bd) (v:Pl) {n:Nat} (hn:n % 2=1) (h:decide (zI t b v v.length)=true):qx t b v true n=qN t b v:=by unfold qx;rw [h,decide_eq_true hn];rfl
theorem zip_len {s:Bs} {ms:List Bs} {ps:List Int} (h:kt s ms ps=true):(ms.zip ps).length=ms.length:=by
 obtain ⟨h1,_⟩:=vD h
 rw [List.length_zip];omega
set_option maxRecDepth 100000 in
theorem up (F:Nat->Prop) (s text:Bs) (mv pt:Value) (ms:List Bs) (ps:List Int) (w:World) (hg:qr w) (hs:Lim s.length) (ht:Lim text.length) (hm:jz F w ms mv) (hp:jO F w ps pt) (hl:∀ x∈ms,Lim x.length) :
 Calls Tryz.prog 23 #[str s,str text,.agg #[mv,pt]] w (PlQ (kX s text ms ps) w):=by
 obtain ⟨ma,mc,rfl⟩:=hm.slice
 obtain ⟨pa,pc,rfl⟩:=hp.slice
 obtain ⟨W,hW,bM,hz,b0,b1⟩:=kH w (.cells #[.slice ma ms.length mc,.slice pa ps.length pc] 33) (.cells #[.slice none 0 0,.slice none 0 0] 33)
 have C:=bU (xG s text W (hg.below bM) hs ht)
 have CL:=bU (fun (y:World) (hy:Below W.heap.size W y)=>jy F s _ _ ms ps y hs ((hm.below bM fun _ h=>h).below hy fun _ h=>h) ((hp.below bM fun _ h=>h).below hy fun _ h=>h) hl)
 have HP:=bU (fun (y:World) (hy:Below W.heap.size W y) (h:kt s ms ps=true)=>(vE (hm.below bM fun _ h=>h) (hp.below bM fun _ h=>h) hl h).below hy)
 have HG:=bU (fun (y:World) (hy:Below W.heap.size W y)=>(hg.below bM).below hy)
 have HW:=bU (bY hW (bY bM (bY b0 b1)))
 clear hW bM hz b0 b1 hg hs ht hm hp hl
 go_enter Tryz.func23,Tryz.ntmps23
 go_upto_region 1 with (fail)
 rw [HW.out.1]
 go_wp2_with fail
 (with_reducible refine C.out.mono ?_)
 rintro en w1 ⟨kv,bv,rfl,bE,cS,dW⟩
 clear C
 obtain ⟨c0,c1,_,_⟩:=zJ HW.out.2.2.1
 have d0:=(bE.cell (bW _ _ c0)).trans c0
 have d1:=(bE.cell (bW _ _ c1)).trans c1
 have b3:=(bE.block _ (zZ HW.out.2.2.2)).trans HW.out.2.2.2
 obtain ⟨z0,z1,f0,f1⟩:=zJ b3
 clear c0 c1
 have HB:=bU (bY bE (bY (zzT HW.out.2.1 bE) b3))
 clear b3
 cases hq:xN s text with
 | none =>
   obtain rfl:=cS hq
   have E:=bU (replyOk_none hq ms ps)
   clear cS dW hq bE
   go_wp2_with fail
   have hV:=kE HB.out.2.2 (.slice none 0 0) (.slice none 0 0)
   obtain ⟨s0,s1,_,_⟩:=zJ hV
   refine bodyPost_ret (v:=.tuple #[.agg #[.slice none 0 0,.slice none 0 0],.bool false]) (by simp [results,Tryz.results23,go_sem,s0,s1]) rfl ?_
   rw [E.out]
   exact PlQ.none ((HB.out.2.1.setCell (p:=⟨w.heap.size+1,0,none⟩) (Nat.le_add_right _ _) _).setCell (p:=⟨w.heap.size+1,1,none⟩) (Nat.le_add_right _ _) _)
 | some tb =>
   obtain ⟨t,b⟩:=tb
   obtain ⟨rk,rb⟩:=dW t b hq
   obtain ⟨E,et,dn⟩:=replyOk_some hq ms ps
   obtain ⟨ka,ks,rfl,_⟩:=zc rk
   obtain ⟨ba,rfl⟩:=qI rb
   have E:=bU E
   have HR:=bU (bY rk (bY rb (bY et dn)))
   have C1:=bU (CL.out w1 bE)
   clear cS dW hq bE rk rb et dn CL
   cases dF:kO s ms ps with
   | false =>
     rw [dF] at C1
     have E:=bU (show kX s text ms ps=none by rw [E.out,dF,gU])
     clear dF z0 z1 f0 f1
     go_wp2_with fail
     (with_reducible refine C1.out.mono ?_)
     rintro en w2 ⟨rfl,bN⟩
     have b3:=(bN.block _ (zZ HB.out.2.2)).trans HB.out.2.2
     obtain ⟨z0,z1,f0,f1⟩:=zJ b3
     have b6:=bU (bY (zzT HB.out.2.1 bN) b3)
     clear bN d0 d1 b3
     go_wp2_with fail
     have hV:=kE b6.out.2 (.slice none 0 0) (.slice none 0 0)
     obtain ⟨s0,s1,_,_⟩:=zJ hV
     refine bodyPost_ret (v:=.tuple #[.agg #[.slice none 0 0,.slice none 0 0],.bool false]) (by simp [results,Tryz.results23,go_sem,s0,s1]) rfl ?_
     rw [E.out]
     exact PlQ.none ((b6.out.1.setCell (p:=⟨w.heap.size+1,0,none⟩) (Nat.le_add_right _ _) _).setCell (p:=⟨w.heap.size+1,1,none⟩) (Nat.le_add_right _ _) _)
   | true =>
     rw [dF] at C1
     have n5:=bU (vN dF)
     have E:=bU (show kX s text ms ps=qx t b (ms.zip ps) true ms.length by rw [E.out,dF])
     have lC:ms.length<=60:=by have h1:=zip_len n5.out;have h2:=ze (vD n5.out).2.1;omega
     clear dF z0 z1 f0 f1
     go_wp2_with fail
     (with_reducible refine C1.out.mono ?_)
     rintro en w2 ⟨rfl,bN⟩
     have b7:=zzT HB.out.1 bN
     have e0:=(bN.cell (bW _ _ d0)).trans d0
     have e1:=(bN.cell (bW _ _ d1)).trans d1
     have b3:=(bN.block _ (zZ HB.out.2.2)).trans HB.out.2.2
     obtain ⟨z0,z1,f0,f1⟩:=zJ b3
     rcases Nat.mod_two_eq_zero_or_one ms.length with s_ | s_
     ·have A9:(ms.length:Int).tmod 2=0:=by rw [Int.tmod_eq_emod_of_nonneg (by omega)];omega
      have E:=bU (show kX s text ms ps=none by rw [E.out,xF t b _ _ s_])
      have b6:=bU (bY (zzT HB.out.2.1 bN) b3)
      clear bN d0 d1 b7 b3 C1 HP HG s_
      go_wp2_with fail
      have hV:=kE b6.out.2 (.slice none 0 0) (.slice none 0 0)
      obtain ⟨s0,s1,_,_⟩:=zJ hV
      refine bodyPost_ret (v:=.tuple #[.agg #[.slice none 0 0,.slice none 0 0],.bool false]) (by simp [results,Tryz.results23,go_sem,s0,s1]) rfl ?_
      rw [E.out]
      exact PlQ.none ((b6.out.1.setCell (p:=⟨w.heap.size+1,0,none⟩) (Nat.le_add_right _ _) _).setCell (p:=⟨w.heap.size+1,1,none⟩) (Nat.le_add_right _ _) _)
     have A9:(ms.length:Int).tmod 2=1:=by rw [Int.tmod_eq_emod_of_nonneg (by omega)];omega
     have bw:=HP.out w2 b7 n5.out
     rw [<- HR.out.2.2.1] at bw
     have C2:=bU (pK (fun _=>True) t b (ms.zip ps) (.pointer (some ⟨ka,0,none⟩)) (.pointer (some ⟨ba,0,none⟩)) _ _ w2 (HG.out w2 b7)
      ((Rep.below bN fun _ _=>trivial) HR.out.1) ((Rep.below bN fun _ _=>trivial) HR.out.2.1) ⟨(Rep.keep fun b o _ ho=>⟨trivial,ho⟩).1 _ _ bw.m,(Rep.keep fun b o _ ho=>⟨trivial,ho⟩).1 _ _ bw.p,bw.ok,bw.l⟩ HR.out.2.2.2.atoms HR.out.2.2.2.fit HR.out.2.2.2.wf)
     have tr:=bU bw
     have tt:=bU s_
     have b6:=bU (bY (zzT HB.out.2.1 bN) (bY b3 (bY b7 bN)))
     obtain ⟨r,hr⟩:=zzN (decide (zI t b (ms.zip ps) (ms.zip ps).length))
     rw [hr] at C2
     clear bN d0 d1 b7 bw C1 HP b3 s_
     cases r with
     | false =>
       have E:=bU (show kX s text ms ps=none by rw [E.out,wb t b _ _ _ hr])
       clear hr z0 z1 f0 f1
       go_wp2_with fail
       (with_reducible refine C2.out.mono ?_)
       rintro en w3 ⟨rfl,bp⟩
       have b3:=(bp.block _ (zZ b6.out.2.1)).trans b6.out.2.1
       obtain ⟨z0,z1,f0,f1⟩:=zJ b3
       have cF:=bU (bY (zzT b6.out.1 bp) b3)
       clear bp b3
       go_wp2_with fail
       have hV:=kE cF.out.2 (.slice none 0 0) (.slice none 0 0)
       obtain ⟨s0,s1,_,_⟩:=zJ hV
       refine bodyPost_ret (v:=.tuple #[.agg #[.slice none 0 0,.slice none 0 0],.bool false]) (by simp [results,Tryz.results23,go_sem,s0,s1]) rfl ?_
       rw [E.out]
       exact PlQ.none ((cF.out.1.setCell (p:=⟨w.heap.size+1,0,none⟩) (Nat.le_add_right _ _) _).setCell (p:=⟨w.heap.size+1,1,none⟩) (Nat.le_add_right _ _) _)
     | true =>
       have E:=bU (show kX s text ms ps=qN t b (ms.zip ps) by rw [E.out,wt t b _ tt.out hr])
       have HF:=bU (of_decide_eq_true hr)
       clear hr z0 z1 f0 f1
       go_wp2_with fail
       (with_reducible refine C2.out.mono ?_)
       rintro en w3 ⟨rfl,bp⟩
       have fA:=zzT b6.out.2.2.1 bp
       have g0:=(bp.cell (bW _ _ e0)).trans e0
       have g1:=(bp.cell (bW _ _ e1)).trans e1
       have b3:=(bp.block _ (zZ b6.out.2.1)).trans b6.out.2.1
       have bI:=zip_len n5.out
       have h13:=zzT b6.out.2.2.2 bp
       have C3:=bU (reply_any (fun _=>True) t b (ms.zip ps) (ms.length-1) (.pointer (some ⟨ka,0,none⟩)) (.pointer (some ⟨ba,0,none⟩)) _ _ w3 (HG.out w3 fA)
        ((Rep.below h13 fun _ _=>trivial) HR.out.1) ((Rep.below h13 fun _ _=>trivial) HR.out.2.1) (vU.below ⟨(Rep.keep fun b o _ ho=>⟨trivial,ho⟩).1 _ _ tr.out.m,(Rep.keep fun b o _ ho=>⟨trivial,ho⟩).1 _ _ tr.out.p,tr.out.ok,tr.out.l⟩ bp) HR.out.2.2.2.atoms HR.out.2.2.2.fit HR.out.2.2.2.wf
        (by have:=tt.out;omega) (by have:=tt.out;omega) (fun i hi ho=>HF.out i (by omega) ho))
       have cF:=bU (bY (zzT b6.out.1 bp) b3)
       obtain ⟨o,ho⟩:=zzN (qN t b (ms.zip ps))
       rw [ho] at C3 E
       clear bp b3 fA h13 bI ho C2 e0 e1
       go_wp2_with fail
       (with_reducible refine C3.out.mono ?_)
       rintro en w4 ⟨a8,c8,a9,c9,rfl,cV,cR,eI⟩
       have b3:=(cV.block _ (zZ cF.out.2)).trans cF.out.2
       obtain ⟨z0,z1,f0,f1⟩:=zJ b3
       have ia:=bU (bY b3 (bY (zzT cF.out.1 cV) (bY cR (bY eI (show w.heap.size+1<w3.heap.size from zZ cF.out.2)))))
       obtain ⟨L,hL⟩:=zzN ((o.getD []).length)
       obtain ⟨q,hq⟩:=zzN (o.isSome)
       have HQ:=bU hq
       rw [hL] at ia ⊢
       rw [hq]
       have HL:=bU hL
       clear cV b3 cR eI C3 g0 g1 hL hq
       go_wp2_with fail
       have hV:=kE ia.out.1 (.slice a8 L c8) (.slice a9 L c9)
       obtain ⟨mR,mN,_,_⟩:=zJ hV
       have cG:∀ g,g≠w.heap.size+1->((w4.setCell ⟨w.heap.size+1,0,none⟩ (.slice a8 L c8)).setCell ⟨w.heap.size+1,1,none⟩ (.slice a9 L c9)).heap[g]? = w4.heap[g]?:=fun g hg=>by
        rw [bG _ _ _ _ (by show g≠w.heap.size+1;exact hg),bG _ _ _ _ (by show g≠w.heap.size+1;exact hg)]
       refine bodyPost_ret (v:=.tuple #[.agg #[.slice a8 L c8,.slice a9 L c9],.bool q]) (by simp [results,Tryz.results23,go_sem,mR,mN]) rfl ?_
       rw [E.out]
       have bA:=ia.out.2.2.2.2
       refine ⟨a8,c8,a9,c9,by rw [HL.out,HQ.out],(ia.out.2.1.setCell (p:=⟨w.heap.size+1,0,none⟩) (Nat.le_add_right _ _) _).setCell (p:=⟨w.heap.size+1,1,none⟩) (Nat.le_add_right _ _) _,?_,fun g hg=>?_⟩
       ·rw [HL.out]
        refine ⟨ia.out.2.2.1.1.keep fun g o hg ho=>?_,ia.out.2.2.1.2.keep fun g o hg ho=>?_⟩
        ·have:=ia.out.2.2.2.1 g (.inl hg)
         rw [cG g (by omega)];exact ho
        ·have:=ia.out.2.2.2.1 g (.inr hg)
         rw [cG g (by omega)];exact ho
       ·rw [HL.out] at hg
        have:=ia.out.2.2.2.1 g hg
        have h5:=HW.out.2.1.size;have h6:=cF.out.1.size
        omega
def jJ (t:Ty) (p:Bs) (k:Nat):List Bs:=[113::p,116::p,102::p]++z9 (t.args.take k) 0 p
theorem movesTo_zero (t:Ty) (p:Bs):jJ t p 0=[113::p,116::p,102::p]:=by unfold jJ;rw [List.take_zero,z9];rfl
theorem movesTo_all (t:Ty) (p:Bs):jJ t p t.args.length=kU t p:=by unfold jJ;rw [List.take_length,movesT_eq]
theorem movesTo_next {t a:Ty} {k:Nat} (h:t.args[k]? = some a) (p:Bs):jJ t p (k+1)=jJ t p k++kU a (p++dec k):=by unfold jJ;rw [movesTs_take h,List.append_assoc]
theorem movesTs_le (ts:List Ty) (k:Nat) (p:Bs):(z9 (ts.take k) 0 p).length<=(z9 ts 0 p).length:=by
 have h:=un (ts.take k) 0 p
 induction k with
 | zero=>simp [z9]
 | succ k ih =>
   rcases Nat.lt_or_ge k ts.length with hk | hk
   ·have key:∀ (us:List Ty) (i:Nat),(z9 us i p).length<=(z9 us i p).length:=fun _ _=>bX _
    have e:∀ (us vs:List Ty) (i:Nat),(z9 us i p).length<=(z9 (us++vs) i p).length:=by
     intro us
     induction us with
     | nil=>intro vs i;simp [z9]
     | cons a us ih=>intro vs i;rw [List.cons_append,z9,z9,List.length_append,List.length_append];have:=ih vs (i+1);omega
    have:=e (ts.take (k+1)) (ts.drop (k+1)) 0
    rwa [List.take_append_drop] at this
   ·rw [List.take_of_length_le (by omega)];exact bX _
theorem movesTo_len {t:Ty} (bL:zW t<=15) (p:Bs) (k:Nat):(jJ t p k).length<=24:=by
 have h1:=movesTs_le t.args k p
 have h2:=xA bL p
 rw [movesT_eq,List.length_append] at h2
 unfold jJ
 rw [List.length_append];omega
structure NxR (B:Nat) (L:List Pl) (a:Option Addr) (n c:Nat) (us:List (Value×Value)) (wz:World):Prop where
 len:L.length=n
 pls:yB wz L (.slice a n c) us
 new:∀ g,PlB (.slice a n c) us g->B<=g
theorem NxR.below {B:Nat} {L:List Pl} {a:Option Addr} {n c:Nat} {us:List (Value×Value)} {w w':World} (h:NxR B L a n c us w) (hb:Below w.heap.size w w'):NxR B L a n c us w':=⟨h.len,jE.below h.pls hb,h.new⟩
theorem NxR.mono {B B':Nat} {L:List Pl} {a:Option Addr} {n c:Nat} {us:List (Value×Value)} {w:World} (h:NxR B L a n c us w) (hb:B'<=B):NxR B' L a n c us w:=⟨h.len,h.pls,fun g hg=>bC hb (h.new g hg)⟩
theorem NxR.nil (B:Nat) (w:World):NxR B [] none 0 0 [] w:=⟨rfl,jE.nil w,fun g h=>by
 rcases h with h | ⟨u,hu,_⟩
 ·simp [Value.ownBlock] at h
 ·simp at hu⟩
def PlsQ (L:List Pl) (w:World) (en:Ending) (w':World):Prop :=
 ∃ a n c us,en=.returned (.slice a n c)/\Below w.heap.size w w'/\NxR w.heap.size L a n c us w'
theorem NxR.add {B:Nat} {L:List Pl} {a:Option Addr} {n c:Nat} {us:List (Value×Value)} {w W:World} {l:Pl} {mv pt:Value} (h:NxR B L a n c us w) (hB:Below w.heap.size w W) (hBB:B<=w.heap.size) (hl:zC W l mv pt) (hn:∀ g,mv.ownBlock=some g\/pt.ownBlock=some g->w.heap.size<=g)
 {a':Option Addr} {c':Nat} {w5:World} (oL:Own w5 33 2 (.slice a' (n+1) c') (n+1) (plC us++[mv,pt])) (b_:But (fun b=>(Value.slice a n c).ownBlock=some b) W w5) (Ab:∀ g,(Value.slice a' (n+1) c').ownBlock=some g->(Value.slice a n c).ownBlock=some g\/g=W.heap.size) :
 NxR B (L++[l]) a' (n+1) c' (us++[(mv,pt)]) w5:=by
 have fa:us.length=n:=by rw [h.pls.length,h.len]
 have h1:=pls_add (v':=.slice a' (n+1) c') h.pls hB hl hn (by rw [fa];exact oL) b_
 refine ⟨by rw [List.length_append,h.len];rfl,h1,fun g hg=>?_⟩
 rcases hg with hg | ⟨u,hu,hg⟩
 ·rcases Ab g hg with hg | hg
  ·exact h.new g (.inl hg)
  ·have:=hB.size;omega
 ·rcases List.mem_append.1 hu with hu | hu
  ·exact h.new g (.inr ⟨u,hu,hg⟩)
  ·rw [List.mem_singleton] at hu
   subst hu
   have:=hn g hg;omega
theorem NxR.own {B:Nat} {L:List Pl} {a:Option Addr} {n c:Nat} {us:List (Value×Value)} {w:World} (h:NxR B L a n c us w):Own w 33 2 (.slice a n c) n (plC us):=by
 have fa:us.length=n:=by rw [h.pls.length,h.len]
 have:=h.pls.own
 rwa [fa] at this
theorem yr {t:Ty} (bL:zW t<=15) {m:Bs} (h:m∈kU t []):jH t m=true/\m.length<=8:=by
 have h1:=movesT_ok t t [] (jw t) bL m h
 refine ⟨h1,?_⟩
 cases m with
 | nil=>simp
 | cons c p =>
   unfold jH at h1
   rw [Bool.and_eq_true] at h1
   obtain ⟨a,ha⟩:=Option.isSome_iff_exists.1 h1.2
   have:=qP _ _ _ ha
   have:=kd a
   rw [List.length_cons];omega
structure RdR (B:Nat) (L:List Pl) (a:Option Addr) (n c:Nat) (us:List (Value×Value)) (wz:World):Prop where
 len:L.length=n
 ul:us.length=n
 own:Own wz 33 2 (.slice a n c) n (plC us)
 each:∀ (i:Nat) (u:Value×Value) (l:Pl),us[i]? = some u->L[i]? = some l->zC wz l u.1 u.2
 new:∀ g,PlB (.slice a n c) us g->B<=g
theorem NxR.rd {B:Nat} {L:List Pl} {a:Option Addr} {n c:Nat} {us:List (Value×Value)} {w:World} (h:NxR B L a n c us w):RdR B L a n c us w :=
 ⟨h.len,by rw [h.pls.length,h.len],h.own,fun i u l hu hl=>h.pls.play hu hl,h.new⟩
theorem RdR.below {B:Nat} {L:List Pl} {a:Option Addr} {n c:Nat} {us:List (Value×Value)} {w w':World} (h:RdR B L a n c us w) (hb:Below w.heap.size w w'):RdR B L a n c us w' :=
 ⟨h.len,h.ul,h.own.keep fun g o _ ho=>by rw [hb.block g (zZ ho)];exact ho,fun i u l hu hl=>(h.each i u l hu hl).below hb,h.new⟩
theorem RdR.mono {B B':Nat} {L:List Pl} {a:Option Addr} {n c:Nat} {us:List (Value×Value)} {w:World} (h:RdR B L a n c us w) (hb:B'<=B):RdR B' L a n c us w:=⟨h.len,h.ul,h.own,h.each,fun g hg=>bC hb (h.new g hg)⟩
theorem zC.offRow {w w':World} {l:Pl} {mv pt v:Value} {n:Nat} {xs:List Value} (h:zC w l mv pt) (ho:Own w 33 2 v n xs) (hb:But (fun b=>v.ownBlock=some b) w w'):zC w' l mv pt :=
 h.but hb fun g hg e=>hg.elim (fun hg=>h.1.unlikeG ho ud hg e) fun hg=>h.2.unlikeG ho xu hg e
theorem RdR.off {B:Nat} {L:List Pl} {a:Option Addr} {n c:Nat} {us:List (Value×Value)} {w w':World} (h:RdR B L a n c us w) {v:Value} {m:Nat} {xs:List Value} (ho:Own w 33 2 v m xs) (hb:But (fun b=>v.ownBlock=some b) w w') (hn:∀ g,(Value.slice a n c).ownBlock=some g->v.ownBlock≠some g):RdR B L a n c us w' :=
 ⟨h.len,h.ul,h.own.keep fun g o hg hh=>by rw [hb.block g (zZ hh) (hn g hg)];exact hh,fun i u l hu hl=>(h.each i u l hu hl).offRow ho hb,h.new⟩
theorem RdR.cells {B:Nat} {L:List Pl} {a:Option Addr} {n c:Nat} {us:List (Value×Value)} {w:World} (h:RdR B L a n c us w) {i:Nat} {u:Value×Value} (hu:us[i]? = some u):∃ g,a=some ⟨g,0,none⟩/\w.cell? ⟨g,i*2,none⟩=some u.1/\w.cell? ⟨g,i*2+1,none⟩=some u.2:=by
 obtain ⟨h1,h2⟩:=plC_at us i u hu
 obtain ⟨g,c',e,k1⟩:=h.own.at h1
 obtain ⟨g',c'',e',k2⟩:=h.own.at h2
 simp only [Value.slice.injEq,true_and] at e e'
 obtain ⟨rfl,_⟩:=e
 obtain ⟨e',_⟩:=e'
 simp only [Option.some.injEq,Addr.mk.injEq,and_true] at e'
 obtain rfl:=e'
 exact ⟨g,rfl,k1,k2⟩
theorem RdR.at {B:Nat} {L:List Pl} {a:Option Addr} {n c:Nat} {us:List (Value×Value)} {w:World} (h:RdR B L a n c us w) {i:Nat} (hi:i<n):∃ u l,us[i]? = some u/\L[i]? = some l/\zC w l u.1 u.2:=by
 have h1:us[i]? = some (us[i]'(by rw [h.ul];exact hi)):=List.getElem?_eq_getElem _
 have h2:L[i]? = some (L[i]'(by rw [h.len];exact hi)):=List.getElem?_eq_getElem _
 exact ⟨_,_,h1,h2,h.each i _ _ h1 h2⟩
theorem RdR.one {B:Nat} {L:List Pl} {a:Option Addr} {n c:Nat} {us:List (Value×Value)} {w:World} (h:RdR B L a n c us w):∀ x∈plC us,x.oneCell'=true:=by
 intro x hx
 unfold plC at hx
 rw [List.mem_flatMap] at hx
 obtain ⟨u,hu,hx⟩:=hx
 obtain ⟨i,hi⟩:=List.mem_iff_getElem?.1 hu
 have hl:=(List.getElem?_eq_some_iff.1 hi).1
 have hL:L[i]? = some (L[i]'(by rw [h.len,<- h.ul];exact hl)):=List.getElem?_eq_getElem _
 have hp:=h.each i u _ hi hL
 obtain ⟨a1,c1,e1⟩:=hp.1.slice
 obtain ⟨a2,c2,e2⟩:=hp.2.slice
 simp only [List.mem_cons,List.not_mem_nil,or_false] at hx
 rcases hx with rfl | rfl
 ·rw [e1];rfl
 ·rw [e2];rfl
theorem RdR.cat {B B2:Nat} {L L2:List Pl} {a a2:Option Addr} {n c n2 c2:Nat} {us co:List (Value×Value)} {w:World} (h:RdR B L a n c us w) (h2:RdR B2 L2 a2 n2 c2 co w) (hB:B<=B2) (Ew:B<=w.heap.size)
 {a':Option Addr} {c':Nat} {w5:World} (oL:Own w5 33 2 (.slice a' (n+n2) c') (n+n2) (plC us++plC co)) (b_:But (fun b=>(Value.slice a n c).ownBlock=some b) w w5) (Ab:∀ g,(Value.slice a' (n+n2) c').ownBlock=some g->(Value.slice a n c).ownBlock=some g\/g=w.heap.size) :
 RdR B (L++L2) a' (n+n2) c' (us++co) w5:=by
 refine ⟨by rw [List.length_append,h.len,h2.len],by rw [List.length_append,h.ul,h2.ul],by rw [vF];exact oL,fun i u l hu hl=>?_,fun g hg=>?_⟩
 ·rcases Nat.lt_or_ge i n with hi | hi
  ·rw [List.getElem?_append_left (by rw [h.ul];exact hi)] at hu
   rw [List.getElem?_append_left (by rw [h.len];exact hi)] at hl
   exact (h.each i u l hu hl).offRow h.own b_
  ·rw [List.getElem?_append_right (by rw [h.ul];exact hi),h.ul] at hu
   rw [List.getElem?_append_right (by rw [h.len];exact hi),h.len] at hl
   exact (h2.each _ u l hu hl).offRow h.own b_
 ·rcases hg with hg | ⟨u,hu,hg⟩
  ·rcases Ab g hg with hg | hg
   ·exact h.new g (.inl hg)
   ·omega
  ·rcases List.mem_append.1 hu with hu | hu
   ·exact h.new g (.inr ⟨u,hu,hg⟩)
   ·have:=h2.new g (.inr ⟨u,hu,hg⟩);omega
theorem RdR.first (B:Nat) (w:World) (hB:B<=w.heap.size):RdR B [[]] (some ⟨w.heap.size,0,none⟩) 1 1 [(.slice none 0 0,.slice none 0 0)] (w.alloc (.cells #[.slice none 0 0,.slice none 0 0] 33)):=by
 refine ⟨rfl,rfl,Own.lit #[.slice none 0 0,.slice none 0 0] 1 (by unfold maxLen;omega) rfl,fun i u l hu hl=>?_,fun g hg=>?_⟩
 ·cases i with
  | zero =>
    obtain rfl:=Option.some.inj hu
    obtain rfl:=Option.some.inj hl
    exact gC _
  | succ i=>simp at hu
 ·rcases hg with hg | ⟨u,hu,hg⟩
  ·simp [Value.ownBlock] at hg;omega
  ·rw [List.mem_singleton] at hu
   subst hu
   rcases hg with hg | hg <;> simp [Value.ownBlock] at hg
structure ClR (B:Nat) (L:List Pl) (a:Option Addr) (n c i:Nat) (us vs:List (Value×Value)) (wz:World):Prop where
 len:L.length=n
 ul:us.length=n
 vl:vs.length=i
 own:Own wz 33 2 (.slice a n c) n (plC (vs++us.drop i))
 each:∀ (k:Nat) (u:Value×Value) (l:Pl),us[k]? = some u->L[k]? = some l->zC wz l u.1 u.2
 done:∀ (k:Nat) (u:Value×Value) (l:Pl),vs[k]? = some u->L[k]? = some l->zC wz l u.1 u.2
 apart:∀ (i j:Nat) (u u':Value×Value),i≠j->vs[i]? = some u->vs[j]? = some u'->∀ g,(u.1.ownBlock=some g->u'.1.ownBlock≠some g)/\(u.2.ownBlock=some g->u'.2.ownBlock≠some g)
 row:∀ g,(Value.slice a n c).ownBlock=some g->B<=g
 new:∀ u∈vs,∀ g,u.1.ownBlock=some g\/u.2.ownBlock=some g->B<=g
theorem RdR.cl {B:Nat} {L:List Pl} {a:Option Addr} {n c:Nat} {us:List (Value×Value)} {w:World} (h:RdR B L a n c us w):ClR B L a n c 0 us [] w :=
 ⟨h.len,h.ul,rfl,h.own,h.each,fun k u l hu _=>by simp at hu,fun i j u u' _ hu=>by simp at hu,fun g hg=>h.new g (.inl hg),fun u hu=>by simp at hu⟩
theorem ClR.at {B:Nat} {L:List Pl} {a:Option Addr} {n c i:Nat} {us vs:List (Value×Value)} {w:World} (h:ClR B L a n c i us vs w) (hi:i<n):∃ u l,us[i]? = some u/\L[i]? = some l/\zC w l u.1 u.2:=by
 have h1:us[i]? = some (us[i]'(by rw [h.ul];exact hi)):=List.getElem?_eq_getElem _
 have h2:L[i]? = some (L[i]'(by rw [h.len];exact hi)):=List.getElem?_eq_getElem _
 exact ⟨_,_,h1,h2,h.each i _ _ h1 h2⟩
theorem ClR.cells {B:Nat} {L:List Pl} {a:Option Addr} {n c i:Nat} {us vs:List (Value×Value)} {w:World} (h:ClR B L a n c i us vs w) {u:Value×Value} (hu:us[i]? = some u):∃ g,a=some ⟨g,0,none⟩/\w.cell? ⟨g,i*2,none⟩=some u.1/\w.cell? ⟨g,i*2+1,none⟩=some u.2:=by
 have fi:(vs++us.drop i)[i]? = some u:=by
  have hv:=h.vl
  rw [List.getElem?_append_right (by omega),List.getElem?_drop,hv,Nat.sub_self,Nat.add_zero];exact hu
 obtain ⟨h1,h2⟩:=plC_at _ i u fi
 obtain ⟨g,c',e,k1⟩:=h.own.at h1
 obtain ⟨g',c'',e',k2⟩:=h.own.at h2
 simp only [Value.slice.injEq,true_and] at e e'
 obtain ⟨rfl,_⟩:=e
 obtain ⟨e',_⟩:=e'
 simp only [Option.some.injEq,Addr.mk.injEq,and_true] at e'
 obtain rfl:=e'
 exact ⟨g,rfl,k1,k2⟩
theorem Own.put2 {w:World} {e:TypeId} {g n c:Nat} {xs:List Value} (h:Own w e 2 (.slice (some ⟨g,0,none⟩) n c) n xs) (j:Nat) (u:Value):Own (w.setCell ⟨g,j,none⟩ u) e 2 (.slice (some ⟨g,0,none⟩) n c) n (xs.set j u):=by
 obtain ⟨hl,⟨h0,_⟩ | ⟨g',cap,cur,hv,h0,hg,sP,Ah,hcs,fl⟩⟩:=h
 ·cases h0
 ·simp only [Value.slice.injEq,Option.some.injEq,Addr.mk.injEq] at hv
  obtain ⟨⟨rfl,_,_⟩,_,rfl⟩:=hv
  refine ⟨by simpa using hl,.inr ⟨g,c,cur.setIfInBounds j u,rfl,h0,kr hg,sP,Ah,by simpa using hcs,?_⟩⟩
  rw [Array.toList_setIfInBounds,<- fl,List.take_set]
theorem plC_put (vs us:List (Value×Value)) (u:Value×Value) (h:vs.length<us.length):((plC (vs++us.drop vs.length)).set (vs.length*2) u.1).set (vs.length*2+1) u.2=plC ((vs++[u])++us.drop (vs.length+1)):=by
 have hl:=gE vs
 have hd:us.drop vs.length=us[vs.length]::us.drop (vs.length+1):=(List.drop_eq_getElem_cons h)
 rw [hd,vF,xT,List.append_assoc,vF,vF,show plC [u]=[u.1,u.2] from rfl]
 rw [<- hl,List.set_append_right _ _ (bX _),Nat.sub_self,List.set_cons_zero,List.set_append_right _ _ (by omega),Nat.add_sub_cancel_left]
 rfl
theorem ClR.put {B:Nat} {L:List Pl} {g n c i:Nat} {us vs:List (Value×Value)} {w W:World} (h:ClR B L (some ⟨g,0,none⟩) n c i us vs w) (hi:i<n) (hB:Below w.heap.size w W) (hBB:B<=w.heap.size) {l:Pl} (hL:L[i]? = some l) {mv pt:Value} (hp:zC W l mv pt) (hn:∀ g,mv.ownBlock=some g\/pt.ownBlock=some g->w.heap.size<=g) :
 ClR B L (some ⟨g,0,none⟩) n c (i+1) us (vs++[(mv,pt)]) ((W.setCell ⟨g,i*2,none⟩ mv).setCell ⟨g,i*2+1,none⟩ pt):=by
 have hoW:Own W 33 2 (.slice (some ⟨g,0,none⟩) n c) n (plC (vs++us.drop i)):=h.own.keep fun g o _ ho=>by rw [hB.block g (zZ ho)];exact ho
 have ch:But (fun b=>(Value.slice (some ⟨g,0,none⟩) n c).ownBlock=some b) W ((W.setCell ⟨g,i*2,none⟩ mv).setCell ⟨g,i*2+1,none⟩ pt):=((But.refl (fun b=>(Value.slice (some ⟨g,0,none⟩) n c).ownBlock=some b) W).setCell (p:=⟨g,i*2,none⟩) (.inl rfl) _).setCell (p:=⟨g,i*2+1,none⟩) (.inl rfl) _
 have Ce:=(hoW.put2 (i*2) mv).put2 (i*2+1) pt
 have mS:=h.vl
 refine ⟨h.len,h.ul,by rw [List.length_append,mS];rfl,?_,fun k u l hu hl=>?_,fun k u l' hu hl=>?_,fun k j u u' hkj hu fi g'=>?_,h.row,fun u hu g' hg=>?_⟩
 ·subst mS
  rw [plC_put vs us (mv,pt) (by rw [h.ul];exact hi)] at Ce
  exact Ce
 ·exact ((h.each k u l hu hl).below hB).offRow hoW ch
 ·rcases Nat.lt_or_ge k vs.length with hk | hk
  ·rw [List.getElem?_append_left hk] at hu
   exact ((h.done k u l' hu hl).below hB).offRow hoW ch
  ·rw [List.getElem?_append_right hk] at hu
   have eL:k-vs.length=0:=by have:=(List.getElem?_eq_some_iff.1 hu).1;simp at this;omega
   rw [eL] at hu
   obtain rfl:=Option.some.inj hu
   obtain rfl:k=i:=by omega
   rw [hL] at hl
   obtain rfl:=Option.some.inj hl
   exact hp.offRow hoW ch
 ·have old:∀ q x,q<vs.length->(vs++[(mv,pt)])[q]? = some x->∀ g',(x.1.ownBlock=some g'\/x.2.ownBlock=some g')->g'<w.heap.size:=fun q x hq hx g' cb=>by
   rw [List.getElem?_append_left hq] at hx
   have aX:q<L.length:=by rw [h.len];omega
   have hp:=h.done q x _ hx (List.getElem?_eq_getElem aX)
   exact cb.elim (fun e=>hp.1.lt e) fun e=>hp.2.lt e
  have new:∀ q x,vs.length<=q->(vs++[(mv,pt)])[q]? = some x->q=vs.length/\x=(mv,pt):=fun q x hq hx=>by
   have h2:=(List.getElem?_eq_some_iff.1 hx).1
   rw [List.length_append,List.length_singleton] at h2
   obtain rfl:q=vs.length:=by omega
   rw [List.getElem?_append_right (bX _),Nat.sub_self] at hx
   exact ⟨rfl,(Option.some.inj hx).symm⟩
  rcases Nat.lt_or_ge k vs.length with hk | hk <;> rcases Nat.lt_or_ge j vs.length with hj | hj
  ·rw [List.getElem?_append_left hk] at hu
   rw [List.getElem?_append_left hj] at fi
   exact h.apart k j u u' hkj hu fi g'
  ·obtain ⟨_,rfl⟩:=new j u' hj fi
   refine ⟨fun e e'=>?_,fun e e'=>?_⟩
   ·have h1:=old k u hk hu g' (.inl e);have h2:=hn g' (.inl e');omega
   ·have h1:=old k u hk hu g' (.inr e);have h2:=hn g' (.inr e');omega
  ·obtain ⟨_,rfl⟩:=new k u hk hu
   refine ⟨fun e e'=>?_,fun e e'=>?_⟩
   ·have h1:=old j u' hj fi g' (.inl e');have h2:=hn g' (.inl e);omega
   ·have h1:=old j u' hj fi g' (.inr e');have h2:=hn g' (.inr e);omega
  ·obtain ⟨rfl,_⟩:=new k u hk hu
   obtain ⟨rfl,_⟩:=new j u' hj fi
   exact absurd rfl hkj
 ·rcases List.mem_append.1 hu with hu | hu
  ·exact h.new u hu g' hg
  ·rw [List.mem_singleton] at hu
   subst hu
   have:=hn g' hg;omega
def qT (t:Ty) (b:Bd):Nat->List Pl
 | 0=>[[]]
 | r+1=>vt t b r
def fAt (t:Ty) (b:Bd) (r:Nat) (v:Pl):List Pl:=if r=0 then j7 t v else stepL t b v
theorem last_flat (t:Ty) (b:Bd):∀ r,vt t b r=(qT t b r).flatMap (fAt t b r)
 | 0=>by simp [vt,qT,fAt]
 | r+1=>by
   rw [vt,qT]
   congr 1
theorem prev_in {t:Ty} {b:Bd} (bL:zW t<=15) (hf:kB t.args b) (hw:wfB b) (r:Nat) (hr:r<=20) (u:Pl) (hu:u∈qT t b r):yD t b u/\(r=0/\u=[]\/0<r/\u.length+1=2*r):=by
 cases r with
 | zero =>
   rw [qT,List.mem_singleton] at hu
   subst hu
   exact ⟨in_nil t b,.inl ⟨rfl,rfl⟩⟩
 | succ r =>
   obtain ⟨h1,h2⟩:=pz bL hf hw r (by omega) u hu
   exact ⟨h1,.inr ⟨by omega,by omega⟩⟩
theorem flat_next {t:Ty} {b:Bd} {r j:Nat} {v:Pl} (h:(qT t b r)[j]? = some v):((qT t b r).take (j+1)).flatMap (fAt t b r)=((qT t b r).take j).flatMap (fAt t b r)++fAt t b r v:=flat_take h _
def hE (o:Option (List Pl)) (w:World) (en:Ending) (w':World):Prop :=
 ∃ a n c us,en=.returned (.tuple #[.slice a n c,.bool o.isSome])/\Below w.heap.size w w'/\NxR w.heap.size (o.getD []) a n c us w'
theorem hE.none {w w':World} (hb:Below w.heap.size w w'):hE none w (.returned (.tuple #[.slice .none 0 0,.bool false])) w':=⟨_,_,_,[],rfl,hb,NxR.nil _ _⟩
theorem plays_over {s text:Bs} {b:Bd} {n:Int} (h:zM s text=some b) (h0:¬ n<0) (h8:¬ 8<n) {r k:Nat} (hr:r+1<=(n.toNat+1) / 2) (hk:300<(jX (zV s).1 b r).length+(((qT (zV s).1 b r).take k).flatMap (fAt (zV s).1 b r)).length):qR s text n=none:=by
 unfold qR
 rw [h]
 simp only
 rw [if_neg (by omega)]
 have h1:=flat_take_le (qT (zV s).1 b r) (fAt (zV s).1 b r) k
 have h2:=gT (zV s).1 b hr
 rw [jX,List.length_append,last_flat] at h2
 rw [if_pos (by omega)]
theorem plays_done {s text:Bs} {b:Bd} {n:Int} (h:zM s text=some b) (h0:¬ n<0) (h8:¬ 8<n) {r:Nat} (hr:r=(n.toNat+1) / 2) (hk:(jX (zV s).1 b r).length<=300):qR s text n=some (jX (zV s).1 b r):=by
 subst hr
 unfold qR
 rw [h]
 simp only
 rw [if_neg (by omega),if_neg (by omega)]
theorem plays_no {s text:Bs} (h:zM s text=none) (n:Int):qR s text n=none:=by unfold qR;rw [h]
theorem plays_off {s text:Bs} {b:Bd} {n:Int} (h:zM s text=some b) (h0:n<0\/8<n):qR s text n=none:=by
 unfold qR
 rw [h]
 simp only
 rw [if_pos h0]
theorem yN {t:Ty} (bL:zW t<=15) {v:Pl} (h:zv t v=true):∀ x∈v,Lim x.1.length:=by
 intro x hx
 obtain ⟨i,hi⟩:=List.mem_iff_getElem?.1 hx
 have hl:=(List.getElem?_eq_some_iff.1 hi).1
 obtain ⟨c,p,z,hv,ho⟩:=kV h hl
 rw [hv] at hi
 obtain rfl:=Option.some.inj hi
 obtain ⟨a,ha⟩:=ho.hp
 have:=qP _ _ _ ha
 show (c::p).length<=_
 rw [List.length_cons];omega
def MovQ (xs:List Bs) (a:Option Addr) (n c:Nat) (t:Ty) (p:Bs) (w:World) (en:Ending) (w':World):Prop :=
 ∃ a' n' c',en=.returned (.slice a' n' c')/\n'=n+(kU t p).length/\But (fun b=>(Value.slice a n c).ownBlock=some b) w w'/\Own w' 9 1 (.slice a' n' c') n' ((xs++kU t p).map str)/\∀ g,(Value.slice a' n' c').ownBlock=some g->(Value.slice a n c).ownBlock=some g\/w.heap.size<=g
structure MvI (B:Nat) (xs:List Bs) (a:Option Addr) (n c:Nat) (ta:Option Addr) (tl tc:Nat) (t:Ty) (p:Bs) (w:World) (k:Nat) (a':Option Addr) (n' c':Nat) (wz:World):Prop where
 len:n'=n+(jJ t p k).length
 but:But (fun b=>(Value.slice a n c).ownBlock=some b) w wz
 own:Own wz 9 1 (.slice a' n' c') n' ((xs++jJ t p k).map str)
 row:∀ g,(Value.slice a' n' c').ownBlock=some g->(Value.slice a n c).ownBlock=some g\/w.heap.size<=g
 box:wz.heap[w.heap.size]? = some (.cells #[.slice ta tl tc] 61 (0,0))
theorem Rep.butRow {F:Nat->Prop} {w w':World} {m:Nat->Prop} {d:DV} {v:Value} (h:Rep F w d v) (hb:But m w w') (hm:∀ b,F b->¬ m b):Rep F w' d v :=
 (Rep.keep fun b o hF ho=>⟨hF,by rw [hb.block b (zZ ho) (hm b hF)];exact ho⟩).1 _ _ h
set_option maxRecDepth 100000 in
theorem wo (B:Nat):∀ (m:Nat) (t:Ty) (p:Bs) (tv:Value) (xs:List Bs) (a:Option Addr) (n c:Nat) (w:World),zW t<=m->m<=15->p.length+m<=1000->n+200*m<=100000->B<=w.heap.size->Rep (· < B) w (qZ t) tv->Own w 9 1 (.slice a n c) n (xs.map str)->(∀ g,(Value.slice a n c).ownBlock=some g->B<=g) ->
 Calls Tryz.prog 121 #[.agg #[tv],str p,.slice a n c] w (MovQ xs a n c t p w):=by
 intro m
 induction m with
 | zero=>intro t p tv xs a n c w h;have:=jd t;omega
 | succ m ih =>
   intro t p tv xs a n c w hm bL hp ry Ew hv b5 B9
   obtain ⟨ta,tc,rfl⟩:=zu hv
   have fb:=hv
   rw [qb] at fb
   obtain ⟨sa,sc,e,fW,bI,b8⟩:=zO fb
   simp only [Value.slice.injEq] at e
   obtain ⟨rfl,_,rfl⟩:=e
   have aN:=kd t
   obtain ⟨W,hW,bM,hz,b0⟩:=kJ w (.cells #[.slice ta t.args.length tc] 61)
   obtain ⟨Q,hQ⟩:∃ O:Bs,O=[113]++p:=⟨_,rfl⟩
   obtain ⟨T,hT⟩:∃ O:Bs,O=[116]++p:=⟨_,rfl⟩
   obtain ⟨G,hG⟩:∃ O:Bs,O=[102]++p:=⟨_,rfl⟩
   have s1:=fun w0=>km (P:=Tryz.prog) [113] p (by simp;omega) w0
   have s2:=fun w0=>km (P:=Tryz.prog) [116] p (by simp;omega) w0
   have s3:=fun w0=>km (P:=Tryz.prog) [102] p (by simp;omega) w0
   rw [<- hQ] at s1;rw [<- hT] at s2;rw [<- hG] at s3
   have HM0:=bU (show jJ t p 0=[Q,T,G] by rw [movesTo_zero,hQ,hT,hG];rfl)
   have HALL:=bU (movesTo_all t p)
   have sM:=bU (fun k a (h:t.args[k]? = some a)=>movesTo_next h p)
   have Bv:=bU (fun k=>movesTo_len (t:=t) (by omega) p k)
   have HW:=bU (bY hW (bY bM b0))
   have AT:=bU b8
   have IH:=bU ih
   have HP:=bU (bY hm (bY bL (bY hp (bY aN (bY Ew (bY B9 hv))))))
   have HOW:=bU (b5.keep (w':=W) fun g o _ ho=>by rw [bM.block g (zZ ho)];exact ho)
   have EQ:=bU (fun g hg=>b5.lt (g:=g) hg)
   have hnn:t.args.length<=7:=by omega
   have bw:p.length<=1000:=by omega
   have hnl:n<=100000:=by omega
   have HNB:=bU ry
   clear hQ hT hG hW bM hz b0 b8 ih hm bL hp aN hv fb b5 B9 bI Ew fW ry
   go_enter Tryz.func121,Tryz.ntmps121
   go_upto_region 1 with (fail)
   rw [HW.out.1]
   go_wp2_with (at_builtin;refine zB rfl _ _ 30 rfl 9 (str []) 1 16 Tryz.underlying30 Tryz.infoStr rfl (by decide) (.slice a n c) n (xs.map str) rfl ?c1 _ 3 [str Q,str T,str G] rfl ?c2 ?c3 ?c4 ?_)
   case c1=>exact HOW.out.alloc _
   case c2=>exact zR.lits #[str Q,str T,str G] 3 rfl (by simp [str,Value.oneCell']) _ (by simp)
   case c3=>unfold maxLen;omega
   case c4=>omega
   intro a2 c2 w2 oO bN mt
   have hbb:=HW.out.2.1.alloc HW.out.2.1.size (.cells #[str Q,str T,str G] 9)
   have Eo:MvI B xs a n c ta t.args.length tc t p w 0 a2 (n+3) c2 w2:=by
    refine ⟨by rw [HM0.out];rfl,(But.ofBelow hbb).trans' bN (fun _ _ h=>h),by rw [HM0.out,List.map_append];exact oO,fun g hg=>?_,?_⟩
    ·rcases mt g hg with h | h
     ·exact .inl h
     ·(try rw [zQ] at h);have:=HW.out.2.1.size;exact .inr (by omega)
    ·have h5:=zZ HW.out.2.2
     rw [bN.block _ (by rw [zQ];omega) (fun e=>by have:=EQ.out _ e;omega),Below.heap_alloc _ _ _ h5]
     exact HW.out.2.2
   have HI0:=bU Eo
   clear oO bN mt hbb Eo
   go_wp2_with fail
   go_loopw [2,7] (fun o i wr=>∃ (k n' c':Nat) (a':Option Addr) (wz:World),wz=wr/\k<=t.args.length/\i=.int .i64 k/\o=.slice a' n' c'/\MvI B xs a n c ta t.args.length tc t p w k a' n' c' wz) (fun _ i _=>t.args.length-(intOf i).toNat)
   case atStart=>exact ⟨0,_,_,_,_,rfl,Nat.zero_le _,rfl,rfl,HI0.out⟩
   case round =>
    obtain ⟨k,n',c',a',wr,rfl,hk,rfl,rfl,hI⟩:=hrel
    have HI:=bU hI
    have z0:=kP hI.box
    clear hI
    by_cases bA:k<t.args.length
    ·have cT:(k:Int)<(t.args.length:Int):=by omega
     obtain ⟨b',o',u,d,rfl,Ep,cL,hd,hu,hr⟩:=AT.out k bA
     rw [vS,Option.map_eq_some_iff] at hd
     obtain ⟨t',rO,rfl⟩:=hd
     obtain ⟨ua,uc,rfl⟩:=zu hr
     have nD:∀ b,b<B->¬ (Value.slice a n c).ownBlock=some b:=fun b hb e=>by have:=HP.out.2.2.2.2.2.1 b e;omega
     have kk:wr.cell? ⟨b',o'+k,none⟩=some (.slice ua t'.args.length uc):=(HI.out.but.cell (p:=⟨b',o'+k,none⟩) cL (nD b' Ep)).trans hu
     have D9:=xZ rO
     have hNX:=sM.out k t' rO
     have oE:=Rep.butRow hr HI.out.but nD
     have HT:=bU (bY D9 (bY hNX oE))
     have aF:(dec k).length<=2:=jc 1 k (by omega)
     have nd:=fun w0=>km (P:=Tryz.prog) p (dec k) (by omega) w0
     obtain ⟨S,hS⟩:=zzN (p++dec k)
     rw [hS] at nd HT
     have hSl:S.length<=p.length+1:=by rw [<- hS,List.length_append];have:=qB (show k<10 by omega);rw [this];simp
     have oH:=HI.out.but.size
     have rW:=Bv.out (k+1)
     have di:n'+200*m<=100000:=by have h1:=HI.out.len;have h2:=Bv.out k;have:=HNB.out;omega
     have C1:=bU (fun y=>wF k (by omega) y)
     have IH1:=bU (fun (y:World) (hy:Below wr.heap.size wr y)=>IH.out t' S (.slice ua t'.args.length uc) (xs++jJ t p k) a' n' c' y (by have:=HT.out.1;have:=HP.out;omega) (by have:=HP.out;omega) (by have:=HP.out;omega) di (bC HP.out.2.2.2.2.1 (bC oH hy.size)) (HT.out.2.2.below hy fun _ h=>h)
      (HI.out.own.keep fun g o _ ho=>by rw [hy.block g (zZ ho)];exact ho) (fun g hg=>by
       rcases HI.out.row g hg with h | h
       ·exact HP.out.2.2.2.2.2.1 g h
       ·exact bC HP.out.2.2.2.2.1 h))
     unfold MovQ at IH1
     obtain ⟨K,hK⟩:=zzN ((kU t' S).length)
     rw [hK] at IH1
     have HK:=bU hK
     have KEY:=bU (fun (y:World) (hy:Below wr.heap.size wr y)=>(show y.cell? ⟨w.heap.size,0,none⟩=some (.slice (some ⟨b',o',none⟩) t.args.length tc)/\y.cell? ⟨b',o'+k,none⟩=some (.slice ua t'.args.length uc) from
      ⟨(hy.cell (bW _ _ z0)).trans z0,(hy.cell (bW _ _ kk)).trans kk⟩))
     clear hS aF cL hu hr rO D9 hNX oE nD oH rW hK hSl kk di
     go_upto_region 5 with (fail)
     clear z0
     refine wp_region_noPanic ?_
     refine zX (fun w'=>Below wr.heap.size wr w') (fun i=>decide (10<=i)) (by kernel_rfl) ?_
     have bS:(fun w'=>Below wr.heap.size wr w') wr.drew:=Below.drew (bP _ _)
     refine zm 0 [1,3,4,10,11] (v:=?_) (by kernel_rfl) (by kernel_rfl) (by kernel_rfl) (by kernel_rfl) (fun _ _ _ _ h=>h) bS ?_ ?_
     rotate_left
     ·(intro oi ho;simp at ho;subst ho;refine Or.inl ⟨by rfl,fun w' bR=>?_⟩;go_simp;try with_reducible rfl)
     (intro d hd;simp at hd;subst hd;simp only [Act.put,List.setIfInBounds_toArray,List.set_cons_zero,List.set_cons_succ])
     refine zm 1 [3,4,10,11] (v:=?_) (by kernel_rfl) (by kernel_rfl) (by kernel_rfl) (by kernel_rfl) (fun _ _ _ _ h=>h) bS ?_ ?_
     rotate_left
     ·(intro oi ho;simp at ho;subst ho;refine Or.inl ⟨by rfl,fun w' bR=>?_⟩;obtain ⟨e0,e1⟩:=KEY.out w' bR;go_simp;try with_reducible rfl)
     (intro d hd;simp at hd;subst hd;simp only [Act.put,List.setIfInBounds_toArray,List.set_cons_zero,List.set_cons_succ])
     refine zm 2 [3,4,10,11] (v:=?_) (by kernel_rfl) (by kernel_rfl) (by kernel_rfl) (by kernel_rfl) (fun _ _ _ _ h=>h) bS ?_ ?_
     rotate_left
     ·(intro oi ho;simp at ho;subst ho;refine Or.inl ⟨by rfl,fun w' bR=>?_⟩;go_simp;try with_reducible rfl)
     (intro d hd;simp at hd;subst hd;simp only [Act.put,List.setIfInBounds_toArray,List.set_cons_zero,List.set_cons_succ])
     refine zm 3 [4,10,11] (v:=?_) (by kernel_rfl) (by kernel_rfl) (by kernel_rfl) (by kernel_rfl) (fun _ _ _ _ h=>h) bS ?_ ?_
     rotate_left
     ·(intro oi ho;simp at ho;subst ho;refine Or.inl ⟨by rfl,fun w' bR=>?_⟩;go_simp;try with_reducible rfl)
     (intro d hd;simp at hd;subst hd;simp only [Act.put,List.setIfInBounds_toArray,List.set_cons_zero,List.set_cons_succ])
     refine zm 4 [10,11] (v:=?_) (by kernel_rfl) (by kernel_rfl) (by kernel_rfl) (by kernel_rfl) (fun _ _ _ _ h=>h) bS ?_ ?_
     rotate_left
     ·(intro oi ho;simp at ho;subst ho;refine Or.inl ⟨by rfl,fun w' bR=>?_⟩;obtain ⟨e0,e1⟩:=KEY.out w' bR;go_simp;try with_reducible rfl)
     (intro d hd;simp at hd;subst hd;simp only [Act.put,List.setIfInBounds_toArray,List.set_cons_zero,List.set_cons_succ])
     refine zm 5 [8,10,11] (v:=?_) (by kernel_rfl) (by kernel_rfl) (by kernel_rfl) (by kernel_rfl) (fun _ _ _ _ h=>h) bS ?_ ?_
     rotate_left
     ·(intro oi ho;simp at ho;subst ho;refine Or.inl ⟨by rfl,fun w' bR=>?_⟩;go_simp;try with_reducible rfl)
     (intro d hd;simp at hd;subst hd;simp only [Act.put,List.setIfInBounds_toArray,List.set_cons_zero,List.set_cons_succ])
     refine zm 6 [7,8,10,11] (v:=?_) (by kernel_rfl) (by kernel_rfl) (by kernel_rfl) (by kernel_rfl) (fun _ _ _ _ h=>h) bS ?_ ?_
     rotate_left
     ·(intro oi ho;simp at ho;subst ho;refine Or.inl ⟨by rfl,fun w' bR=>?_⟩;go_simp;try with_reducible rfl)
     (intro d hd;simp at hd;subst hd;simp only [Act.put,List.setIfInBounds_toArray,List.set_cons_zero,List.set_cons_succ])
     refine zm 9 [10,11] (v:=?_) (by kernel_rfl) (by kernel_rfl) (by kernel_rfl) (by kernel_rfl) (fun _ _ _ _ h=>h) bS ?_ ?_
     rotate_left
     ·(intro oi ho;simp at ho;subst ho;refine Or.inl ⟨by rfl,fun w' bR=>?_⟩;go_simp;try with_reducible rfl)
     (intro d hd;simp at hd;subst hd;simp only [Act.put,List.setIfInBounds_toArray,List.set_cons_zero,List.set_cons_succ])
     (refine on 7 ?_;intro o ho K' hK;simp at ho;subst ho;go_simp)
     go_at_call 96
     (with_reducible refine (C1.out _).mono ?_)
     rintro en x7 ⟨rfl,bh⟩
     have dK:Below wr.heap.size wr x7:=Below.trans bS (bh.mono (Below.size bS))
     (refine hK.out _ _ (fun _=>dK) ?_;clear hK K';try simp only [pQ,pN,pZ,pS])
     have tA:=dK
     refine zm 8 [10,11] (v:=?_) (by kernel_rfl) (by kernel_rfl) (by kernel_rfl) (by kernel_rfl) (fun _ _ _ _ h=>h) tA ?_ ?_
     rotate_left
     ·(intro oi ho;simp at ho;subst ho;refine Or.inl ⟨by rfl,fun w' bR=>?_⟩;go_simp;try with_reducible rfl)
     (intro d hd;simp at hd;subst hd;simp only [Act.put,List.setIfInBounds_toArray,List.set_cons_zero,List.set_cons_succ])
     (refine on 10 ?_;intro o ho K' hK;simp at ho;subst ho;go_simp)
     go_at_call 121
     (with_reducible refine (IH1.out x7 dK).mono ?_)
     rintro en x10 ⟨a3,n3,c3,rfl,aG,At,Cr,Dt⟩
     have HN3:=bU aG
     clear aG
     (refine hK.out _ _ (fun h=>by simp at h) ?_;clear hK K';try simp only [pQ,pN,pZ,pS])
     (refine on 11 ?_;intro o ho K' hK;simp at ho;subst ho;go_simp)
     (refine hK.out _ _ (fun h=>by simp at h) ?_;clear hK K';try simp only [pQ,pN,pZ,pS])
     refine zU (by kernel_rfl) (NoPanic.normal ?_) _
     clear bS KEY C1 IH1 nd
     have hI2:MvI B xs a n c (some ⟨b',o',none⟩) t.args.length tc t p w (k+1) a3 n3 c3 x10:=by
      have DQ:=HI.out.but.trans' (But.ofBelow (m:=fun _=>False) dK) (fun _ _ h=>h.elim)
      have hsz7:=dK.size
      have oH:=HI.out.but.size
      refine ⟨by rw [HN3.out,HI.out.len,HT.out.2.1,List.length_append,HK.out];omega,DQ.trans' At (fun i hi e=>?_),by rw [HT.out.2.1,<- List.append_assoc];exact Cr,fun g hg=>?_,?_⟩
      ·rcases HI.out.row i e with h | h
       ·exact h
       ·omega
      ·rcases Dt g hg with h | h
       ·exact HI.out.row g h
       ·exact .inr (by omega)
      ·have eo:=(dK.block _ (zZ HI.out.box)).trans HI.out.box
       rw [At.block _ (zZ eo) (fun e=>HI.out.own.notBox HI.out.box (by decide) e)]
       exact eo
     have HI2:=bU hI2
     clear hI2 dK bh At Cr Dt
     go_wp2_with fail
     go_roundw
     case rel=>exact ⟨k+1,_,_,_,_,rfl,by omega,by go_num,rfl,HI2.out⟩
     case measure=>simp [intOf];omega
    ·have cT:¬ (k:Int)<(t.args.length:Int):=by omega
     obtain rfl:k=t.args.length:=by omega
     go_wp2_with fail
     go_ret
     have ho:=HI.out.own
     have hl:=HI.out.len
     rw [HALL.out] at ho hl
     exact ⟨a',n',c',rfl,hl,HI.out.but,ho,HI.out.row⟩
end Go.Proofs.YtfedjhgaeikjmaaGreatDoor

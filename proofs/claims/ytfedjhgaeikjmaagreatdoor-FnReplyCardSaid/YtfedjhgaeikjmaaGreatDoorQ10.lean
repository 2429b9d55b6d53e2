/- Walks of functions that the statement reaches, and plain words. No conditions. -/
import Derived.Test.YtfedjhgaeikjmaaGreatDoorQ9
set_option linter.unusedVariables false
set_option linter.unusedSimpArgs false
set_option maxHeartbeats 8000000
namespace Go.Proofs.YtfedjhgaeikjmaaGreatDoor
open Go.RowKit
mutual
def kW:Ty->Bs->List Bs
 | .mk ts,p=>(113::p)::(116::p)::(102::p)::kZ ts 0 p
def kZ:List Ty->Nat->Bs->List Bs
 | [],_,_=>[]
 | a::ts,i,p=>kW a (p++dec i)++kZ ts (i+1) p
end
theorem movesT_eq (t:Ty) (p:Bs):kW t p=[113::p,116::p,102::p]++kZ t.args 0 p:=by
 cases t;rw [kW];rfl
theorem xt:∀ (ts:List Ty) (a:Ty) (i:Nat) (p:Bs),kZ (ts++[a]) i p=kZ ts i p++kW a (p++dec (i+ts.length))
 | [],a,i,p=>by rw [List.nil_append,kZ,kZ,kZ];simp
 | b::ts,a,i,p=>by rw [List.cons_append,kZ,kZ,xt ts a (i+1) p,List.append_assoc,List.length_cons,show i+1+ts.length=i+(ts.length+1) from by omega]
theorem movesTs_take {ts:List Ty} {i:Nat} {a:Ty} (h:ts[i]? = some a) (p:Bs):kZ (ts.take (i+1)) 0 p=kZ (ts.take i) 0 p++kW a (p++dec i):=by
 have hl:=(List.getElem?_eq_some_iff.1 h).1
 rw [List.take_add_one,h,Option.toList_some,xt,List.length_take,show 0+min i ts.length=i from by omega]
mutual
theorem g7:∀ (t:Ty) (p:Bs),2*(kW t p).length<=3*(zP t+1)
 | .mk ts,p=>by
   have:=yP ts 0 p
   rw [kW,zP]
   simp only [List.length_cons];omega
theorem yP:∀ (ts:List Ty) (i:Nat) (p:Bs),2*(kZ ts i p).length<=3*zu ts
 | [],_,_=>by simp [kZ]
 | a::ts,i,p=>by
   have h1:=g7 a (p++dec i)
   have h2:=yP ts (i+1) p
   rw [kZ,zu,List.length_append];omega
end
mutual
theorem movesT_ok (t0:Ty):∀ (t:Ty) (p:Bs),atT t0 p=some t->zP t<=15->∀ m∈kW t p,qm t0 m=true
 | .mk ts,p,h,cJ,m,hm=>by
   rw [kW] at hm
   simp only [List.mem_cons] at hm
   rcases hm with rfl | rfl | rfl | hm
   ·simp only [qm,h];rfl
   ·simp only [qm,h];rfl
   ·simp only [qm,h];rfl
   ·have h1:=kt (.mk ts)
    refine go t0 (.mk ts) p h ts 0 (by simp [Ty.args]) (by show 0+ts.length<=10;have:(Ty.mk ts).args=ts:=rfl;rw [this] at h1;omega) (fun a ha=>?_) m hm
    obtain ⟨i,hi⟩:=List.mem_iff_getElem?.1 ha
    have:=xR (t:=.mk ts) hi
    omega
theorem go (t0 t:Ty) (p:Bs) (h:atT t0 p=some t):∀ (ts:List Ty) (i:Nat),ts=t.args.drop i->i+ts.length<=10->(∀ a∈ts,zP a<=15)->∀ m∈kZ ts i p,qm t0 m=true
 | [],_,_,_,_,m,hm=>by simp [kZ] at hm
 | a::ts,i,e,h10,cJ,m,hm=>by
   rw [List.length_cons] at h10
   rw [kZ,List.mem_append] at hm
   have ha:t.args[i]? = some a:=by
    have:(t.args.drop i)[0]? = some a:=by rw [<- e];rfl
    rwa [List.getElem?_drop,Nat.add_zero] at this
   rcases hm with hm | hm
   ·refine movesT_ok t0 a (p++dec i) ?_ (cJ a (List.mem_cons_self ..)) m hm
    rw [jo,h,Option.bind_some,qD (by omega),atT_digit _ (by omega)];exact ha
   ·refine go t0 t p h ts (i+1) ?_ (by omega) (fun a' h'=>cJ a' (List.mem_cons_of_mem _ h')) m hm
    rw [<- List.drop_drop,<- e];rfl
end
def yN (t:Ty) (v:Pl) (m:Bs) (i:Nat):Bool:=zO t (v++[(m,(i:Int))]) && qO (v++[(m,(i:Int))])
def fitsS (v:Pl) (m:Bs) (i:Nat):Bool:=(zd v (decide (v.length % 2=0)) v.length).contains i && (!(m == [113]) && (kG m == decide (v.length % 2=0)) && ((v[i]?).map (·.1) == some (qt m))) && (isQ m || kj v v.length [] == (i:Int))
theorem fits_eq {t:Ty} {v:Pl} (hv:zO t v=true) (hl:qO v=true) (h0:0<v.length) (dE:v.length<60) {m:Bs} (hm:qm t m=true) {i:Nat} (hi:i<v.length):yN t v m i=fitsS v m i:=by
 have be:=uX v (m,(i:Int))
 have cD:q_ t (v++[(m,(i:Int))]) v.length=((kG m == decide (v.length % 2=0)) && (!(m == [113]) && ((v[i]?).map (·.1) == some (qt m)))):=by
  unfold q_
  rw [be]
  simp only
  rw [if_neg (by omega),hm,Int.toNat_natCast,vt hi,decide_eq_true (show (0:Int)<=(i:Int) by omega),decide_eq_true (show (i:Int)<(v.length:Int) by omega),Bool.true_and,Bool.true_and]
  rfl
 have nq:(((zd v (kG m) v.length).map fun n=>((n:Nat):Int)).contains (i:Int))=(zd v (kG m) v.length).contains i:=by
  rw [Bool.eq_iff_iff,List.contains_iff_mem,List.contains_iff_mem,List.mem_map]
  exact ⟨fun ⟨a,h1,h2⟩=>by obtain rfl:a=i:=by omega
                           exact h1,fun h=>⟨i,h,rfl⟩⟩
 unfold yN fitsS
 rw [xP hv,cD,xE hv hl,uU be h0,yh be,uS hv _ _ (bw _),jb v _ _ _ (bw _),nq,decide_eq_true dE,Bool.true_and]
 cases hb:(kG m == decide (v.length % 2=0)) with
 | false=>simp
 | true =>
   have e:kG m=decide (v.length % 2=0):=by simpa using hb
   rw [e]
   have hz:((i:Int) == kj v v.length [])=(kj v v.length [] == (i:Int)):=by
    rw [Bool.eq_iff_iff,beq_iff_eq,beq_iff_eq];exact eq_comm
   rw [hz]
   cases (zd v (decide (v.length % 2=0)) v.length).contains i <;> cases (m == [113]) <;> cases ((v[i]?).map (·.1) == some (qt m)) <;> simp
def wO (t:Ty) (v:Pl) (i:Nat) (ms:List Bs):List Pl:=ms.filterMap fun m=>if yN t v m i then some (v++[(m,(i:Int))]) else none
def um (t:Ty) (v:Pl) (n:Nat):List Pl:=(List.range n).flatMap fun i=>wO t v i (kW t [])
def vP (t:Ty) (v:Pl):List Pl:=if v.length=0 then [[([113],-1)]] else um t v v.length
theorem rowL_snoc (t:Ty) (v:Pl) (i:Nat) (ms:List Bs) (m:Bs):wO t v i (ms++[m])=wO t v i ms++(if yN t v m i then [v++[(m,(i:Int))]] else []):=by
 unfold wO
 rw [List.filterMap_append]
 congr 1
 by_cases h:yN t v m i=true
 ·simp [h]
 ·simp [h]
theorem rowL_take {t:Ty} {v:Pl} {i j:Nat} {ms:List Bs} {m:Bs} (h:ms[j]? = some m):wO t v i (ms.take (j+1))=wO t v i (ms.take j)++(if yN t v m i then [v++[(m,(i:Int))]] else []):=by
 rw [List.take_add_one,h,Option.toList_some,rowL_snoc]
theorem rowL_nil (t:Ty) (v:Pl) (i:Nat):wO t v i []=[]:=rfl
theorem xB (t:Ty) (v:Pl) (n:Nat):um t v (n+1)=um t v n++wO t v n (kW t []):=by
 unfold um;rw [List.range_succ,List.flatMap_append];simp
theorem rowL_len (t:Ty) (v:Pl) (i:Nat) (ms:List Bs):(wO t v i ms).length<=ms.length:=List.length_filterMap_le ..
theorem xr {t:Ty} (cJ:zP t<=15) (p:Bs):(kW t p).length<=24:=by have:=g7 t p;omega
theorem wd {t:Ty} (cJ:zP t<=15) (v:Pl):∀ n,(um t v n).length<=24*n
 | 0=>by simp [um]
 | n+1=>by
   have h1:=wd cJ v n
   have h2:=rowL_len t v n (kW t [])
   have h3:=xr cJ []
   rw [xB,List.length_append];omega
theorem nextL_len {t:Ty} (cJ:zP t<=15) (v:Pl):(vP t v).length<=24*v.length+1:=by
 unfold vP
 split
 ·simp
 ·have:=wd cJ v v.length;omega
def LegPl (t:Ty) (v:Pl):Prop:=zO t v=true/\qO v=true
theorem mem_next {t:Ty} {v u:Pl} (h0:v.length≠0) (h:u∈vP t v):∃ m i,i<v.length/\u=v++[(m,(i:Int))]/\LegPl t u:=by
 unfold vP um at h
 rw [if_neg h0] at h
 simp only [List.mem_flatMap,List.mem_range,wO,List.mem_filterMap] at h
 obtain ⟨i,hi,m,_,hm⟩:=h
 split at hm
 ·rename_i hf
  obtain rfl:=Option.some.inj hm
  unfold yN at hf
  rw [Bool.and_eq_true] at hf
  exact ⟨m,i,hi,rfl,hf⟩
 ·simp at hm
theorem leg_first (t:Ty):LegPl t [([113],-1)]:=by
 constructor
 ·unfold zO qQ qQ q_ qm
  simp only [List.length_singleton,List.getElem?_cons_zero,jk]
  rfl
 ·decide
theorem next_leg {t:Ty} {v u:Pl} (h:u∈vP t v):LegPl t u/\u.length=v.length+1:=by
 by_cases h0:v.length=0
 ·unfold vP at h
  rw [if_pos h0,List.mem_singleton] at h
  subst h
  exact ⟨leg_first t,by rw [h0];rfl⟩
 ·obtain ⟨m,i,hi,rfl,hl⟩:=mem_next h0 h
  exact ⟨hl,by rw [List.length_append];rfl⟩
theorem next_in {t:Ty} {b:Bd} {v u:Pl} (hv:uN t b v) (he:v.length % 2=0) (h:u∈vP t v):uN t b u/\u.length=v.length+1:=by
 obtain ⟨h1,h2⟩:=next_leg h
 refine ⟨⟨h1.1,h1.2,fun j hj Em=>?_⟩,h2⟩
 by_cases h0:v.length=0
 ·omega
 ·obtain ⟨m,i,hi,rfl,hl⟩:=mem_next h0 h
  exact uv hl.1 v.length (bw _) hv.fo j (by omega) Em
def stepL (t:Ty) (b:Bd) (v:Pl):List Pl:=match qR t b v with
 | none=>[]
 | some u=>vP t u
def uJ (t:Ty) (b:Bd):Nat->List Pl
 | 0=>vP t []
 | r+1=>(uJ t b r).flatMap (stepL t b)
def jE (t:Ty) (b:Bd):Nat->List Pl
 | 0=>[[]]
 | r+1=>jE t b r++uJ t b r
theorem in_nil (t:Ty) (b:Bd):uN t b []:=⟨rfl,rfl,fun i hi=>absurd hi (by simp)⟩
theorem gJ {t:Ty} {b:Bd} (cJ:zP t<=15) (hf:kE t.args b) (hw:wfB b):∀ r,r<=20->∀ u∈uJ t b r,uN t b u/\u.length=2*r+1
 | 0,_,u,hu=>by
   obtain ⟨h1,h2⟩:=next_in (in_nil t b) rfl hu
   exact ⟨h1,h2⟩
 | r+1,hr,u,hu=>by
   rw [uJ,List.mem_flatMap] at hu
   obtain ⟨v,hv,hu⟩:=hu
   obtain ⟨h1,h2⟩:=gJ cJ hf hw r (by omega) v hv
   unfold stepL qR at hu
   rw [if_neg (by omega)] at hu
   cases hx:z_ t b v v.length with
   | none=>rw [hx] at hu;simp at hu
   | some x =>
     rw [hx] at hu
     simp only [Option.map_some] at hu
     have h3:=j7 cJ hf hw h1 (by omega) (by omega) hx
     have hl:(v++[x]).length=v.length+1:=by rw [List.length_append];rfl
     obtain ⟨h4,h5⟩:=next_in h3 (by omega) hu
     exact ⟨h4,by omega⟩
theorem out_in {t:Ty} {b:Bd} (cJ:zP t<=15) (hf:kE t.args b) (hw:wfB b):∀ r,r<=20->∀ u∈jE t b r,uN t b u/\u.length<=2*r/\(u.length=0\/u.length % 2=1)
 | 0,_,u,hu=>by
   rw [jE,List.mem_singleton] at hu
   subst hu
   exact ⟨in_nil t b,bw _,.inl rfl⟩
 | r+1,hr,u,hu=>by
   rw [jE,List.mem_append] at hu
   rcases hu with hu | hu
   ·obtain ⟨h1,h2,h3⟩:=out_in cJ hf hw r (by omega) u hu
    exact ⟨h1,by omega,h3⟩
   ·obtain ⟨h1,h2⟩:=gJ cJ hf hw r (by omega) u hu
    exact ⟨h1,by omega,.inr (by omega)⟩
theorem ge (t:Ty) (b:Bd) {r q:Nat} (h:r<=q):(jE t b r).length<=(jE t b q).length:=by
 induction q with
 | zero=>obtain rfl:r=0:=by omega
         exact bw _
 | succ q ih =>
   rcases Nat.lt_or_ge r (q+1) with h' | h'
   ·have:=ih (by omega)
    rw [jE,List.length_append];omega
   ·obtain rfl:r=q+1:=by omega
    exact bw _
def qA (s text:Bs) (n:Int):Option (List Pl):=match zN s text with
 | none=>none
 | some b=>if n<0\/8<n then none else if 300<(jE (zV s).1 b ((n.toNat+1) / 2)).length then none else some (jE (zV s).1 b ((n.toNat+1) / 2))
theorem flat_take {α β:Type} {l:List α} {i:Nat} {x:α} (h:l[i]? = some x) (f:α->List β):(l.take (i+1)).flatMap f=(l.take i).flatMap f++f x:=by
 rw [List.take_add_one,h,Option.toList_some,List.flatMap_append];simp
theorem flat_take_le {α β:Type} (l:List α) (f:α->List β) (i:Nat):((l.take i).flatMap f).length<=(l.flatMap f).length:=by
 have:(l.take i).flatMap f++(l.drop i).flatMap f=l.flatMap f:=by rw [<- List.flatMap_append,List.take_append_drop]
 rw [<- this,List.length_append];omega
set_option maxRecDepth 100000 in
theorem l3Follows_any (t:Ty) (b:Bd) (v:Pl) (tv mv pt:Value) (nv:List Value) (w:World) (hk:Rep (fun _=>True) w (qP t) tv) (hb:zv (fun _=>True) w (qZ b) nv) (hm:vK (fun _=>True) t v mv pt w)
 (cJ:zP t<=15) (hf:kE t.args b) (hw:wfB b) :
 Calls Tryz.prog 50 #[.agg #[tv],.agg nv.toArray,.agg #[mv,pt]] w fun en w'=>en=.returned (.bool (decide (zj t b v v.length)))/\Below w.heap.size w w':=by
 have dE:=za hm.ok
 obtain ⟨vi,a2,c2,a3,c3,rfl,_,_⟩:=jx hb
 obtain ⟨ta,tc,rfl⟩:=zp hk
 obtain ⟨ma,mc,rfl,r9,_⟩:=zI hm.m
 obtain ⟨pa,pc,rfl,ri,_⟩:=zI hm.p
 obtain ⟨_,_,e1,cb⟩:=hm.m.cells
 obtain ⟨_,_,e2,dP⟩:=hm.p.cells
 simp only [Value.slice.injEq,true_and] at e1 e2
 obtain ⟨rfl,rfl⟩:=e1
 obtain ⟨rfl,rfl⟩:=e2
 generalize hq0:jm b=q0 at *
 generalize rQ:(qh b).length=q2 at *
 generalize hq3:(jg b).length=q3 at *
 obtain ⟨W,hW,b9,hz,b0,b1,b2⟩:=boxes_3 w (.cells #[.slice ta t.args.length tc] 61) (.cells #[str q0,.int .i64 vi,.slice a2 q2 c2,.slice a3 q3 c3] 64) (.cells #[.slice ma v.length mc,.slice pa v.length pc] 33)
 have PF:=bz (fun e (he:e<v.length) (sq:e % 2=0)=>jq cJ hf hw hm.ok e he sq)
 have RPL:=bz (fun (y:World) (hy:Below w.heap.size w y) (k n:Nat) (s0:St) (hnk:n=k+1) (sK:n<=v.length) (fH:k % 2=0) (dF:zj t b v k) (dz:kN t b v (k+1)=some s0) (mv' pt':Value) (h1:qC (fun _=>True) w (v.take n) mv') (h2:qB (fun _=>True) w (v.take n) pt') =>
  yF (fun _=>True) t b (v.take n) k s0 (.slice ta t.args.length tc) mv' pt' [str q0,.int .i64 vi,.slice a2 q2 c2,.slice a3 q3 c3] y (hk.below hy fun _ h=>h) ((Rep.keep fun i o hi ho=>⟨hi,by rw [hy.block i (zZ ho)];exact ho⟩).2 _ _ hb) ((hm.take h1 h2).below hy) cJ hf hw (by rw [List.length_take];omega) fH (follows_take hm.ok b (by omega) (by omega) dF) (by rw [jc hm.ok b (by omega) (by omega)];exact dz))
 have HH:=bz (bj cb (bj dP (bj b9 (bj hm (bj r9 ri)))))
 have HW:=bz (bj hW (bj hz (bj b0 (bj b1 b2))))
 clear hm cb dP hz b0 b1 b2 b9 hW hk hb cJ hf hw r9 ri
 obtain ⟨c0,c1,_,_⟩:=zJ HW.out.2.2.2.2
 go_enter Tryz.func50,Tryz.ntmps50
 go_upto_region 1 with (fail)
 rw [HW.out.1]
 go_wp2_with fail
 go_loopw [7] (fun i wr=>∃ (wz:World) (k n:Nat),wz=wr/\n=k+1/\k % 2=0/\k<=v.length+1/\i=.int .i64 (n:Nat)/\zj t b v n/\Below W.heap.size W wz) (fun i _=>v.length+5-(intOf i).toNat)
 case atStart=>exact ⟨_,0,1,rfl,rfl,rfl,by omega,rfl,fun i hi h=>by omega,bh _ _⟩
 case round =>
  obtain ⟨wr,k,n,rfl,hnk,fH,lB,rfl,dF,hB⟩:=hrel
  have d0:=(hB.cell (bp _ _ c0)).trans c0
  have d1:=(hB.cell (bp _ _ c1)).trans c1
  clear c0 c1
  have HB:=bz (bj hB (zzT HH.out.2.2.1 hB))
  clear hB
  by_cases cQ:n<v.length
  ·have dU:(n:Int)<(v.length:Int):=by omega
   obtain ⟨x,p,z,cS,cD⟩:=kQ HH.out.2.2.2.1.ok cQ
   obtain ⟨mb,mo,rfl,_,dD,dC⟩:=HH.out.1 n _ cS
   obtain ⟨pb,po,rfl,_,dB,dN⟩:=HH.out.2.1 n _ cS
   have r9:=HH.out.2.2.2.2.1
   have ri:=HH.out.2.2.2.2.2
   have aK:(v.take n).length=n:=by rw [List.length_take];omega
   have HM:qC (fun _=>True) w (v.take n) (.slice (some ⟨mb,mo,none⟩) n mc):=by
    have:=Rep_take HH.out.2.2.2.1.m (show n<=v.length by omega) (by simp)
    unfold qC;rw [aK,List.map_take];exact this
   have HP:qB (fun _=>True) w (v.take n) (.slice (some ⟨pb,po,none⟩) n pc):=by
    have:=Rep_take HH.out.2.2.2.1.p (show n<=v.length by omega) (by simp)
    unfold qB;rw [aK,List.map_take];exact this
   have CCU:=bz (fun (y:World)=>l3Cut_at mb mo mc pb po pc v.length v.length n y (by omega) (by omega))
   obtain ⟨s,hand,dz,cd⟩:=PF.out k (by omega) fH (fun i hi h=>dF i (by omega) h)
   have CRE:∀ y,Below wr.heap.size wr y->Calls Tryz.prog 51 #[.agg #[.slice ta t.args.length tc],.agg #[str q0,.int .i64 vi,.slice a2 q2 c2,.slice a3 q3 c3],.agg #[.slice (some ⟨mb,mo,none⟩) n mc,.slice (some ⟨pb,po,none⟩) n pc]] y (ReplyQ s (v.take n) (.slice (some ⟨mb,mo,none⟩) n mc) (.slice (some ⟨pb,po,none⟩) n pc) y):=fun y hy =>
    RPL.out y (zzT HB.out.2 hy) k n s hnk (by omega) fH (fun i hi h=>dF i (by omega) h) dz _ _ HM HP
   have fd:z_ t b v n=qM s:=by unfold z_;rw [hnk,dz];rfl
   have KEY:=bz (fun (y:World) (hy:Below wr.heap.size wr y)=>(show (y.cell? ⟨w.heap.size+2,0,none⟩=some (.slice (some ⟨mb,mo,none⟩) v.length mc)/\y.cell? ⟨w.heap.size+2,1,none⟩=some (.slice (some ⟨pb,po,none⟩) v.length pc))/\y.cell? ⟨mb,mo+n,none⟩=some (str (x::p))/\y.cell? ⟨pb,po+n,none⟩=some (.int .i64 z)/\y.cell? ⟨w.heap.size,0,none⟩=some (.slice ta t.args.length tc)/\y.cell? ⟨w.heap.size+1,0,none⟩=some (str q0)/\y.cell? ⟨w.heap.size+1,1,none⟩=some (.int .i64 vi)/\y.cell? ⟨w.heap.size+1,2,none⟩=some (.slice a2 q2 c2)/\y.cell? ⟨w.heap.size+1,3,none⟩=some (.slice a3 q3 c3) from by
    have hk:∀ (a:Addr) (u:Value),wr.cell? a=some u->y.cell? a=some u:=fun a u h=>(hy.cell (bp _ _ h)).trans h
    have dl:∀ (a:Addr) (u:Value),W.cell? a=some u->y.cell? a=some u:=fun a u h=>hk a u ((HB.out.1.cell (bp _ _ h)).trans h)
    obtain ⟨i0,i1,i2,i3⟩:=kK HW.out.2.2.2.1
    exact ⟨⟨hk _ _ d0,hk _ _ d1⟩,hk _ _ ((HB.out.2.cell (p:=⟨mb,mo+n,none⟩) dD).trans dC),hk _ _ ((HB.out.2.cell (p:=⟨pb,po+n,none⟩) dB).trans dN),dl _ _ (kF HW.out.2.2.1),dl _ _ i0,dl _ _ i1,dl _ _ i2,dl _ _ i3⟩))
   have HF:=bz (bj dF (bj hnk (bj fH (bj lB (bj cQ (bj cS fd))))))
   have F1:=bz aK
   obtain ⟨M,hM⟩:=zzM (x::p)
   rw [<- hM] at KEY
   have HMM:=bz hM
   have rh:IntKind.i64.wrap ((n:Int)+2)=((n+2:Nat):Int):=by rw [qV _ (by omega) (by omega)];omega
   obtain ⟨oo,ho⟩:=zzN (qM s)
   have HO:=bz ho
   clear cS cD dD dC dB dN dz cd fd dF hnk fH lB hM RPL PF HM HP r9 ri aK
   cases oo with
   | none =>
     have CRN:=bz (fun (y:World) (hy:Below wr.heap.size wr y)=>(show Calls Tryz.prog 51 #[.agg #[.slice ta t.args.length tc],.agg #[str q0,.int .i64 vi,.slice a2 q2 c2,.slice a3 q3 c3],.agg #[.slice (some ⟨mb,mo,none⟩) n mc,.slice (some ⟨pb,po,none⟩) n pc]] y (fun en w'=>en=.returned (.tuple #[.agg #[.slice (some ⟨mb,mo,none⟩) n mc,.slice (some ⟨pb,po,none⟩) n pc],.bool false])/\Below y.heap.size y w') from by
      refine (CRE y hy).mono ?_
      rintro en w' ⟨r1,m1,e1,r2,m2,e2,rfl,hb,du,_⟩
      obtain ⟨h1,h2⟩:=du ho
      rw [h1,h2,ho];exact ⟨rfl,hb⟩))
     clear CRE ho
     go_upto_region 4 with (fail)
     clear d0 d1
     refine j9 (X:=Nat) (fun zz x=>(((((((((((zz.put (some 18) (.agg #[.slice ta t.args.length tc])).put (some 19) (.agg #[str q0,.int .i64 vi,.slice a2 q2 c2,.slice a3 q3 c3])).put (some 20) (.agg #[.slice (some ⟨mb,mo,none⟩) v.length mc,.slice (some ⟨pb,po,none⟩) v.length pc])).put (some 21) (.int .i64 (n:Nat))).put (some 22) (.agg #[.slice (some ⟨mb,mo,none⟩) n mc,.slice (some ⟨pb,po,none⟩) n pc])).put (some 23) (.tuple #[.agg #[.slice (some ⟨mb,mo,none⟩) n mc,.slice (some ⟨pb,po,none⟩) n pc],.bool false])).put (some 17) (.tuple #[.agg #[.slice (some ⟨mb,mo,none⟩) n mc,.slice (some ⟨pb,po,none⟩) n pc],.bool false])).put (some 24) (.agg #[.slice (some ⟨mb,mo,none⟩) n mc,.slice (some ⟨pb,po,none⟩) n pc])).put (some 25) (.bool false)).put (some 8) (.pointer (some ⟨x,0,none⟩))).put (some 9) (.bool false))) (fun x w7=>Below wr.heap.size wr w7) ?_ ?_
     ·refine wp_region_noPanic ?_
      refine zW (fun w'=>Below wr.heap.size wr w') (fun _=>false) (by kernel_rfl) ?_
      obtain ⟨y0,dH⟩:=zzN (wr.drew)
      rw [dH]
      have cX:Below wr.heap.size wr y0:=by rw [<- dH];exact Below.drew (bh _ _)
      obtain ⟨fT,eG⟩:∃ x:Nat->Nat,x=fun _=>0:=⟨_,rfl⟩
      clear dH eG
      refine tk [0] cX ?_
      (intro d hd;simp [tkD] at hd;subst hd;simp only [tks,pQ,pZ,pS])
      (refine ⟨?_,?_,?_⟩;rotate_left;· (intro oi ho;simp at ho;subst ho;refine Or.inl ⟨by rfl,fun w' b_=>?_⟩;have e0:=(KEY.out w' b_).2.2.2.1;go_simp;try with_reducible rfl))
      refine tk [1] cX ?_
      (intro d hd;simp [tkD] at hd;subst hd;simp only [tks,pQ,pZ,pS])
      (refine ⟨?_,?_,?_⟩;rotate_left;· (intro oi ho;simp at ho;subst ho;refine Or.inl ⟨by rfl,fun w' b_=>?_⟩;obtain ⟨_,_,_,_,e0,e1,e2,e3⟩:=KEY.out w' b_;go_simp;try with_reducible rfl))
      refine tk [2,3] cX ?_
      (intro d hd;simp [tkD] at hd;subst hd;simp only [tks,pQ,pZ,pS])
      iterate 2 (refine ⟨?_,?_,?_⟩;rotate_left;· (intro oi ho;simp at ho;subst ho;refine Or.inl ⟨by rfl,fun w' b_=>?_⟩;obtain ⟨e0,e1⟩:=(KEY.out w' b_).1;go_simp;try with_reducible rfl))
      refine kH 4 9 (by kernel_rfl) ?_ ?_
      ·(intro o4 ho K' hK;simp at ho;subst ho)
       go_simp
       go_at_call 89
       (with_reducible refine (CCU.out _).mono ?_)
       rintro en y1 ⟨rfl,hb⟩
       have cC:Below wr.heap.size wr y1:=zzT cX hb
       have nZ:=bz hb;clear hb
       (refine hK.out _ _ (fun _=>cC) ?_;clear hK K';try simp only [pQ,pN,pZ,pS])
       refine kH 5 9 (by kernel_rfl) ?_ ?_
       ·(intro o5 ho K' hK;simp at ho;subst ho)
        go_simp
        go_at_call 51
        (with_reducible refine (CRN.out _ cC).mono ?_)
        rintro en y2 ⟨rfl,hb⟩
        have dZ:Below wr.heap.size wr y2:=zzT cC hb
        have AZ:=bz hb;clear hb
        (refine hK.out _ _ (fun _=>dZ) ?_;clear hK K';try simp only [pQ,pN,pZ,pS])
        refine tk [6,7,8] dZ ?_
        (intro d hd;simp [tkD] at hd;subst hd;simp only [tks,pQ,pZ,pS])
        iterate 3 (refine ⟨?_,?_,?_⟩;rotate_left;· (intro oi ho;simp at ho;subst ho;refine Or.inl ⟨by rfl,fun w' b_=>?_⟩;go_simp;try with_reducible rfl))
        (refine on 9 ?_;intro o ho K' hK;simp at ho;subst ho;go_simp)
        (refine hK.out _ _ (fun _=>dZ.alloc dZ.size _) ?_;clear hK K';try simp only [pQ,pN,pZ,pS])
        obtain ⟨y3,be⟩:=zzN (y2.alloc (.cells #[.slice none 0 0,.slice none 0 0] 33))
        obtain ⟨gX,ff⟩:=zzN (y2.heap.size)
        rw [be,ff]
        have eV:Below wr.heap.size wr y3:=by rw [<- be];exact dZ.alloc dZ.size _
        obtain ⟨Ah,cV⟩:=zzN (zS fT gX 1)
        have EX:Hid (y3.heap[gX]? = some (.cells #[.slice none 0 0,.slice none 0 0] 33 (0,0))/\Ah gX=1/\wr.heap.size<=gX):=by rw [<- be,<- cV,<- ff];exact ⟨zR _ _,by unfold zS;rw [if_pos rfl],dZ.size⟩
        clear be ff cV
        (refine on 10 ?_;intro o ho K' hK;simp at ho;subst ho)
        obtain ⟨CU,iJ⟩:∃ u,y3.cell? ⟨gX,0,none⟩=some u:=⟨_,by simp [World.cell?,EX.out.1];rfl⟩
        have iK:y3.frozen? ⟨gX,0,none⟩=false:=by simp [World.frozen?,EX.out.1]
        obtain ⟨CQ,iQ⟩:∃ u,y3.cell? ⟨gX,1,none⟩=some u:=⟨_,by simp [World.cell?,EX.out.1];rfl⟩
        have iZ:y3.frozen? ⟨gX,1,none⟩=false:=by simp [World.frozen?,EX.out.1]
        go_simp
        (refine hK.out _ _ (fun _=>((eV.setCell (p:=⟨gX,0,none⟩) EX.out.2.2 _).setCell (p:=⟨gX,1,none⟩) EX.out.2.2 _)) ?_;clear hK K';try simp only [pQ,pN,pZ,pS])
        obtain ⟨y4,be⟩:=zzN (((y3.setCell ⟨gX,0,none⟩ (.slice (some ⟨mb,mo,none⟩) n mc)).setCell ⟨gX,1,none⟩ (.slice (some ⟨pb,po,none⟩) n pc)))
        rw [be]
        have nV:Below wr.heap.size wr y4:=by rw [<- be];exact ((eV.setCell (p:=⟨gX,0,none⟩) EX.out.2.2 _).setCell (p:=⟨gX,1,none⟩) EX.out.2.2 _)
        have cR:But (fun i=>i=gX) y3 y4:=by rw [<- be];exact (((But.refl (fun i=>i=gX) y3).setCell (p:=⟨gX,0,none⟩) (.inl rfl) _).setCell (p:=⟨gX,1,none⟩) (.inl rfl) _)
        have cV:∀ g,g=gX->Ah g=1:=fun g e=>by rw [e];exact EX.out.2.1
        have EX:Hid (y4.heap[gX]? = some (.cells #[.slice (some ⟨mb,mo,none⟩) n mc,.slice (some ⟨pb,po,none⟩) n pc] 33 (0,0))/\Ah gX=1/\wr.heap.size<=gX):=⟨by rw [<- be];exact (zQ (zQ EX.out.1)),EX.out.2⟩
        clear be cR cV iJ iK iQ iZ
        (refine on 11 ?_;intro o ho K' hK;simp at ho;subst ho;go_simp)
        (refine hK.out _ _ (fun _=>nV) ?_;clear hK K';try simp only [pQ,pN,pZ,pS])
        refine zU (by kernel_rfl) (NoPanic.normal ?_) _
        exact ⟨rfl,gX,by rfl,nV⟩
       ·(intro o9 ho K' hK;simp at ho;subst ho)
        go_simp
        (refine hK.out _ _ (fun _=>cC.alloc cC.size _) ?_;clear hK K';try simp only [pQ,pN,pZ,pS])
        obtain ⟨y6,be⟩:=zzN (y1.alloc (.cells #[.slice none 0 0,.slice none 0 0] 33))
        obtain ⟨gX,ff⟩:=zzN (y1.heap.size)
        rw [be,ff]
        have dW:Below wr.heap.size wr y6:=by rw [<- be];exact cC.alloc cC.size _
        obtain ⟨ip,cV⟩:=zzN (zS fT gX 1)
        have EX:Hid (y6.heap[gX]? = some (.cells #[.slice none 0 0,.slice none 0 0] 33 (0,0))/\ip gX=1/\wr.heap.size<=gX):=by rw [<- be,<- cV,<- ff];exact ⟨zR _ _,by unfold zS;rw [if_pos rfl],cC.size⟩
        clear be ff cV
        (refine on 5 ?_;intro o ho K' hK;simp at ho;subst ho;go_simp)
        go_at_call 51
        (with_reducible refine (CRN.out _ dW).mono ?_)
        rintro en y7 ⟨rfl,hb⟩
        have dh:Below wr.heap.size wr y7:=zzT dW hb
        have EX:Hid (y7.heap[gX]? = some (.cells #[.slice none 0 0,.slice none 0 0] 33 (0,0))/\ip gX=1/\wr.heap.size<=gX):=⟨(hb.block _ (zZ EX.out.1)).trans EX.out.1,EX.out.2⟩
        have hby7:=bz hb;clear hb
        (refine hK.out _ _ (fun _=>dh) ?_;clear hK K';try simp only [pQ,pN,pZ,pS])
        refine tk [6,7,8] dh ?_
        (intro d hd;simp [tkD] at hd;subst hd;simp only [tks,pQ,pZ,pS])
        iterate 3 (refine ⟨?_,?_,?_⟩;rotate_left;· (intro oi ho;simp at ho;subst ho;refine Or.inl ⟨by rfl,fun w' b_=>?_⟩;go_simp;try with_reducible rfl))
        (refine on 10 ?_;intro o ho K' hK;simp at ho;subst ho)
        obtain ⟨CU,iJ⟩:∃ u,y7.cell? ⟨gX,0,none⟩=some u:=⟨_,by simp [World.cell?,EX.out.1];rfl⟩
        have iK:y7.frozen? ⟨gX,0,none⟩=false:=by simp [World.frozen?,EX.out.1]
        obtain ⟨CQ,iQ⟩:∃ u,y7.cell? ⟨gX,1,none⟩=some u:=⟨_,by simp [World.cell?,EX.out.1];rfl⟩
        have iZ:y7.frozen? ⟨gX,1,none⟩=false:=by simp [World.frozen?,EX.out.1]
        go_simp
        (refine hK.out _ _ (fun _=>((dh.setCell (p:=⟨gX,0,none⟩) EX.out.2.2 _).setCell (p:=⟨gX,1,none⟩) EX.out.2.2 _)) ?_;clear hK K';try simp only [pQ,pN,pZ,pS])
        obtain ⟨y8,be⟩:=zzN (((y7.setCell ⟨gX,0,none⟩ (.slice (some ⟨mb,mo,none⟩) n mc)).setCell ⟨gX,1,none⟩ (.slice (some ⟨pb,po,none⟩) n pc)))
        rw [be]
        have af:Below wr.heap.size wr y8:=by rw [<- be];exact ((dh.setCell (p:=⟨gX,0,none⟩) EX.out.2.2 _).setCell (p:=⟨gX,1,none⟩) EX.out.2.2 _)
        have cR:But (fun i=>i=gX) y7 y8:=by rw [<- be];exact (((But.refl (fun i=>i=gX) y7).setCell (p:=⟨gX,0,none⟩) (.inl rfl) _).setCell (p:=⟨gX,1,none⟩) (.inl rfl) _)
        have cV:∀ g,g=gX->ip g=1:=fun g e=>by rw [e];exact EX.out.2.1
        have EX:Hid (y8.heap[gX]? = some (.cells #[.slice (some ⟨mb,mo,none⟩) n mc,.slice (some ⟨pb,po,none⟩) n pc] 33 (0,0))/\ip gX=1/\wr.heap.size<=gX):=⟨by rw [<- be];exact (zQ (zQ EX.out.1)),EX.out.2⟩
        clear be cR cV iJ iK iQ iZ
        (refine on 11 ?_;intro o ho K' hK;simp at ho;subst ho;go_simp)
        (refine hK.out _ _ (fun _=>af) ?_;clear hK K';try simp only [pQ,pN,pZ,pS])
        refine zU (by kernel_rfl) (NoPanic.normal ?_) _
        exact ⟨rfl,gX,by rfl,af⟩
      ·(intro o9 ho K' hK;simp at ho;subst ho)
       go_simp
       (refine hK.out _ _ (fun _=>cX.alloc cX.size _) ?_;clear hK K';try simp only [pQ,pN,pZ,pS])
       obtain ⟨CG,be⟩:=zzN (y0.alloc (.cells #[.slice none 0 0,.slice none 0 0] 33))
       obtain ⟨gX,ff⟩:=zzN (y0.heap.size)
       rw [be,ff]
       have nf:Below wr.heap.size wr CG:=by rw [<- be];exact cX.alloc cX.size _
       obtain ⟨fx,cV⟩:=zzN (zS fT gX 1)
       have EX:Hid (CG.heap[gX]? = some (.cells #[.slice none 0 0,.slice none 0 0] 33 (0,0))/\fx gX=1/\wr.heap.size<=gX):=by rw [<- be,<- cV,<- ff];exact ⟨zR _ _,by unfold zS;rw [if_pos rfl],cX.size⟩
       clear be ff cV
       (refine on 4 ?_;intro o ho K' hK;simp at ho;subst ho;go_simp)
       go_at_call 89
       (with_reducible refine (CCU.out _).mono ?_)
       rintro en Cz ⟨rfl,hb⟩
       have ej:Below wr.heap.size wr Cz:=zzT nf hb
       have EX:Hid (Cz.heap[gX]? = some (.cells #[.slice none 0 0,.slice none 0 0] 33 (0,0))/\fx gX=1/\wr.heap.size<=gX):=⟨(hb.block _ (zZ EX.out.1)).trans EX.out.1,EX.out.2⟩
       have ET:=bz hb;clear hb
       (refine hK.out _ _ (fun _=>ej) ?_;clear hK K';try simp only [pQ,pN,pZ,pS])
       (refine on 5 ?_;intro o ho K' hK;simp at ho;subst ho;go_simp)
       go_at_call 51
       (with_reducible refine (CRN.out _ ej).mono ?_)
       rintro en mM ⟨rfl,hb⟩
       have ez:Below wr.heap.size wr mM:=zzT ej hb
       have EX:Hid (mM.heap[gX]? = some (.cells #[.slice none 0 0,.slice none 0 0] 33 (0,0))/\fx gX=1/\wr.heap.size<=gX):=⟨(hb.block _ (zZ EX.out.1)).trans EX.out.1,EX.out.2⟩
       have ES:=bz hb;clear hb
       (refine hK.out _ _ (fun _=>ez) ?_;clear hK K';try simp only [pQ,pN,pZ,pS])
       refine tk [6,7,8] ez ?_
       (intro d hd;simp [tkD] at hd;subst hd;simp only [tks,pQ,pZ,pS])
       iterate 3 (refine ⟨?_,?_,?_⟩;rotate_left;· (intro oi ho;simp at ho;subst ho;refine Or.inl ⟨by rfl,fun w' b_=>?_⟩;go_simp;try with_reducible rfl))
       (refine on 10 ?_;intro o ho K' hK;simp at ho;subst ho)
       obtain ⟨CU,iJ⟩:∃ u,mM.cell? ⟨gX,0,none⟩=some u:=⟨_,by simp [World.cell?,EX.out.1];rfl⟩
       have iK:mM.frozen? ⟨gX,0,none⟩=false:=by simp [World.frozen?,EX.out.1]
       obtain ⟨CQ,iQ⟩:∃ u,mM.cell? ⟨gX,1,none⟩=some u:=⟨_,by simp [World.cell?,EX.out.1];rfl⟩
       have iZ:mM.frozen? ⟨gX,1,none⟩=false:=by simp [World.frozen?,EX.out.1]
       go_simp
       (refine hK.out _ _ (fun _=>((ez.setCell (p:=⟨gX,0,none⟩) EX.out.2.2 _).setCell (p:=⟨gX,1,none⟩) EX.out.2.2 _)) ?_;clear hK K';try simp only [pQ,pN,pZ,pS])
       obtain ⟨oQ,be⟩:=zzN (((mM.setCell ⟨gX,0,none⟩ (.slice (some ⟨mb,mo,none⟩) n mc)).setCell ⟨gX,1,none⟩ (.slice (some ⟨pb,po,none⟩) n pc)))
       rw [be]
       have nd:Below wr.heap.size wr oQ:=by rw [<- be];exact ((ez.setCell (p:=⟨gX,0,none⟩) EX.out.2.2 _).setCell (p:=⟨gX,1,none⟩) EX.out.2.2 _)
       have cR:But (fun i=>i=gX) mM oQ:=by rw [<- be];exact (((But.refl (fun i=>i=gX) mM).setCell (p:=⟨gX,0,none⟩) (.inl rfl) _).setCell (p:=⟨gX,1,none⟩) (.inl rfl) _)
       have cV:∀ g,g=gX->fx g=1:=fun g e=>by rw [e];exact EX.out.2.1
       have EX:Hid (oQ.heap[gX]? = some (.cells #[.slice (some ⟨mb,mo,none⟩) n mc,.slice (some ⟨pb,po,none⟩) n pc] 33 (0,0))/\fx gX=1/\wr.heap.size<=gX):=⟨by rw [<- be];exact (zQ (zQ EX.out.1)),EX.out.2⟩
       clear be cR cV iJ iK iQ iZ
       (refine on 11 ?_;intro o ho K' hK;simp at ho;subst ho;go_simp)
       (refine hK.out _ _ (fun _=>nd) ?_;clear hK K';try simp only [pQ,pN,pZ,pS])
       refine zU (by kernel_rfl) (NoPanic.normal ?_) _
       exact ⟨rfl,gX,by rfl,nd⟩
     rintro gX W7 dc
     simp only [pQ,pN,pZ,pS]
     have tE:=zzT HB.out.2 dc
     go_upto_region 5 with (fail)
     refine wp_region_noPanic ?_
     refine zW (fun w'=>Below W7.heap.size W7 w') (fun _=>false) (by kernel_rfl) ?_
     have cZ:(fun w'=>Below W7.heap.size W7 w') W7.drew:=Below.drew (bh _ _)
     refine tk [0,1,2,3,4,5,6,7,8,9,10,11,12,13,14,15,16,17,18,19,20,21,22,23,24,25,26,27] cZ ?_
     (intro d hd;simp [tkD] at hd;subst hd;simp only [tks,pQ,pZ,pS])
     iterate 28 (refine ⟨?_,?_,?_⟩;rotate_left;· (intro oi ho;simp at ho;subst ho;first | (refine Or.inr ⟨by rfl,?_⟩;with_reducible rfl) | (refine Or.inl ⟨by rfl,fun w' b_=>?_⟩;go_simp;try with_reducible rfl)))
     refine zU (by kernel_rfl) (NoPanic.normal ?_) _
     have E:=bz (show decide (zj t b v v.length)=false by
      rw [decide_eq_false_iff_not]
      intro h
      have h1:=HF.out.2.1;have h2:=HF.out.2.2.1
      have h3:=h n HF.out.2.2.2.2.1 (by omega)
      rw [HF.out.2.2.2.2.2.2,HO.out,HF.out.2.2.2.2.2.1] at h3
      simp at h3)
     have F6:=bz tE
     clear cZ dc tE KEY
     go_wp2_with fail
     go_ret
     exact ⟨by rw [E.out];rfl,F6.out.drew⟩
   | some xx =>
     obtain ⟨m,zz⟩:=xx
     have CRS:=bz (fun (y:World) (hy:Below wr.heap.size wr y)=>(show Calls Tryz.prog 51 #[.agg #[.slice ta t.args.length tc],.agg #[str q0,.int .i64 vi,.slice a2 q2 c2,.slice a3 q3 c3],.agg #[.slice (some ⟨mb,mo,none⟩) n mc,.slice (some ⟨pb,po,none⟩) n pc]] y (fun en w'=>∃ r1 e1 r2 e2,en=.returned (.tuple #[.agg #[.slice r1 (n+1) e1,.slice r2 (n+1) e2],.bool true])/\Below y.heap.size y w'/\zE w' (v.take n++[(m,zz)]) (.slice r1 (n+1) e1) (.slice r2 (n+1) e2)) from by
      refine (CRE y hy).mono ?_
      rintro en w' ⟨r1,m1,e1,r2,m2,e2,rfl,hb,_,i6⟩
      obtain ⟨hp,_⟩:=i6 _ ho
      obtain ⟨_,_,q1⟩:=hp.1.slice
      obtain ⟨_,_,q2⟩:=hp.2.slice
      simp only [Value.slice.injEq] at q1 q2
      have l1:(v.take n++[(m,zz)]).length=n+1:=by rw [List.length_append,F1.out];rfl
      obtain rfl:m1=n+1:=q1.2.1.trans l1
      obtain rfl:m2=n+1:=q2.2.1.trans l1
      rw [ho];exact ⟨r1,e1,r2,e2,rfl,hb,hp⟩))
     clear CRE ho
     go_upto_region 4 with (fail)
     clear d0 d1
     refine j9 (X:=Option Addr×Nat×Option Addr×Nat×Nat) (fun zx x=>(((((((((((zx.put (some 18) (.agg #[.slice ta t.args.length tc])).put (some 19) (.agg #[str q0,.int .i64 vi,.slice a2 q2 c2,.slice a3 q3 c3])).put (some 20) (.agg #[.slice (some ⟨mb,mo,none⟩) v.length mc,.slice (some ⟨pb,po,none⟩) v.length pc])).put (some 21) (.int .i64 (n:Nat))).put (some 22) (.agg #[.slice (some ⟨mb,mo,none⟩) n mc,.slice (some ⟨pb,po,none⟩) n pc])).put (some 23) (.tuple #[.agg #[.slice x.1 (n+1) x.2.1,.slice x.2.2.1 (n+1) x.2.2.2.1],.bool true])).put (some 17) (.tuple #[.agg #[.slice x.1 (n+1) x.2.1,.slice x.2.2.1 (n+1) x.2.2.2.1],.bool true])).put (some 24) (.agg #[.slice x.1 (n+1) x.2.1,.slice x.2.2.1 (n+1) x.2.2.2.1])).put (some 25) (.bool true)).put (some 8) (.pointer (some ⟨x.2.2.2.2,0,none⟩))).put (some 9) (.bool true))) (fun x w7=>Below wr.heap.size wr w7/\w7.heap[x.2.2.2.2]? = some (.cells #[.slice x.1 (n+1) x.2.1,.slice x.2.2.1 (n+1) x.2.2.2.1] 33 (0,0))/\zE w7 (v.take n++[(m,zz)]) (.slice x.1 (n+1) x.2.1) (.slice x.2.2.1 (n+1) x.2.2.2.1)) ?_ ?_
     ·refine wp_region_noPanic ?_
      refine zW (fun w'=>Below wr.heap.size wr w') (fun _=>false) (by kernel_rfl) ?_
      obtain ⟨y0,dH⟩:=zzN (wr.drew)
      rw [dH]
      have cX:Below wr.heap.size wr y0:=by rw [<- dH];exact Below.drew (bh _ _)
      obtain ⟨fT,eG⟩:∃ x:Nat->Nat,x=fun _=>0:=⟨_,rfl⟩
      clear dH eG
      refine tk [0] cX ?_
      (intro d hd;simp [tkD] at hd;subst hd;simp only [tks,pQ,pZ,pS])
      (refine ⟨?_,?_,?_⟩;rotate_left;· (intro oi ho;simp at ho;subst ho;refine Or.inl ⟨by rfl,fun w' b_=>?_⟩;have e0:=(KEY.out w' b_).2.2.2.1;go_simp;try with_reducible rfl))
      refine tk [1] cX ?_
      (intro d hd;simp [tkD] at hd;subst hd;simp only [tks,pQ,pZ,pS])
      (refine ⟨?_,?_,?_⟩;rotate_left;· (intro oi ho;simp at ho;subst ho;refine Or.inl ⟨by rfl,fun w' b_=>?_⟩;obtain ⟨_,_,_,_,e0,e1,e2,e3⟩:=KEY.out w' b_;go_simp;try with_reducible rfl))
      refine tk [2,3] cX ?_
      (intro d hd;simp [tkD] at hd;subst hd;simp only [tks,pQ,pZ,pS])
      iterate 2 (refine ⟨?_,?_,?_⟩;rotate_left;· (intro oi ho;simp at ho;subst ho;refine Or.inl ⟨by rfl,fun w' b_=>?_⟩;obtain ⟨e0,e1⟩:=(KEY.out w' b_).1;go_simp;try with_reducible rfl))
      refine kH 4 9 (by kernel_rfl) ?_ ?_
      ·(intro o4 ho K' hK;simp at ho;subst ho)
       go_simp
       go_at_call 89
       (with_reducible refine (CCU.out _).mono ?_)
       rintro en y1 ⟨rfl,hb⟩
       have cC:Below wr.heap.size wr y1:=zzT cX hb
       have nZ:=bz hb;clear hb
       (refine hK.out _ _ (fun _=>cC) ?_;clear hK K';try simp only [pQ,pN,pZ,pS])
       refine kH 5 9 (by kernel_rfl) ?_ ?_
       ·(intro o5 ho K' hK;simp at ho;subst ho)
        go_simp
        go_at_call 51
        (with_reducible refine (CRS.out _ cC).mono ?_)
        rintro en y2 ⟨r1,e1,r2,e2,rfl,hb,hp⟩
        have CP:Hid (zE y2 (v.take n++[(m,zz)]) (.slice r1 (n+1) e1) (.slice r2 (n+1) e2)):=hp
        clear hp
        have dZ:Below wr.heap.size wr y2:=zzT cC hb
        have AZ:=bz hb;clear hb
        (refine hK.out _ _ (fun _=>dZ) ?_;clear hK K';try simp only [pQ,pN,pZ,pS])
        refine tk [6,7,8] dZ ?_
        (intro d hd;simp [tkD] at hd;subst hd;simp only [tks,pQ,pZ,pS])
        iterate 3 (refine ⟨?_,?_,?_⟩;rotate_left;· (intro oi ho;simp at ho;subst ho;refine Or.inl ⟨by rfl,fun w' b_=>?_⟩;go_simp;try with_reducible rfl))
        (refine on 9 ?_;intro o ho K' hK;simp at ho;subst ho;go_simp)
        (refine hK.out _ _ (fun _=>dZ.alloc dZ.size _) ?_;clear hK K';try simp only [pQ,pN,pZ,pS])
        obtain ⟨y3,be⟩:=zzN (y2.alloc (.cells #[.slice none 0 0,.slice none 0 0] 33))
        obtain ⟨gX,ff⟩:=zzN (y2.heap.size)
        rw [be,ff]
        have eV:Below wr.heap.size wr y3:=by rw [<- be];exact dZ.alloc dZ.size _
        obtain ⟨Ah,cV⟩:=zzN (zS fT gX 1)
        have CP:Hid (zE y3 (v.take n++[(m,zz)]) (.slice r1 (n+1) e1) (.slice r2 (n+1) e2)):=by rw [<- be];exact CP.out.below ((bh _ _).alloc (bw _) _)
        have EX:Hid (y3.heap[gX]? = some (.cells #[.slice none 0 0,.slice none 0 0] 33 (0,0))/\Ah gX=1/\wr.heap.size<=gX):=by rw [<- be,<- cV,<- ff];exact ⟨zR _ _,by unfold zS;rw [if_pos rfl],dZ.size⟩
        clear be ff cV
        (refine on 10 ?_;intro o ho K' hK;simp at ho;subst ho)
        obtain ⟨CU,iJ⟩:∃ u,y3.cell? ⟨gX,0,none⟩=some u:=⟨_,by simp [World.cell?,EX.out.1];rfl⟩
        have iK:y3.frozen? ⟨gX,0,none⟩=false:=by simp [World.frozen?,EX.out.1]
        obtain ⟨CQ,iQ⟩:∃ u,y3.cell? ⟨gX,1,none⟩=some u:=⟨_,by simp [World.cell?,EX.out.1];rfl⟩
        have iZ:y3.frozen? ⟨gX,1,none⟩=false:=by simp [World.frozen?,EX.out.1]
        go_simp
        (refine hK.out _ _ (fun _=>((eV.setCell (p:=⟨gX,0,none⟩) EX.out.2.2 _).setCell (p:=⟨gX,1,none⟩) EX.out.2.2 _)) ?_;clear hK K';try simp only [pQ,pN,pZ,pS])
        obtain ⟨y4,be⟩:=zzN (((y3.setCell ⟨gX,0,none⟩ (.slice r1 (n+1) e1)).setCell ⟨gX,1,none⟩ (.slice r2 (n+1) e2)))
        rw [be]
        have nV:Below wr.heap.size wr y4:=by rw [<- be];exact ((eV.setCell (p:=⟨gX,0,none⟩) EX.out.2.2 _).setCell (p:=⟨gX,1,none⟩) EX.out.2.2 _)
        have cR:But (fun i=>i=gX) y3 y4:=by rw [<- be];exact (((But.refl (fun i=>i=gX) y3).setCell (p:=⟨gX,0,none⟩) (.inl rfl) _).setCell (p:=⟨gX,1,none⟩) (.inl rfl) _)
        have cV:∀ g,g=gX->Ah g=1:=fun g e=>by rw [e];exact EX.out.2.1
        have CP:Hid (zE y4 (v.take n++[(m,zz)]) (.slice r1 (n+1) e1) (.slice r2 (n+1) e2)):=CP.out.but cR (CP.out.notBox EX.out.1 (by decide) (by decide))
        have EX:Hid (y4.heap[gX]? = some (.cells #[.slice r1 (n+1) e1,.slice r2 (n+1) e2] 33 (0,0))/\Ah gX=1/\wr.heap.size<=gX):=⟨by rw [<- be];exact (zQ (zQ EX.out.1)),EX.out.2⟩
        clear be cR cV iJ iK iQ iZ
        (refine on 11 ?_;intro o ho K' hK;simp at ho;subst ho;go_simp)
        (refine hK.out _ _ (fun _=>nV) ?_;clear hK K';try simp only [pQ,pN,pZ,pS])
        refine zU (by kernel_rfl) (NoPanic.normal ?_) _
        exact ⟨rfl,⟨r1,e1,r2,e2,gX⟩,by rfl,nV,EX.out.1,CP.out⟩
       ·(intro o9 ho K' hK;simp at ho;subst ho)
        go_simp
        (refine hK.out _ _ (fun _=>cC.alloc cC.size _) ?_;clear hK K';try simp only [pQ,pN,pZ,pS])
        obtain ⟨y6,be⟩:=zzN (y1.alloc (.cells #[.slice none 0 0,.slice none 0 0] 33))
        obtain ⟨gX,ff⟩:=zzN (y1.heap.size)
        rw [be,ff]
        have dW:Below wr.heap.size wr y6:=by rw [<- be];exact cC.alloc cC.size _
        obtain ⟨ip,cV⟩:=zzN (zS fT gX 1)
        have EX:Hid (y6.heap[gX]? = some (.cells #[.slice none 0 0,.slice none 0 0] 33 (0,0))/\ip gX=1/\wr.heap.size<=gX):=by rw [<- be,<- cV,<- ff];exact ⟨zR _ _,by unfold zS;rw [if_pos rfl],cC.size⟩
        clear be ff cV
        (refine on 5 ?_;intro o ho K' hK;simp at ho;subst ho;go_simp)
        go_at_call 51
        (with_reducible refine (CRS.out _ dW).mono ?_)
        rintro en y7 ⟨r1,e1,r2,e2,rfl,hb,hp⟩
        have CP:Hid (zE y7 (v.take n++[(m,zz)]) (.slice r1 (n+1) e1) (.slice r2 (n+1) e2)):=hp
        clear hp
        have dh:Below wr.heap.size wr y7:=zzT dW hb
        have EX:Hid (y7.heap[gX]? = some (.cells #[.slice none 0 0,.slice none 0 0] 33 (0,0))/\ip gX=1/\wr.heap.size<=gX):=⟨(hb.block _ (zZ EX.out.1)).trans EX.out.1,EX.out.2⟩
        have hby7:=bz hb;clear hb
        (refine hK.out _ _ (fun _=>dh) ?_;clear hK K';try simp only [pQ,pN,pZ,pS])
        refine tk [6,7,8] dh ?_
        (intro d hd;simp [tkD] at hd;subst hd;simp only [tks,pQ,pZ,pS])
        iterate 3 (refine ⟨?_,?_,?_⟩;rotate_left;· (intro oi ho;simp at ho;subst ho;refine Or.inl ⟨by rfl,fun w' b_=>?_⟩;go_simp;try with_reducible rfl))
        (refine on 10 ?_;intro o ho K' hK;simp at ho;subst ho)
        obtain ⟨CU,iJ⟩:∃ u,y7.cell? ⟨gX,0,none⟩=some u:=⟨_,by simp [World.cell?,EX.out.1];rfl⟩
        have iK:y7.frozen? ⟨gX,0,none⟩=false:=by simp [World.frozen?,EX.out.1]
        obtain ⟨CQ,iQ⟩:∃ u,y7.cell? ⟨gX,1,none⟩=some u:=⟨_,by simp [World.cell?,EX.out.1];rfl⟩
        have iZ:y7.frozen? ⟨gX,1,none⟩=false:=by simp [World.frozen?,EX.out.1]
        go_simp
        (refine hK.out _ _ (fun _=>((dh.setCell (p:=⟨gX,0,none⟩) EX.out.2.2 _).setCell (p:=⟨gX,1,none⟩) EX.out.2.2 _)) ?_;clear hK K';try simp only [pQ,pN,pZ,pS])
        obtain ⟨y8,be⟩:=zzN (((y7.setCell ⟨gX,0,none⟩ (.slice r1 (n+1) e1)).setCell ⟨gX,1,none⟩ (.slice r2 (n+1) e2)))
        rw [be]
        have af:Below wr.heap.size wr y8:=by rw [<- be];exact ((dh.setCell (p:=⟨gX,0,none⟩) EX.out.2.2 _).setCell (p:=⟨gX,1,none⟩) EX.out.2.2 _)
        have cR:But (fun i=>i=gX) y7 y8:=by rw [<- be];exact (((But.refl (fun i=>i=gX) y7).setCell (p:=⟨gX,0,none⟩) (.inl rfl) _).setCell (p:=⟨gX,1,none⟩) (.inl rfl) _)
        have cV:∀ g,g=gX->ip g=1:=fun g e=>by rw [e];exact EX.out.2.1
        have CP:Hid (zE y8 (v.take n++[(m,zz)]) (.slice r1 (n+1) e1) (.slice r2 (n+1) e2)):=CP.out.but cR (CP.out.notBox EX.out.1 (by decide) (by decide))
        have EX:Hid (y8.heap[gX]? = some (.cells #[.slice r1 (n+1) e1,.slice r2 (n+1) e2] 33 (0,0))/\ip gX=1/\wr.heap.size<=gX):=⟨by rw [<- be];exact (zQ (zQ EX.out.1)),EX.out.2⟩
        clear be cR cV iJ iK iQ iZ
        (refine on 11 ?_;intro o ho K' hK;simp at ho;subst ho;go_simp)
        (refine hK.out _ _ (fun _=>af) ?_;clear hK K';try simp only [pQ,pN,pZ,pS])
        refine zU (by kernel_rfl) (NoPanic.normal ?_) _
        exact ⟨rfl,⟨r1,e1,r2,e2,gX⟩,by rfl,af,EX.out.1,CP.out⟩
      ·(intro o9 ho K' hK;simp at ho;subst ho)
       go_simp
       (refine hK.out _ _ (fun _=>cX.alloc cX.size _) ?_;clear hK K';try simp only [pQ,pN,pZ,pS])
       obtain ⟨CG,be⟩:=zzN (y0.alloc (.cells #[.slice none 0 0,.slice none 0 0] 33))
       obtain ⟨gX,ff⟩:=zzN (y0.heap.size)
       rw [be,ff]
       have nf:Below wr.heap.size wr CG:=by rw [<- be];exact cX.alloc cX.size _
       obtain ⟨fx,cV⟩:=zzN (zS fT gX 1)
       have EX:Hid (CG.heap[gX]? = some (.cells #[.slice none 0 0,.slice none 0 0] 33 (0,0))/\fx gX=1/\wr.heap.size<=gX):=by rw [<- be,<- cV,<- ff];exact ⟨zR _ _,by unfold zS;rw [if_pos rfl],cX.size⟩
       clear be ff cV
       (refine on 4 ?_;intro o ho K' hK;simp at ho;subst ho;go_simp)
       go_at_call 89
       (with_reducible refine (CCU.out _).mono ?_)
       rintro en Cz ⟨rfl,hb⟩
       have ej:Below wr.heap.size wr Cz:=zzT nf hb
       have EX:Hid (Cz.heap[gX]? = some (.cells #[.slice none 0 0,.slice none 0 0] 33 (0,0))/\fx gX=1/\wr.heap.size<=gX):=⟨(hb.block _ (zZ EX.out.1)).trans EX.out.1,EX.out.2⟩
       have ET:=bz hb;clear hb
       (refine hK.out _ _ (fun _=>ej) ?_;clear hK K';try simp only [pQ,pN,pZ,pS])
       (refine on 5 ?_;intro o ho K' hK;simp at ho;subst ho;go_simp)
       go_at_call 51
       (with_reducible refine (CRS.out _ ej).mono ?_)
       rintro en mM ⟨r1,e1,r2,e2,rfl,hb,hp⟩
       have CP:Hid (zE mM (v.take n++[(m,zz)]) (.slice r1 (n+1) e1) (.slice r2 (n+1) e2)):=hp
       clear hp
       have ez:Below wr.heap.size wr mM:=zzT ej hb
       have EX:Hid (mM.heap[gX]? = some (.cells #[.slice none 0 0,.slice none 0 0] 33 (0,0))/\fx gX=1/\wr.heap.size<=gX):=⟨(hb.block _ (zZ EX.out.1)).trans EX.out.1,EX.out.2⟩
       have ES:=bz hb;clear hb
       (refine hK.out _ _ (fun _=>ez) ?_;clear hK K';try simp only [pQ,pN,pZ,pS])
       refine tk [6,7,8] ez ?_
       (intro d hd;simp [tkD] at hd;subst hd;simp only [tks,pQ,pZ,pS])
       iterate 3 (refine ⟨?_,?_,?_⟩;rotate_left;· (intro oi ho;simp at ho;subst ho;refine Or.inl ⟨by rfl,fun w' b_=>?_⟩;go_simp;try with_reducible rfl))
       (refine on 10 ?_;intro o ho K' hK;simp at ho;subst ho)
       obtain ⟨CU,iJ⟩:∃ u,mM.cell? ⟨gX,0,none⟩=some u:=⟨_,by simp [World.cell?,EX.out.1];rfl⟩
       have iK:mM.frozen? ⟨gX,0,none⟩=false:=by simp [World.frozen?,EX.out.1]
       obtain ⟨CQ,iQ⟩:∃ u,mM.cell? ⟨gX,1,none⟩=some u:=⟨_,by simp [World.cell?,EX.out.1];rfl⟩
       have iZ:mM.frozen? ⟨gX,1,none⟩=false:=by simp [World.frozen?,EX.out.1]
       go_simp
       (refine hK.out _ _ (fun _=>((ez.setCell (p:=⟨gX,0,none⟩) EX.out.2.2 _).setCell (p:=⟨gX,1,none⟩) EX.out.2.2 _)) ?_;clear hK K';try simp only [pQ,pN,pZ,pS])
       obtain ⟨oQ,be⟩:=zzN (((mM.setCell ⟨gX,0,none⟩ (.slice r1 (n+1) e1)).setCell ⟨gX,1,none⟩ (.slice r2 (n+1) e2)))
       rw [be]
       have nd:Below wr.heap.size wr oQ:=by rw [<- be];exact ((ez.setCell (p:=⟨gX,0,none⟩) EX.out.2.2 _).setCell (p:=⟨gX,1,none⟩) EX.out.2.2 _)
       have cR:But (fun i=>i=gX) mM oQ:=by rw [<- be];exact (((But.refl (fun i=>i=gX) mM).setCell (p:=⟨gX,0,none⟩) (.inl rfl) _).setCell (p:=⟨gX,1,none⟩) (.inl rfl) _)
       have cV:∀ g,g=gX->fx g=1:=fun g e=>by rw [e];exact EX.out.2.1
       have CP:Hid (zE oQ (v.take n++[(m,zz)]) (.slice r1 (n+1) e1) (.slice r2 (n+1) e2)):=CP.out.but cR (CP.out.notBox EX.out.1 (by decide) (by decide))
       have EX:Hid (oQ.heap[gX]? = some (.cells #[.slice r1 (n+1) e1,.slice r2 (n+1) e2] 33 (0,0))/\fx gX=1/\wr.heap.size<=gX):=⟨by rw [<- be];exact (zQ (zQ EX.out.1)),EX.out.2⟩
       clear be cR cV iJ iK iQ iZ
       (refine on 11 ?_;intro o ho K' hK;simp at ho;subst ho;go_simp)
       (refine hK.out _ _ (fun _=>nd) ?_;clear hK K';try simp only [pQ,pN,pZ,pS])
       refine zU (by kernel_rfl) (NoPanic.normal ?_) _
       exact ⟨rfl,⟨r1,e1,r2,e2,gX⟩,by rfl,nd,EX.out.1,CP.out⟩
     rintro ⟨r1,e1,r2,e2,gX⟩ W7 ⟨dc,hX7,Bi⟩
     dsimp only at hX7 Bi
     simp only [pQ,pN,pZ,pS]
     obtain ⟨hm7,oM⟩:=Bi.mv (F:=fun _=>True) (fun _ _=>trivial)
     have lN:(v.take n++[(m,zz)])[n]? = some (m,zz):=by rw [List.getElem?_append_right (by rw [F1.out];exact bw _),F1.out];simp
     obtain ⟨_,_,u1,mz⟩:=hm7.cells
     obtain ⟨_,_,u2,fQ⟩:=oM.cells
     simp only [Value.slice.injEq] at u1 u2
     obtain ⟨rfl,q8,rfl⟩:=u1
     obtain ⟨rfl,q9,rfl⟩:=u2
     clear q8 q9
     obtain ⟨rb,ro,rfl,_,_,hrm⟩:=mz n _ lN
     obtain ⟨rb2,ro2,rfl,_,_,hrp⟩:=fQ n _ lN
     have tE:=zzT HB.out.2 dc
     have eK:=bz (fun (y:World) (hy:Below W7.heap.size W7 y)=>(show (y.cell? ⟨gX,0,none⟩=some (.slice (some ⟨rb,ro,none⟩) (n+1) e1)/\y.cell? ⟨gX,1,none⟩=some (.slice (some ⟨rb2,ro2,none⟩) (n+1) e2))/\y.cell? ⟨rb,ro+n,none⟩=some (str m)/\y.cell? ⟨rb2,ro2+n,none⟩=some (.int .i64 zz)/\_ from by
      have hk:∀ (a:Addr) (u:Value),W7.cell? a=some u->y.cell? a=some u:=fun a u h=>(hy.cell (bp _ _ h)).trans h
      obtain ⟨i0,i1,_,_⟩:=zJ hX7
      exact ⟨⟨hk _ _ i0,hk _ _ i1⟩,hk _ _ hrm,hk _ _ hrp,KEY.out y (zzT dc hy)⟩))
     have F6:=bz (bj (zzT HB.out.1 dc) tE)
     have hn1I:(n:Int)<(n:Int)+1:=by omega
     clear dc hX7 Bi hm7 oM lN mz fQ hrm hrp tE KEY
     by_cases hm:m=M
     ·have tr:(m == M)=true:=by simp [hm]
      have AJ:(m != M)=false:=by simp [hm]
      obtain ⟨cn,fE⟩:∃ cn,(zz != z)=cn:=⟨_,rfl⟩
      have HC:=bz (bj hm fE)
      clear hm
      go_upto_region 5 with (fail)
      refine wp_region_noPanic ?_
      refine zW (fun w'=>Below W7.heap.size W7 w') (fun _=>false) (by kernel_rfl) ?_
      have cZ:(fun w'=>Below W7.heap.size W7 w') W7.drew:=Below.drew (bh _ _)
      refine tk [0,1,2,3,4,5,6] cZ ?_
      (intro d hd;simp [tkD] at hd;subst hd;simp only [tks,pQ,pZ,pS])
      iterate 7 (refine ⟨?_,?_,?_⟩;rotate_left;· (intro oi ho;simp at ho;subst ho;refine Or.inl ⟨by rfl,fun w' b_=>?_⟩;have e0:=(eK.out w' b_).1.1;go_simp;try with_reducible rfl))
      refine tk [7,8] cZ ?_
      (intro d hd;simp [tkD] at hd;subst hd;simp only [tks,pQ,pZ,pS])
      iterate 2 (refine ⟨?_,?_,?_⟩;rotate_left;· (intro oi ho;simp at ho;subst ho;refine Or.inl ⟨by rfl,fun w' b_=>?_⟩;have e0:=(eK.out w' b_).2.1;go_simp;try with_reducible rfl))
      refine tk [9,10,11] cZ ?_
      (intro d hd;simp [tkD] at hd;subst hd;simp only [tks,pQ,pZ,pS])
      iterate 3 (refine ⟨?_,?_,?_⟩;rotate_left;· (intro oi ho;simp at ho;subst ho;refine Or.inl ⟨by rfl,fun w' b_=>?_⟩;have e0:=(eK.out w' b_).2.2.2.1.1;go_simp;try with_reducible rfl))
      refine tk [12,13,14,15,16] cZ ?_
      (intro d hd;simp [tkD] at hd;subst hd;simp only [tks,pQ,pZ,pS])
      iterate 5 (refine ⟨?_,?_,?_⟩;rotate_left;· (intro oi ho;simp at ho;subst ho;refine Or.inl ⟨by rfl,fun w' b_=>?_⟩;have e0:=(eK.out w' b_).2.2.2.2.1;go_simp;try with_reducible rfl))
      refine tk [17,18,19] cZ ?_
      (intro d hd;simp [tkD] at hd;subst hd;simp only [tks,pQ,pZ,pS])
      iterate 3 (refine ⟨?_,?_,?_⟩;rotate_left;· (intro oi ho;simp at ho;subst ho;refine Or.inl ⟨by rfl,fun w' b_=>?_⟩;have e0:=(eK.out w' b_).1.2;go_simp;try with_reducible rfl))
      refine tk [20,21] cZ ?_
      (intro d hd;simp [tkD] at hd;subst hd;simp only [tks,pQ,pZ,pS])
      iterate 2 (refine ⟨?_,?_,?_⟩;rotate_left;· (intro oi ho;simp at ho;subst ho;refine Or.inl ⟨by rfl,fun w' b_=>?_⟩;have e0:=(eK.out w' b_).2.2.1;go_simp;try with_reducible rfl))
      refine tk [22,23,24] cZ ?_
      (intro d hd;simp [tkD] at hd;subst hd;simp only [tks,pQ,pZ,pS])
      iterate 3 (refine ⟨?_,?_,?_⟩;rotate_left;· (intro oi ho;simp at ho;subst ho;refine Or.inl ⟨by rfl,fun w' b_=>?_⟩;have e0:=(eK.out w' b_).2.2.2.1.2;go_simp;try with_reducible rfl))
      refine tk [25,26,27] cZ ?_
      (intro d hd;simp [tkD] at hd;subst hd;simp only [tks,pQ,pZ,pS])
      iterate 3 (refine ⟨?_,?_,?_⟩;rotate_left;· (intro oi ho;simp at ho;subst ho;refine Or.inl ⟨by rfl,fun w' b_=>?_⟩;have e0:=(eK.out w' b_).2.2.2.2.2.1;go_simp;try with_reducible rfl))
      refine zU (by kernel_rfl) (NoPanic.normal ?_) _
      clear cZ eK
      cases cn with
      | false =>
        have hz:zz=z:=by have h:=HC.out.2;simpa using h
        have E:=bz (show zj t b v (n+2) from fun i hi h=>by
         have h1:=HF.out.2.1;have h2:=HF.out.2.2.1
         rcases Nat.lt_or_ge i n with h3 | h3
         ·exact HF.out.1 i h3 h
         ·obtain rfl:i=n:=by omega
          rw [HF.out.2.2.2.2.2.2,HO.out,HF.out.2.2.2.2.2.1,HC.out.1,HMM.out,hz])
        have HE:=bz (show (n+1) % 2=0/\n+1<=v.length+1 by
         have h1:=HF.out.2.1;have h2:=HF.out.2.2.1;have h3:=HF.out.2.2.2.2.1;omega)
        clear hz fE
        go_wp2_with fail
        go_roundw
        case rel=>exact ⟨_,n+1,n+2,rfl,rfl,HE.out.1,HE.out.2,rfl,E.out,F6.out.1.drew⟩
        case measure=>simp [intOf];omega
      | true =>
        have E:=bz (show decide (zj t b v v.length)=false by
         rw [decide_eq_false_iff_not]
         intro h
         have h1:=HF.out.2.1;have h2:=HF.out.2.2.1
         have h3:=h n HF.out.2.2.2.2.1 (by omega)
         rw [HF.out.2.2.2.2.2.2,HO.out,HF.out.2.2.2.2.2.1] at h3
         have h4:=HC.out.2
         simp only [Option.some.injEq,Prod.mk.injEq] at h3
         simp [h3.2] at h4)
        clear fE
        go_wp2_with fail
        go_ret
        exact ⟨by rw [E.out];rfl,F6.out.2.drew⟩
     ·have tr:(m == M)=false:=by simp [hm]
      have AJ:(m != M)=true:=by simp [hm]
      have E:=bz (show decide (zj t b v v.length)=false by
       rw [decide_eq_false_iff_not]
       intro h
       have h1:=HF.out.2.1;have h2:=HF.out.2.2.1
       have h3:=h n HF.out.2.2.2.2.1 (by omega)
       rw [HF.out.2.2.2.2.2.2,HO.out,HF.out.2.2.2.2.2.1] at h3
       simp only [Option.some.injEq,Prod.mk.injEq] at h3
       exact hm (h3.1.trans HMM.out.symm))
      clear hm
      go_upto_region 5 with (fail)
      refine wp_region_noPanic ?_
      refine zW (fun w'=>Below W7.heap.size W7 w') (fun _=>false) (by kernel_rfl) ?_
      have cZ:(fun w'=>Below W7.heap.size W7 w') W7.drew:=Below.drew (bh _ _)
      refine tk [0,1,2,3,4,5,6] cZ ?_
      (intro d hd;simp [tkD] at hd;subst hd;simp only [tks,pQ,pZ,pS])
      iterate 7 (refine ⟨?_,?_,?_⟩;rotate_left;· (intro oi ho;simp at ho;subst ho;refine Or.inl ⟨by rfl,fun w' b_=>?_⟩;have e0:=(eK.out w' b_).1.1;go_simp;try with_reducible rfl))
      refine tk [7,8] cZ ?_
      (intro d hd;simp [tkD] at hd;subst hd;simp only [tks,pQ,pZ,pS])
      iterate 2 (refine ⟨?_,?_,?_⟩;rotate_left;· (intro oi ho;simp at ho;subst ho;refine Or.inl ⟨by rfl,fun w' b_=>?_⟩;have e0:=(eK.out w' b_).2.1;go_simp;try with_reducible rfl))
      refine tk [9,10,11] cZ ?_
      (intro d hd;simp [tkD] at hd;subst hd;simp only [tks,pQ,pZ,pS])
      iterate 3 (refine ⟨?_,?_,?_⟩;rotate_left;· (intro oi ho;simp at ho;subst ho;refine Or.inl ⟨by rfl,fun w' b_=>?_⟩;have e0:=(eK.out w' b_).2.2.2.1.1;go_simp;try with_reducible rfl))
      refine tk [12,13,14,15,16,17,18,19,20,21,22,23,24,25,26,27] cZ ?_
      (intro d hd;simp [tkD] at hd;subst hd;simp only [tks,pQ,pZ,pS])
      iterate 16 (refine ⟨?_,?_,?_⟩;rotate_left;· (intro oi ho;simp at ho;subst ho;first | (refine Or.inr ⟨by rfl,?_⟩;with_reducible rfl) | (refine Or.inl ⟨by rfl,fun w' b_=>?_⟩;have e0:=(eK.out w' b_).2.2.2.2.1;go_simp;try with_reducible rfl)))
      refine zU (by kernel_rfl) (NoPanic.normal ?_) _
      clear cZ eK
      go_wp2_with fail
      go_ret
      exact ⟨by rw [E.out];rfl,F6.out.2.drew⟩
  ·have dU:¬ (n:Int)<(v.length:Int):=by omega
   have E:=bz (show decide (zj t b v v.length)=true from decide_eq_true fun i hi h=>dF i (by omega) h)
   clear dF hnk
   go_wp2_with fail
   go_ret
   exact ⟨by rw [E.out];rfl,HB.out.2⟩

def PlQ (o:Option Pl) (w:World) (en:Ending) (w':World):Prop :=
 ∃ a1 c1 a2 c2,en=.returned (.tuple #[.agg #[.slice a1 (o.getD []).length c1,.slice a2 (o.getD []).length c2],.bool o.isSome])/\Below w.heap.size w w'/\zE w' (o.getD []) (.slice a1 (o.getD []).length c1) (.slice a2 (o.getD []).length c2) /\
   ∀ g,(Value.slice a1 (o.getD []).length c1).ownBlock=some g\/(Value.slice a2 (o.getD []).length c2).ownBlock=some g->w.heap.size<=g
theorem PlQ.none {w w':World} (hb:Below w.heap.size w w'):PlQ none w (.returned (.tuple #[.agg #[.slice .none 0 0,.slice .none 0 0],.bool false])) w' :=
 ⟨_,_,_,_,rfl,hb,gp _,fun g h=>by simp [Value.ownBlock] at h⟩
theorem told_ne {s:St} {x:Bs×Int} (h:qM s=some x):∃ c p,x.1=c::p:=by
 unfold qM at h
 split at h
 ·split at h
  ·simp at h
  ·obtain rfl:=Option.some.inj h;exact ⟨_,_,rfl⟩
 ·rw [Option.map_eq_some_iff] at h
  obtain ⟨pl,_,rfl⟩:=h
  exact ⟨_,_,rfl⟩
set_option maxRecDepth 100000 in
theorem reply_any (F:Nat->Prop) (t:Ty) (b:Bd) (v:Pl) (k:Nat) (kv bv mv pt:Value) (w:World) (hg:jD w) (hk:Rep F w (jA t) kv) (hb:Rep F w (qa b) bv) (hm:vK F t v mv pt w)
 (cJ:zP t<=15) (hf:kE t.args b) (hw:wfB b) (cS:v.length=k+1) (fH:k % 2=0) (dF:zj t b v k) :
 Calls Tryz.prog 33 #[kv,bv,.agg #[mv,pt]] w (PlQ (qR t b v) w):=by
 have dE:=za hm.ok
 obtain ⟨s,hand,dz,cd⟩:=jq cJ hf hw hm.ok k (by omega) fH dF
 obtain ⟨ba,rfl⟩:=qk hb
 obtain ⟨kb,ks,rfl,_⟩:=zf hk
 obtain ⟨ma,mc,rfl,_⟩:=hm.m.cells
 obtain ⟨pa,pc,rfl,_⟩:=hm.p.cells
 obtain ⟨W,hW,b9,hz,b0,b1⟩:=kD w (.cells #[.slice ma v.length mc,.slice pa v.length pc] 33) (.cells #[.slice none 0 0,.slice none 0 0] 33)
 obtain ⟨c0,c1,_,_⟩:=zJ b0
 have CS:=bz (pG F t b v k v.length cS s (.pointer (some ⟨kb,0,none⟩)) (.pointer (some ⟨ba,0,none⟩)) (.slice ma v.length mc) (.slice pa v.length pc) W (hg.below b9) (hk.below b9 fun _ h=>h) (hb.below b9 fun _ h=>h) (hm.below b9) cJ hf hw (by omega) fH dF dz)
 have CT:=bz (fun (y:World) (xv lv:Value) (hr:ub (fun _=>True) y s xv lv)=>tells_any (fun _=>True) xv lv y cd cJ (by omega) hr)
 have CW:=bz (fun (y:World) (hy:Below W.heap.size W y) (m:Bs) (z:Int)=>with_any v (.slice ma v.length mc) (.slice pa v.length pc) m z y (qC.src ((hm.below b9).below hy).m) (qB.src ((hm.below b9).below hy).p) (by omega))
 have HR:Hid (z_ t b v v.length=qM s):=bz (by unfold z_;rw [cS,dz];rfl)
 have HW:=bz (bj hW (bj b9 (bj b1 hz)))
 clear hm hW b9 hz b0 b1 hg hk hb cJ hf hw dz cd dF fH cS
 by_cases he:v.length=60
 ·have E:=bz (show qR t b v=none by unfold qR;rw [if_pos he])
  rw [he] at HW c0 c1
  rw [he]
  obtain ⟨z0,z1,f0,f1⟩:=zJ HW.out.2.2.1
  clear CS CT CW HR he dE
  go_enter Tryz.func33,Tryz.ntmps33
  go_upto_region 1 with (fail)
  rw [HW.out.1]
  go_wp2_with fail
  have hV:=kR HW.out.2.2.1 (.slice none 0 0) (.slice none 0 0)
  obtain ⟨s0,s1,_,_⟩:=zJ hV
  refine bodyPost_ret (v:=.tuple #[.agg #[.slice none 0 0,.slice none 0 0],.bool false]) (by simp [results,Tryz.results33,go_sem,s0,s1]) rfl ?_
  rw [E.out]
  exact PlQ.none ((HW.out.2.1.setCell (p:=⟨w.heap.size+1,0,none⟩) (Nat.le_add_right _ _) _).setCell (p:=⟨w.heap.size+1,1,none⟩) (Nat.le_add_right _ _) _)
 ·have heI:¬ (v.length:Int)=60:=by omega
  have heB:((v.length:Int) == 60)=false:=by simpa using heI
  have E:=bz (show qR t b v=(qM s).map fun x=>v++[x] by unfold qR;rw [if_neg he,HR.out])
  clear HR he
  go_enter Tryz.func33,Tryz.ntmps33
  go_upto_region 1 with (fail)
  rw [HW.out.1]
  go_wp2_with fail
  (with_reducible refine CS.out.mono ?_)
  rintro en w1 ⟨xv,lv,rfl,bi,dj⟩
  have d0:=(bi.cell (bp _ _ c0)).trans c0
  have d1:=(bi.cell (bp _ _ c1)).trans c1
  have co:=bz bi
  have sn:=CT.out w1 xv lv dj
  clear CS CT bi dj c0 c1
  cases ho:qM s with
  | none =>
    rw [ho] at E
    have et:vS s=([],-1):=by unfold vS;rw [ho];rfl
    rw [et] at sn
    have sn:=bz sn
    clear CW ho et
    go_wp2_with fail
    (with_reducible refine sn.out.mono ?_)
    rintro en w2 ⟨rfl,cK⟩
    have cT:=zzT co.out cK
    have b3:=(cT.block _ (zZ HW.out.2.2.1)).trans HW.out.2.2.1
    obtain ⟨z0,z1,f0,f1⟩:=zJ b3
    have cj:=bz (bj b3 (zzT HW.out.2.1 cT))
    clear cK cT b3 d0 d1 sn
    go_wp2_with fail
    have hV:=kR cj.out.1 (.slice none 0 0) (.slice none 0 0)
    obtain ⟨s0,s1,_,_⟩:=zJ hV
    refine bodyPost_ret (v:=.tuple #[.agg #[.slice none 0 0,.slice none 0 0],.bool false]) (by simp [results,Tryz.results33,go_sem,s0,s1]) rfl ?_
    rw [E.out]
    exact PlQ.none ((cj.out.2.setCell (p:=⟨w.heap.size+1,0,none⟩) (Nat.le_add_right _ _) _).setCell (p:=⟨w.heap.size+1,1,none⟩) (Nat.le_add_right _ _) _)
  | some x =>
    rw [ho] at E
    obtain ⟨c,p,fm⟩:=told_ne ho
    obtain ⟨m,z⟩:=x
    simp only at fm
    have et:vS s=(m,z):=by unfold vS;rw [ho];rfl
    rw [et] at sn
    have sn:=bz sn
    have mn:(m == ([]:Bs))=false:=by rw [fm];rfl
    have Ca:¬ m=[]:=by rw [fm];simp
    clear ho et fm
    go_wp2_with fail
    (with_reducible refine sn.out.mono ?_)
    rintro en w2 ⟨rfl,cK⟩
    have cT:=zzT co.out cK
    have b3:=(cT.block _ (zZ HW.out.2.2.1)).trans HW.out.2.2.1
    have e0:=(cK.cell (bp _ _ d0)).trans d0
    have e1:=(cK.cell (bp _ _ d1)).trans d1
    have si:=bz (CW.out w2 cT m z)
    have cj:=bz (bj b3 (zzT HW.out.2.1 cT))
    clear cK cT b3 d0 d1 sn CW
    go_wp2_with fail
    (with_reducible refine si.out.mono ?_)
    rintro en w3 ⟨mvn,ptn,rfl,c_,cH,fD⟩
    obtain ⟨a8,c8,e8⟩:=c_.1.slice
    obtain ⟨a9,c9,e9⟩:=c_.2.slice
    subst e8;subst e9
    have b3:=(cH.block _ (zZ cj.out.1)).trans cj.out.1
    obtain ⟨z0,z1,f0,f1⟩:=zJ b3
    have dY:=bz (bj b3 (bj (zzT cj.out.2 cH) (bj c_ (bj fD (show w.heap.size+1<w2.heap.size from zZ cj.out.1)))))
    clear cH b3 c_ fD si e0 e1
    generalize hL:(v++[(m,z)]).length=L at *
    go_wp2_with fail
    have hV:=kR dY.out.1 (.slice a8 L c8) (.slice a9 L c9)
    obtain ⟨nD,nC,_,_⟩:=zJ hV
    have cf:∀ g,g≠w.heap.size+1->((w3.setCell ⟨w.heap.size+1,0,none⟩ (.slice a8 L c8)).setCell ⟨w.heap.size+1,1,none⟩ (.slice a9 L c9)).heap[g]? = w3.heap[g]?:=fun g hg=>by
     rw [bf _ _ _ _ (by show g≠w.heap.size+1;exact hg),bf _ _ _ _ (by show g≠w.heap.size+1;exact hg)]
    refine bodyPost_ret (v:=.tuple #[.agg #[.slice a8 L c8,.slice a9 L c9],.bool true]) (by simp [results,Tryz.results33,go_sem,nD,nC]) rfl ?_
    rw [E.out]
    have cQ:=dY.out.2.2.2.2
    refine ⟨a8,c8,a9,c9,by rw [Option.map_some,Option.getD_some,hL];rfl,(dY.out.2.1.setCell (p:=⟨w.heap.size+1,0,none⟩) (Nat.le_add_right _ _) _).setCell (p:=⟨w.heap.size+1,1,none⟩) (Nat.le_add_right _ _) _,?_,fun g hg=>?_⟩
    ·rw [Option.map_some,Option.getD_some,hL]
     refine ⟨dY.out.2.2.1.1.keep fun g o hg ho=>?_,dY.out.2.2.1.2.keep fun g o hg ho=>?_⟩
     ·have:=dY.out.2.2.2.1 g (.inl hg)
      rw [cf g (by omega)];exact ho
     ·have:=dY.out.2.2.2.1 g (.inr hg)
      rw [cf g (by omega)];exact ho
    ·rw [Option.map_some,Option.getD_some,hL] at hg
     have:=dY.out.2.2.2.1 g hg;omega
def qT (t:Ty) (b:Bd) (v:Pl) (lg:Bool) (n:Nat):Option Pl:=if (lg && decide (n % 2=1) && decide (zj t b v v.length))=true then qR t b v else none
def kY (s text:Bs) (ms:List Bs) (ps:List Int):Option Pl:=match zN s text with
 | none=>none
 | some b=>qT (zV s).1 b (ms.zip ps) (ke s ms ps) ms.length
theorem replyOk_none {s text:Bs} (h:xh s text=none) (ms:List Bs) (ps:List Int):kY s text ms ps=none:=by
 rw [p_,Option.map_eq_none_iff] at h
 unfold kY;rw [h]
theorem replyOk_some {s text:Bs} {t:Ty} {b:Bd} (h:xh s text=some (t,b)) (ms:List Bs) (ps:List Int):kY s text ms ps=qT t b (ms.zip ps) (ke s ms ps) ms.length/\t=(zV s).1/\Good t b:=by
 rw [p_,Option.map_eq_some_iff] at h
 obtain ⟨b',h,e⟩:=h
 simp at e;obtain ⟨rfl,rfl⟩:=e
 refine ⟨?_,rfl,(qL h).1⟩
 unfold kY;rw [h]
theorem gz (t:Ty) (b:Bd) (v:Pl) (n:Nat):qT t b v false n=none:=by unfold qT;simp
theorem xp (t:Ty) (b:Bd) (v:Pl) (lg:Bool) {n:Nat} (h:n % 2=0):qT t b v lg n=none:=by unfold qT;rw [decide_eq_false (show ¬ n % 2=1 by omega)];simp
theorem pB (t:Ty) (b:Bd) (v:Pl) (lg:Bool) (n:Nat) (h:decide (zj t b v v.length)=false):qT t b v lg n=none:=by unfold qT;rw [h];simp
theorem pH (t:Ty) (b:Bd) (v:Pl) {n:Nat} (hn:n % 2=1) (h:decide (zj t b v v.length)=true):qT t b v true n=qR t b v:=by unfold qT;rw [h,decide_eq_true hn];rfl
theorem zip_len {s:Bs} {ms:List Bs} {ps:List Int} (h:kO s ms ps=true):(ms.zip ps).length=ms.length:=by
 obtain ⟨h1,_⟩:=jt h
 rw [List.length_zip];omega
set_option maxRecDepth 100000 in
theorem uo (F:Nat->Prop) (s text:Bs) (mv pt:Value) (ms:List Bs) (ps:List Int) (w:World) (hg:jD w) (hs:Lim s.length) (ht:Lim text.length) (hm:jp F w ms mv) (hp:jw F w ps pt) (hl:∀ x∈ms,Lim x.length) :
 Calls Tryz.prog 23 #[str s,str text,.agg #[mv,pt]] w (PlQ (kY s text ms ps) w):=by
 obtain ⟨ma,mc,rfl⟩:=hm.slice
 obtain ⟨pa,pc,rfl⟩:=hp.slice
 obtain ⟨W,hW,b9,hz,b0,b1⟩:=kD w (.cells #[.slice ma ms.length mc,.slice pa ps.length pc] 33) (.cells #[.slice none 0 0,.slice none 0 0] 33)
 have C:=bz (xz s text W (hg.below b9) hs ht)
 have CL:=bz (fun (y:World) (hy:Below W.heap.size W y)=>jf F s _ _ ms ps y hs ((hm.below b9 fun _ h=>h).below hy fun _ h=>h) ((hp.below b9 fun _ h=>h).below hy fun _ h=>h) hl)
 have HP:=bz (fun (y:World) (hy:Below W.heap.size W y) (h:kO s ms ps=true)=>(vk (hm.below b9 fun _ h=>h) (hp.below b9 fun _ h=>h) hl h).below hy)
 have HG:=bz (fun (y:World) (hy:Below W.heap.size W y)=>(hg.below b9).below hy)
 have HW:=bz (bj hW (bj b9 (bj b0 b1)))
 clear hW b9 hz b0 b1 hg hs ht hm hp hl
 go_enter Tryz.func23,Tryz.ntmps23
 go_upto_region 1 with (fail)
 rw [HW.out.1]
 go_wp2_with fail
 (with_reducible refine C.out.mono ?_)
 rintro en w1 ⟨kv,bv,rfl,bi,dX,dx⟩
 clear C
 obtain ⟨c0,c1,_,_⟩:=zJ HW.out.2.2.1
 have d0:=(bi.cell (bp _ _ c0)).trans c0
 have d1:=(bi.cell (bp _ _ c1)).trans c1
 have b3:=(bi.block _ (zZ HW.out.2.2.2)).trans HW.out.2.2.2
 obtain ⟨z0,z1,f0,f1⟩:=zJ b3
 clear c0 c1
 have HB:=bz (bj bi (bj (zzT HW.out.2.1 bi) b3))
 clear b3
 cases hq:xh s text with
 | none =>
   obtain rfl:=dX hq
   have E:=bz (replyOk_none hq ms ps)
   clear dX dx hq bi
   go_wp2_with fail
   have hV:=kR HB.out.2.2 (.slice none 0 0) (.slice none 0 0)
   obtain ⟨s0,s1,_,_⟩:=zJ hV
   refine bodyPost_ret (v:=.tuple #[.agg #[.slice none 0 0,.slice none 0 0],.bool false]) (by simp [results,Tryz.results23,go_sem,s0,s1]) rfl ?_
   rw [E.out]
   exact PlQ.none ((HB.out.2.1.setCell (p:=⟨w.heap.size+1,0,none⟩) (Nat.le_add_right _ _) _).setCell (p:=⟨w.heap.size+1,1,none⟩) (Nat.le_add_right _ _) _)
 | some tb =>
   obtain ⟨t,b⟩:=tb
   obtain ⟨rk,rb⟩:=dx t b hq
   obtain ⟨E,et,fC⟩:=replyOk_some hq ms ps
   obtain ⟨ka,ks,rfl,_⟩:=zf rk
   obtain ⟨ba,rfl⟩:=qk rb
   have E:=bz E
   have HR:=bz (bj rk (bj rb (bj et fC)))
   have C1:=bz (CL.out w1 bi)
   clear dX dx hq bi rk rb et fC CL
   cases ec:ke s ms ps with
   | false =>
     rw [ec] at C1
     have E:=bz (show kY s text ms ps=none by rw [E.out,ec,gz])
     clear ec z0 z1 f0 f1
     go_wp2_with fail
     (with_reducible refine C1.out.mono ?_)
     rintro en w2 ⟨rfl,cK⟩
     have b3:=(cK.block _ (zZ HB.out.2.2)).trans HB.out.2.2
     obtain ⟨z0,z1,f0,f1⟩:=zJ b3
     have cj:=bz (bj (zzT HB.out.2.1 cK) b3)
     clear cK d0 d1 b3
     go_wp2_with fail
     have hV:=kR cj.out.2 (.slice none 0 0) (.slice none 0 0)
     obtain ⟨s0,s1,_,_⟩:=zJ hV
     refine bodyPost_ret (v:=.tuple #[.agg #[.slice none 0 0,.slice none 0 0],.bool false]) (by simp [results,Tryz.results23,go_sem,s0,s1]) rfl ?_
     rw [E.out]
     exact PlQ.none ((cj.out.1.setCell (p:=⟨w.heap.size+1,0,none⟩) (Nat.le_add_right _ _) _).setCell (p:=⟨w.heap.size+1,1,none⟩) (Nat.le_add_right _ _) _)
   | true =>
     rw [ec] at C1
     have sm:=bz (vy ec)
     have E:=bz (show kY s text ms ps=qT t b (ms.zip ps) true ms.length by rw [E.out,ec])
     have oT:ms.length<=60:=by have h1:=zip_len sm.out;have h2:=za (jt sm.out).2.1;omega
     clear ec z0 z1 f0 f1
     go_wp2_with fail
     (with_reducible refine C1.out.mono ?_)
     rintro en w2 ⟨rfl,cK⟩
     have cT:=zzT HB.out.1 cK
     have e0:=(cK.cell (bp _ _ d0)).trans d0
     have e1:=(cK.cell (bp _ _ d1)).trans d1
     have b3:=(cK.block _ (zZ HB.out.2.2)).trans HB.out.2.2
     obtain ⟨z0,z1,f0,f1⟩:=zJ b3
     rcases Nat.mod_two_eq_zero_or_one ms.length with t5 | t5
     ·have B_:(ms.length:Int).tmod 2=0:=by rw [Int.tmod_eq_emod_of_nonneg (by omega)];omega
      have E:=bz (show kY s text ms ps=none by rw [E.out,xp t b _ _ t5])
      have cj:=bz (bj (zzT HB.out.2.1 cK) b3)
      clear cK d0 d1 cT b3 C1 HP HG t5
      go_wp2_with fail
      have hV:=kR cj.out.2 (.slice none 0 0) (.slice none 0 0)
      obtain ⟨s0,s1,_,_⟩:=zJ hV
      refine bodyPost_ret (v:=.tuple #[.agg #[.slice none 0 0,.slice none 0 0],.bool false]) (by simp [results,Tryz.results23,go_sem,s0,s1]) rfl ?_
      rw [E.out]
      exact PlQ.none ((cj.out.1.setCell (p:=⟨w.heap.size+1,0,none⟩) (Nat.le_add_right _ _) _).setCell (p:=⟨w.heap.size+1,1,none⟩) (Nat.le_add_right _ _) _)
     have B_:(ms.length:Int).tmod 2=1:=by rw [Int.tmod_eq_emod_of_nonneg (by omega)];omega
     have cG:=HP.out w2 cT sm.out
     rw [<- HR.out.2.2.1] at cG
     have C2:=bz (pT (fun _=>True) t b (ms.zip ps) (.pointer (some ⟨ka,0,none⟩)) (.pointer (some ⟨ba,0,none⟩)) _ _ w2 (HG.out w2 cT)
      ((Rep.below cK fun _ _=>trivial) HR.out.1) ((Rep.below cK fun _ _=>trivial) HR.out.2.1) ⟨(Rep.keep fun b o _ ho=>⟨trivial,ho⟩).1 _ _ cG.m,(Rep.keep fun b o _ ho=>⟨trivial,ho⟩).1 _ _ cG.p,cG.ok,cG.l⟩ HR.out.2.2.2.atoms HR.out.2.2.2.fit HR.out.2.2.2.wf)
     have sh:=bz cG
     have iU:=bz t5
     have cj:=bz (bj (zzT HB.out.2.1 cK) (bj b3 (bj cT cK)))
     obtain ⟨r,hr⟩:=zzN (decide (zj t b (ms.zip ps) (ms.zip ps).length))
     rw [hr] at C2
     clear cK d0 d1 cT cG C1 HP b3 t5
     cases r with
     | false =>
       have E:=bz (show kY s text ms ps=none by rw [E.out,pB t b _ _ _ hr])
       clear hr z0 z1 f0 f1
       go_wp2_with fail
       (with_reducible refine C2.out.mono ?_)
       rintro en w3 ⟨rfl,cH⟩
       have b3:=(cH.block _ (zZ cj.out.2.1)).trans cj.out.2.1
       obtain ⟨z0,z1,f0,f1⟩:=zJ b3
       have dY:=bz (bj (zzT cj.out.1 cH) b3)
       clear cH b3
       go_wp2_with fail
       have hV:=kR dY.out.2 (.slice none 0 0) (.slice none 0 0)
       obtain ⟨s0,s1,_,_⟩:=zJ hV
       refine bodyPost_ret (v:=.tuple #[.agg #[.slice none 0 0,.slice none 0 0],.bool false]) (by simp [results,Tryz.results23,go_sem,s0,s1]) rfl ?_
       rw [E.out]
       exact PlQ.none ((dY.out.1.setCell (p:=⟨w.heap.size+1,0,none⟩) (Nat.le_add_right _ _) _).setCell (p:=⟨w.heap.size+1,1,none⟩) (Nat.le_add_right _ _) _)
     | true =>
       have E:=bz (show kY s text ms ps=qR t b (ms.zip ps) by rw [E.out,pH t b _ iU.out hr])
       have HF:=bz (of_decide_eq_true hr)
       clear hr z0 z1 f0 f1
       go_wp2_with fail
       (with_reducible refine C2.out.mono ?_)
       rintro en w3 ⟨rfl,cH⟩
       have mB:=zzT cj.out.2.2.1 cH
       have g0:=(cH.cell (bp _ _ e0)).trans e0
       have g1:=(cH.cell (bp _ _ e1)).trans e1
       have b3:=(cH.block _ (zZ cj.out.2.1)).trans cj.out.2.1
       have cU:=zip_len sm.out
       have h13:=zzT cj.out.2.2.2 cH
       have C3:=bz (reply_any (fun _=>True) t b (ms.zip ps) (ms.length-1) (.pointer (some ⟨ka,0,none⟩)) (.pointer (some ⟨ba,0,none⟩)) _ _ w3 (HG.out w3 mB)
        ((Rep.below h13 fun _ _=>trivial) HR.out.1) ((Rep.below h13 fun _ _=>trivial) HR.out.2.1) (vK.below ⟨(Rep.keep fun b o _ ho=>⟨trivial,ho⟩).1 _ _ sh.out.m,(Rep.keep fun b o _ ho=>⟨trivial,ho⟩).1 _ _ sh.out.p,sh.out.ok,sh.out.l⟩ cH) HR.out.2.2.2.atoms HR.out.2.2.2.fit HR.out.2.2.2.wf
        (by have:=iU.out;omega) (by have:=iU.out;omega) (fun i hi ho=>HF.out i (by omega) ho))
       have dY:=bz (bj (zzT cj.out.1 cH) b3)
       obtain ⟨o,ho⟩:=zzN (qR t b (ms.zip ps))
       rw [ho] at C3 E
       clear cH b3 mB h13 cU ho C2 e0 e1
       go_wp2_with fail
       (with_reducible refine C3.out.mono ?_)
       rintro en w4 ⟨a8,c8,a9,c9,rfl,cm,c_,fD⟩
       have b3:=(cm.block _ (zZ dY.out.2)).trans dY.out.2
       obtain ⟨z0,z1,f0,f1⟩:=zJ b3
       have l7:=bz (bj b3 (bj (zzT dY.out.1 cm) (bj c_ (bj fD (show w.heap.size+1<w3.heap.size from zZ dY.out.2)))))
       obtain ⟨L,hL⟩:=zzN ((o.getD []).length)
       obtain ⟨q,hq⟩:=zzN (o.isSome)
       have HQ:=bz hq
       rw [hL] at l7 ⊢
       rw [hq]
       have HL:=bz hL
       clear cm b3 c_ fD C3 g0 g1 hL hq
       go_wp2_with fail
       have hV:=kR l7.out.1 (.slice a8 L c8) (.slice a9 L c9)
       obtain ⟨nD,nC,_,_⟩:=zJ hV
       have cf:∀ g,g≠w.heap.size+1->((w4.setCell ⟨w.heap.size+1,0,none⟩ (.slice a8 L c8)).setCell ⟨w.heap.size+1,1,none⟩ (.slice a9 L c9)).heap[g]? = w4.heap[g]?:=fun g hg=>by
        rw [bf _ _ _ _ (by show g≠w.heap.size+1;exact hg),bf _ _ _ _ (by show g≠w.heap.size+1;exact hg)]
       refine bodyPost_ret (v:=.tuple #[.agg #[.slice a8 L c8,.slice a9 L c9],.bool q]) (by simp [results,Tryz.results23,go_sem,nD,nC]) rfl ?_
       rw [E.out]
       have cQ:=l7.out.2.2.2.2
       refine ⟨a8,c8,a9,c9,by rw [HL.out,HQ.out],(l7.out.2.1.setCell (p:=⟨w.heap.size+1,0,none⟩) (Nat.le_add_right _ _) _).setCell (p:=⟨w.heap.size+1,1,none⟩) (Nat.le_add_right _ _) _,?_,fun g hg=>?_⟩
       ·rw [HL.out]
        refine ⟨l7.out.2.2.1.1.keep fun g o hg ho=>?_,l7.out.2.2.1.2.keep fun g o hg ho=>?_⟩
        ·have:=l7.out.2.2.2.1 g (.inl hg)
         rw [cf g (by omega)];exact ho
        ·have:=l7.out.2.2.2.1 g (.inr hg)
         rw [cf g (by omega)];exact ho
       ·rw [HL.out] at hg
        have:=l7.out.2.2.2.1 g hg
        have h5:=HW.out.2.1.size;have h6:=dY.out.1.size
        omega
def jG (t:Ty) (p:Bs) (k:Nat):List Bs:=[113::p,116::p,102::p]++kZ (t.args.take k) 0 p
theorem movesTo_zero (t:Ty) (p:Bs):jG t p 0=[113::p,116::p,102::p]:=by unfold jG;rw [List.take_zero,kZ];rfl
theorem movesTo_all (t:Ty) (p:Bs):jG t p t.args.length=kW t p:=by unfold jG;rw [List.take_length,movesT_eq]
theorem movesTo_next {t a:Ty} {k:Nat} (h:t.args[k]? = some a) (p:Bs):jG t p (k+1)=jG t p k++kW a (p++dec k):=by unfold jG;rw [movesTs_take h,List.append_assoc]
theorem movesTs_le (ts:List Ty) (k:Nat) (p:Bs):(kZ (ts.take k) 0 p).length<=(kZ ts 0 p).length:=by
 have h:=yP (ts.take k) 0 p
 induction k with
 | zero=>simp [kZ]
 | succ k ih =>
   rcases Nat.lt_or_ge k ts.length with hk | hk
   ·have key:∀ (us:List Ty) (i:Nat),(kZ us i p).length<=(kZ us i p).length:=fun _ _=>bw _
    have e:∀ (us vs:List Ty) (i:Nat),(kZ us i p).length<=(kZ (us++vs) i p).length:=by
     intro us
     induction us with
     | nil=>intro vs i;simp [kZ]
     | cons a us ih=>intro vs i;rw [List.cons_append,kZ,kZ,List.length_append,List.length_append];have:=ih vs (i+1);omega
    have:=e (ts.take (k+1)) (ts.drop (k+1)) 0
    rwa [List.take_append_drop] at this
   ·rw [List.take_of_length_le (by omega)];exact bw _
theorem movesTo_len {t:Ty} (cJ:zP t<=15) (p:Bs) (k:Nat):(jG t p k).length<=24:=by
 have h1:=movesTs_le t.args k p
 have h2:=xr cJ p
 rw [movesT_eq,List.length_append] at h2
 unfold jG
 rw [List.length_append];omega
structure NxR (B:Nat) (L:List Pl) (a:Option Addr) (n c:Nat) (us:List (Value×Value)) (wz:World):Prop where
 len:L.length=n
 pls:yz wz L (.slice a n c) us
 new:∀ g,PlB (.slice a n c) us g->B<=g
theorem NxR.below {B:Nat} {L:List Pl} {a:Option Addr} {n c:Nat} {us:List (Value×Value)} {w w':World} (h:NxR B L a n c us w) (hb:Below w.heap.size w w'):NxR B L a n c us w':=⟨h.len,jL.below h.pls hb,h.new⟩
theorem NxR.mono {B B':Nat} {L:List Pl} {a:Option Addr} {n c:Nat} {us:List (Value×Value)} {w:World} (h:NxR B L a n c us w) (hb:B'<=B):NxR B' L a n c us w:=⟨h.len,h.pls,fun g hg=>br hb (h.new g hg)⟩
theorem NxR.nil (B:Nat) (w:World):NxR B [] none 0 0 [] w:=⟨rfl,jL.nil w,fun g h=>by
 rcases h with h | ⟨u,hu,_⟩
 ·simp [Value.ownBlock] at h
 ·simp at hu⟩
def PlsQ (L:List Pl) (w:World) (en:Ending) (w':World):Prop :=
 ∃ a n c us,en=.returned (.slice a n c)/\Below w.heap.size w w'/\NxR w.heap.size L a n c us w'
theorem NxR.add {B:Nat} {L:List Pl} {a:Option Addr} {n c:Nat} {us:List (Value×Value)} {w W:World} {l:Pl} {mv pt:Value} (h:NxR B L a n c us w) (hB:Below w.heap.size w W) (hBB:B<=w.heap.size) (hl:zE W l mv pt) (hn:∀ g,mv.ownBlock=some g\/pt.ownBlock=some g->w.heap.size<=g)
 {a':Option Addr} {c':Nat} {w5:World} (AB:Own w5 33 2 (.slice a' (n+1) c') (n+1) (plC us++[mv,pt])) (cz:But (fun b=>(Value.slice a n c).ownBlock=some b) W w5) (Ep:∀ g,(Value.slice a' (n+1) c').ownBlock=some g->(Value.slice a n c).ownBlock=some g\/g=W.heap.size) :
 NxR B (L++[l]) a' (n+1) c' (us++[(mv,pt)]) w5:=by
 have fg:us.length=n:=by rw [h.pls.length,h.len]
 have h1:=pls_add (v':=.slice a' (n+1) c') h.pls hB hl hn (by rw [fg];exact AB) cz
 refine ⟨by rw [List.length_append,h.len];rfl,h1,fun g hg=>?_⟩
 rcases hg with hg | ⟨u,hu,hg⟩
 ·rcases Ep g hg with hg | hg
  ·exact h.new g (.inl hg)
  ·have:=hB.size;omega
 ·rcases List.mem_append.1 hu with hu | hu
  ·exact h.new g (.inr ⟨u,hu,hg⟩)
  ·rw [List.mem_singleton] at hu
   subst hu
   have:=hn g hg;omega
theorem NxR.own {B:Nat} {L:List Pl} {a:Option Addr} {n c:Nat} {us:List (Value×Value)} {w:World} (h:NxR B L a n c us w):Own w 33 2 (.slice a n c) n (plC us):=by
 have fg:us.length=n:=by rw [h.pls.length,h.len]
 have:=h.pls.own
 rwa [fg] at this
theorem xC {t:Ty} (cJ:zP t<=15) {m:Bs} (h:m∈kW t []):qm t m=true/\m.length<=8:=by
 have h1:=movesT_ok t t [] (jk t) cJ m h
 refine ⟨h1,?_⟩
 cases m with
 | nil=>simp
 | cons c p =>
   unfold qm at h1
   rw [Bool.and_eq_true] at h1
   obtain ⟨a,ha⟩:=Option.isSome_iff_exists.1 h1.2
   have:=qH _ _ _ ha
   have:=kt a
   rw [List.length_cons];omega
structure RdR (B:Nat) (L:List Pl) (a:Option Addr) (n c:Nat) (us:List (Value×Value)) (wz:World):Prop where
 len:L.length=n
 ul:us.length=n
 own:Own wz 33 2 (.slice a n c) n (plC us)
 each:∀ (i:Nat) (u:Value×Value) (l:Pl),us[i]? = some u->L[i]? = some l->zE wz l u.1 u.2
 new:∀ g,PlB (.slice a n c) us g->B<=g
theorem NxR.rd {B:Nat} {L:List Pl} {a:Option Addr} {n c:Nat} {us:List (Value×Value)} {w:World} (h:NxR B L a n c us w):RdR B L a n c us w :=
 ⟨h.len,by rw [h.pls.length,h.len],h.own,fun i u l hu hl=>h.pls.play hu hl,h.new⟩
theorem RdR.below {B:Nat} {L:List Pl} {a:Option Addr} {n c:Nat} {us:List (Value×Value)} {w w':World} (h:RdR B L a n c us w) (hb:Below w.heap.size w w'):RdR B L a n c us w' :=
 ⟨h.len,h.ul,h.own.keep fun g o _ ho=>by rw [hb.block g (zZ ho)];exact ho,fun i u l hu hl=>(h.each i u l hu hl).below hb,h.new⟩
theorem RdR.mono {B B':Nat} {L:List Pl} {a:Option Addr} {n c:Nat} {us:List (Value×Value)} {w:World} (h:RdR B L a n c us w) (hb:B'<=B):RdR B' L a n c us w:=⟨h.len,h.ul,h.own,h.each,fun g hg=>br hb (h.new g hg)⟩
theorem zE.offRow {w w':World} {l:Pl} {mv pt v:Value} {n:Nat} {xs:List Value} (h:zE w l mv pt) (ho:Own w 33 2 v n xs) (hb:But (fun b=>v.ownBlock=some b) w w'):zE w' l mv pt :=
 h.but hb fun g hg e=>hg.elim (fun hg=>h.1.unlikeG ho yQ hg e) fun hg=>h.2.unlikeG ho x_ hg e
theorem RdR.off {B:Nat} {L:List Pl} {a:Option Addr} {n c:Nat} {us:List (Value×Value)} {w w':World} (h:RdR B L a n c us w) {v:Value} {m:Nat} {xs:List Value} (ho:Own w 33 2 v m xs) (hb:But (fun b=>v.ownBlock=some b) w w') (hn:∀ g,(Value.slice a n c).ownBlock=some g->v.ownBlock≠some g):RdR B L a n c us w' :=
 ⟨h.len,h.ul,h.own.keep fun g o hg hh=>by rw [hb.block g (zZ hh) (hn g hg)];exact hh,fun i u l hu hl=>(h.each i u l hu hl).offRow ho hb,h.new⟩
theorem RdR.cells {B:Nat} {L:List Pl} {a:Option Addr} {n c:Nat} {us:List (Value×Value)} {w:World} (h:RdR B L a n c us w) {i:Nat} {u:Value×Value} (hu:us[i]? = some u):∃ g,a=some ⟨g,0,none⟩/\w.cell? ⟨g,i*2,none⟩=some u.1/\w.cell? ⟨g,i*2+1,none⟩=some u.2:=by
 obtain ⟨h1,h2⟩:=plC_at us i u hu
 obtain ⟨g,c',e,k1⟩:=h.own.at h1
 obtain ⟨g',c'',e',k2⟩:=h.own.at h2
 simp only [Value.slice.injEq,true_and] at e e'
 obtain ⟨rfl,_⟩:=e
 obtain ⟨e',_⟩:=e'
 simp only [Option.some.injEq,Addr.mk.injEq,and_true] at e'
 obtain rfl:=e'
 exact ⟨g,rfl,k1,k2⟩
theorem RdR.at {B:Nat} {L:List Pl} {a:Option Addr} {n c:Nat} {us:List (Value×Value)} {w:World} (h:RdR B L a n c us w) {i:Nat} (hi:i<n):∃ u l,us[i]? = some u/\L[i]? = some l/\zE w l u.1 u.2:=by
 have h1:us[i]? = some (us[i]'(by rw [h.ul];exact hi)):=List.getElem?_eq_getElem _
 have h2:L[i]? = some (L[i]'(by rw [h.len];exact hi)):=List.getElem?_eq_getElem _
 exact ⟨_,_,h1,h2,h.each i _ _ h1 h2⟩
theorem RdR.one {B:Nat} {L:List Pl} {a:Option Addr} {n c:Nat} {us:List (Value×Value)} {w:World} (h:RdR B L a n c us w):∀ x∈plC us,x.oneCell'=true:=by
 intro x hx
 unfold plC at hx
 rw [List.mem_flatMap] at hx
 obtain ⟨u,hu,hx⟩:=hx
 obtain ⟨i,hi⟩:=List.mem_iff_getElem?.1 hu
 have hl:=(List.getElem?_eq_some_iff.1 hi).1
 have hL:L[i]? = some (L[i]'(by rw [h.len,<- h.ul];exact hl)):=List.getElem?_eq_getElem _
 have hp:=h.each i u _ hi hL
 obtain ⟨a1,c1,e1⟩:=hp.1.slice
 obtain ⟨a2,c2,e2⟩:=hp.2.slice
 simp only [List.mem_cons,List.not_mem_nil,or_false] at hx
 rcases hx with rfl | rfl
 ·rw [e1];rfl
 ·rw [e2];rfl
theorem RdR.cat {B B2:Nat} {L L2:List Pl} {a a2:Option Addr} {n c n2 c2:Nat} {us dS:List (Value×Value)} {w:World} (h:RdR B L a n c us w) (h2:RdR B2 L2 a2 n2 c2 dS w) (hB:B<=B2) (FH:B<=w.heap.size)
 {a':Option Addr} {c':Nat} {w5:World} (AB:Own w5 33 2 (.slice a' (n+n2) c') (n+n2) (plC us++plC dS)) (cz:But (fun b=>(Value.slice a n c).ownBlock=some b) w w5) (Ep:∀ g,(Value.slice a' (n+n2) c').ownBlock=some g->(Value.slice a n c).ownBlock=some g\/g=w.heap.size) :
 RdR B (L++L2) a' (n+n2) c' (us++dS) w5:=by
 refine ⟨by rw [List.length_append,h.len,h2.len],by rw [List.length_append,h.ul,h2.ul],by rw [vq];exact AB,fun i u l hu hl=>?_,fun g hg=>?_⟩
 ·rcases Nat.lt_or_ge i n with hi | hi
  ·rw [List.getElem?_append_left (by rw [h.ul];exact hi)] at hu
   rw [List.getElem?_append_left (by rw [h.len];exact hi)] at hl
   exact (h.each i u l hu hl).offRow h.own cz
  ·rw [List.getElem?_append_right (by rw [h.ul];exact hi),h.ul] at hu
   rw [List.getElem?_append_right (by rw [h.len];exact hi),h.len] at hl
   exact (h2.each _ u l hu hl).offRow h.own cz
 ·rcases hg with hg | ⟨u,hu,hg⟩
  ·rcases Ep g hg with hg | hg
   ·exact h.new g (.inl hg)
   ·omega
  ·rcases List.mem_append.1 hu with hu | hu
   ·exact h.new g (.inr ⟨u,hu,hg⟩)
   ·have:=h2.new g (.inr ⟨u,hu,hg⟩);omega
theorem RdR.first (B:Nat) (w:World) (hB:B<=w.heap.size):RdR B [[]] (some ⟨w.heap.size,0,none⟩) 1 1 [(.slice none 0 0,.slice none 0 0)] (w.alloc (.cells #[.slice none 0 0,.slice none 0 0] 33)):=by
 refine ⟨rfl,rfl,Own.lit #[.slice none 0 0,.slice none 0 0] 1 (by unfold maxLen;omega) rfl,fun i u l hu hl=>?_,fun g hg=>?_⟩
 ·cases i with
  | zero =>
    obtain rfl:=Option.some.inj hu
    obtain rfl:=Option.some.inj hl
    exact gp _
  | succ i=>simp at hu
 ·rcases hg with hg | ⟨u,hu,hg⟩
  ·simp [Value.ownBlock] at hg;omega
  ·rw [List.mem_singleton] at hu
   subst hu
   rcases hg with hg | hg <;> simp [Value.ownBlock] at hg
structure ClR (B:Nat) (L:List Pl) (a:Option Addr) (n c i:Nat) (us vs:List (Value×Value)) (wz:World):Prop where
 len:L.length=n
 ul:us.length=n
 vl:vs.length=i
 own:Own wz 33 2 (.slice a n c) n (plC (vs++us.drop i))
 each:∀ (k:Nat) (u:Value×Value) (l:Pl),us[k]? = some u->L[k]? = some l->zE wz l u.1 u.2
 done:∀ (k:Nat) (u:Value×Value) (l:Pl),vs[k]? = some u->L[k]? = some l->zE wz l u.1 u.2
 apart:∀ (i j:Nat) (u u':Value×Value),i≠j->vs[i]? = some u->vs[j]? = some u'->∀ g,(u.1.ownBlock=some g->u'.1.ownBlock≠some g)/\(u.2.ownBlock=some g->u'.2.ownBlock≠some g)
 row:∀ g,(Value.slice a n c).ownBlock=some g->B<=g
 new:∀ u∈vs,∀ g,u.1.ownBlock=some g\/u.2.ownBlock=some g->B<=g
theorem RdR.cl {B:Nat} {L:List Pl} {a:Option Addr} {n c:Nat} {us:List (Value×Value)} {w:World} (h:RdR B L a n c us w):ClR B L a n c 0 us [] w :=
 ⟨h.len,h.ul,rfl,h.own,h.each,fun k u l hu _=>by simp at hu,fun i j u u' _ hu=>by simp at hu,fun g hg=>h.new g (.inl hg),fun u hu=>by simp at hu⟩
theorem ClR.at {B:Nat} {L:List Pl} {a:Option Addr} {n c i:Nat} {us vs:List (Value×Value)} {w:World} (h:ClR B L a n c i us vs w) (hi:i<n):∃ u l,us[i]? = some u/\L[i]? = some l/\zE w l u.1 u.2:=by
 have h1:us[i]? = some (us[i]'(by rw [h.ul];exact hi)):=List.getElem?_eq_getElem _
 have h2:L[i]? = some (L[i]'(by rw [h.len];exact hi)):=List.getElem?_eq_getElem _
 exact ⟨_,_,h1,h2,h.each i _ _ h1 h2⟩
theorem ClR.cells {B:Nat} {L:List Pl} {a:Option Addr} {n c i:Nat} {us vs:List (Value×Value)} {w:World} (h:ClR B L a n c i us vs w) {u:Value×Value} (hu:us[i]? = some u):∃ g,a=some ⟨g,0,none⟩/\w.cell? ⟨g,i*2,none⟩=some u.1/\w.cell? ⟨g,i*2+1,none⟩=some u.2:=by
 have mt:(vs++us.drop i)[i]? = some u:=by
  have hv:=h.vl
  rw [List.getElem?_append_right (by omega),List.getElem?_drop,hv,Nat.sub_self,Nat.add_zero];exact hu
 obtain ⟨h1,h2⟩:=plC_at _ i u mt
 obtain ⟨g,c',e,k1⟩:=h.own.at h1
 obtain ⟨g',c'',e',k2⟩:=h.own.at h2
 simp only [Value.slice.injEq,true_and] at e e'
 obtain ⟨rfl,_⟩:=e
 obtain ⟨e',_⟩:=e'
 simp only [Option.some.injEq,Addr.mk.injEq,and_true] at e'
 obtain rfl:=e'
 exact ⟨g,rfl,k1,k2⟩
theorem Own.put2 {w:World} {e:TypeId} {g n c:Nat} {xs:List Value} (h:Own w e 2 (.slice (some ⟨g,0,none⟩) n c) n xs) (j:Nat) (u:Value):Own (w.setCell ⟨g,j,none⟩ u) e 2 (.slice (some ⟨g,0,none⟩) n c) n (xs.set j u):=by
 obtain ⟨hl,⟨h0,_⟩ | ⟨g',cap,cur,hv,h0,hg,s_,AW,hcs,mV⟩⟩:=h
 ·cases h0
 ·simp only [Value.slice.injEq,Option.some.injEq,Addr.mk.injEq] at hv
  obtain ⟨⟨rfl,_,_⟩,_,rfl⟩:=hv
  refine ⟨by simpa using hl,.inr ⟨g,c,cur.setIfInBounds j u,rfl,h0,k8 hg,s_,AW,by simpa using hcs,?_⟩⟩
  rw [Array.toList_setIfInBounds,<- mV,List.take_set]
theorem plC_put (vs us:List (Value×Value)) (u:Value×Value) (h:vs.length<us.length):((plC (vs++us.drop vs.length)).set (vs.length*2) u.1).set (vs.length*2+1) u.2=plC ((vs++[u])++us.drop (vs.length+1)):=by
 have hl:=gd vs
 have hd:us.drop vs.length=us[vs.length]::us.drop (vs.length+1):=(List.drop_eq_getElem_cons h)
 rw [hd,vq,xm,List.append_assoc,vq,vq,show plC [u]=[u.1,u.2] from rfl]
 rw [<- hl,List.set_append_right _ _ (bw _),Nat.sub_self,List.set_cons_zero,List.set_append_right _ _ (by omega),Nat.add_sub_cancel_left]
 rfl
theorem ClR.put {B:Nat} {L:List Pl} {g n c i:Nat} {us vs:List (Value×Value)} {w W:World} (h:ClR B L (some ⟨g,0,none⟩) n c i us vs w) (hi:i<n) (hB:Below w.heap.size w W) (hBB:B<=w.heap.size) {l:Pl} (hL:L[i]? = some l) {mv pt:Value} (hp:zE W l mv pt) (hn:∀ g,mv.ownBlock=some g\/pt.ownBlock=some g->w.heap.size<=g) :
 ClR B L (some ⟨g,0,none⟩) n c (i+1) us (vs++[(mv,pt)]) ((W.setCell ⟨g,i*2,none⟩ mv).setCell ⟨g,i*2+1,none⟩ pt):=by
 have hoW:Own W 33 2 (.slice (some ⟨g,0,none⟩) n c) n (plC (vs++us.drop i)):=h.own.keep fun g o _ ho=>by rw [hB.block g (zZ ho)];exact ho
 have dM:But (fun b=>(Value.slice (some ⟨g,0,none⟩) n c).ownBlock=some b) W ((W.setCell ⟨g,i*2,none⟩ mv).setCell ⟨g,i*2+1,none⟩ pt):=((But.refl (fun b=>(Value.slice (some ⟨g,0,none⟩) n c).ownBlock=some b) W).setCell (p:=⟨g,i*2,none⟩) (.inl rfl) _).setCell (p:=⟨g,i*2+1,none⟩) (.inl rfl) _
 have DH:=(hoW.put2 (i*2) mv).put2 (i*2+1) pt
 have fv:=h.vl
 refine ⟨h.len,h.ul,by rw [List.length_append,fv];rfl,?_,fun k u l hu hl=>?_,fun k u l' hu hl=>?_,fun k j u u' hkj hu mt g'=>?_,h.row,fun u hu g' hg=>?_⟩
 ·subst fv
  rw [plC_put vs us (mv,pt) (by rw [h.ul];exact hi)] at DH
  exact DH
 ·exact ((h.each k u l hu hl).below hB).offRow hoW dM
 ·rcases Nat.lt_or_ge k vs.length with hk | hk
  ·rw [List.getElem?_append_left hk] at hu
   exact ((h.done k u l' hu hl).below hB).offRow hoW dM
  ·rw [List.getElem?_append_right hk] at hu
   have fB:k-vs.length=0:=by have:=(List.getElem?_eq_some_iff.1 hu).1;simp at this;omega
   rw [fB] at hu
   obtain rfl:=Option.some.inj hu
   obtain rfl:k=i:=by omega
   rw [hL] at hl
   obtain rfl:=Option.some.inj hl
   exact hp.offRow hoW dM
 ·have old:∀ q x,q<vs.length->(vs++[(mv,pt)])[q]? = some x->∀ g',(x.1.ownBlock=some g'\/x.2.ownBlock=some g')->g'<w.heap.size:=fun q x hq hx g' dR=>by
   rw [List.getElem?_append_left hq] at hx
   have iF:q<L.length:=by rw [h.len];omega
   have hp:=h.done q x _ hx (List.getElem?_eq_getElem iF)
   exact dR.elim (fun e=>hp.1.lt e) fun e=>hp.2.lt e
  have new:∀ q x,vs.length<=q->(vs++[(mv,pt)])[q]? = some x->q=vs.length/\x=(mv,pt):=fun q x hq hx=>by
   have h2:=(List.getElem?_eq_some_iff.1 hx).1
   rw [List.length_append,List.length_singleton] at h2
   obtain rfl:q=vs.length:=by omega
   rw [List.getElem?_append_right (bw _),Nat.sub_self] at hx
   exact ⟨rfl,(Option.some.inj hx).symm⟩
  rcases Nat.lt_or_ge k vs.length with hk | hk <;> rcases Nat.lt_or_ge j vs.length with hj | hj
  ·rw [List.getElem?_append_left hk] at hu
   rw [List.getElem?_append_left hj] at mt
   exact h.apart k j u u' hkj hu mt g'
  ·obtain ⟨_,rfl⟩:=new j u' hj mt
   refine ⟨fun e e'=>?_,fun e e'=>?_⟩
   ·have h1:=old k u hk hu g' (.inl e);have h2:=hn g' (.inl e');omega
   ·have h1:=old k u hk hu g' (.inr e);have h2:=hn g' (.inr e');omega
  ·obtain ⟨_,rfl⟩:=new k u hk hu
   refine ⟨fun e e'=>?_,fun e e'=>?_⟩
   ·have h1:=old j u' hj mt g' (.inl e');have h2:=hn g' (.inl e);omega
   ·have h1:=old j u' hj mt g' (.inr e');have h2:=hn g' (.inr e);omega
  ·obtain ⟨rfl,_⟩:=new k u hk hu
   obtain ⟨rfl,_⟩:=new j u' hj mt
   exact absurd rfl hkj
 ·rcases List.mem_append.1 hu with hu | hu
  ·exact h.new u hu g' hg
  ·rw [List.mem_singleton] at hu
   subst hu
   have:=hn g' hg;omega
def qI (t:Ty) (b:Bd):Nat->List Pl
 | 0=>[[]]
 | r+1=>uJ t b r
def fAt (t:Ty) (b:Bd) (r:Nat) (v:Pl):List Pl:=if r=0 then vP t v else stepL t b v
theorem last_flat (t:Ty) (b:Bd):∀ r,uJ t b r=(qI t b r).flatMap (fAt t b r)
 | 0=>by simp [uJ,qI,fAt]
 | r+1=>by
   rw [uJ,qI]
   congr 1
theorem prev_in {t:Ty} {b:Bd} (cJ:zP t<=15) (hf:kE t.args b) (hw:wfB b) (r:Nat) (hr:r<=20) (u:Pl) (hu:u∈qI t b r):uN t b u/\(r=0/\u=[]\/0<r/\u.length+1=2*r):=by
 cases r with
 | zero =>
   rw [qI,List.mem_singleton] at hu
   subst hu
   exact ⟨in_nil t b,.inl ⟨rfl,rfl⟩⟩
 | succ r =>
   obtain ⟨h1,h2⟩:=gJ cJ hf hw r (by omega) u hu
   exact ⟨h1,.inr ⟨by omega,by omega⟩⟩
theorem flat_next {t:Ty} {b:Bd} {r j:Nat} {v:Pl} (h:(qI t b r)[j]? = some v):((qI t b r).take (j+1)).flatMap (fAt t b r)=((qI t b r).take j).flatMap (fAt t b r)++fAt t b r v:=flat_take h _
def bT (o:Option (List Pl)) (w:World) (en:Ending) (w':World):Prop :=
 ∃ a n c us,en=.returned (.tuple #[.slice a n c,.bool o.isSome])/\Below w.heap.size w w'/\NxR w.heap.size (o.getD []) a n c us w'
theorem bT.none {w w':World} (hb:Below w.heap.size w w'):bT none w (.returned (.tuple #[.slice .none 0 0,.bool false])) w':=⟨_,_,_,[],rfl,hb,NxR.nil _ _⟩
theorem plays_over {s text:Bs} {b:Bd} {n:Int} (h:zN s text=some b) (h0:¬ n<0) (h8:¬ 8<n) {r k:Nat} (hr:r+1<=(n.toNat+1) / 2) (hk:300<(jE (zV s).1 b r).length+(((qI (zV s).1 b r).take k).flatMap (fAt (zV s).1 b r)).length):qA s text n=none:=by
 unfold qA
 rw [h]
 simp only
 rw [if_neg (by omega)]
 have h1:=flat_take_le (qI (zV s).1 b r) (fAt (zV s).1 b r) k
 have h2:=ge (zV s).1 b hr
 rw [jE,List.length_append,last_flat] at h2
 rw [if_pos (by omega)]
theorem plays_done {s text:Bs} {b:Bd} {n:Int} (h:zN s text=some b) (h0:¬ n<0) (h8:¬ 8<n) {r:Nat} (hr:r=(n.toNat+1) / 2) (hk:(jE (zV s).1 b r).length<=300):qA s text n=some (jE (zV s).1 b r):=by
 subst hr
 unfold qA
 rw [h]
 simp only
 rw [if_neg (by omega),if_neg (by omega)]
theorem plays_no {s text:Bs} (h:zN s text=none) (n:Int):qA s text n=none:=by unfold qA;rw [h]
theorem plays_off {s text:Bs} {b:Bd} {n:Int} (h:zN s text=some b) (h0:n<0\/8<n):qA s text n=none:=by
 unfold qA
 rw [h]
 simp only
 rw [if_pos h0]
theorem vM {t:Ty} (cJ:zP t<=15) {v:Pl} (h:zO t v=true):∀ x∈v,Lim x.1.length:=by
 intro x hx
 obtain ⟨i,hi⟩:=List.mem_iff_getElem?.1 hx
 have hl:=(List.getElem?_eq_some_iff.1 hi).1
 obtain ⟨c,p,z,hv,ho⟩:=kQ h hl
 rw [hv] at hi
 obtain rfl:=Option.some.inj hi
 obtain ⟨a,ha⟩:=ho.hp
 have:=qH _ _ _ ha
 show (c::p).length<=_
 rw [List.length_cons];omega
def MovQ (xs:List Bs) (a:Option Addr) (n c:Nat) (t:Ty) (p:Bs) (w:World) (en:Ending) (w':World):Prop :=
 ∃ a' n' c',en=.returned (.slice a' n' c')/\n'=n+(kW t p).length/\But (fun b=>(Value.slice a n c).ownBlock=some b) w w'/\Own w' 9 1 (.slice a' n' c') n' ((xs++kW t p).map str)/\∀ g,(Value.slice a' n' c').ownBlock=some g->(Value.slice a n c).ownBlock=some g\/w.heap.size<=g
structure MvI (B:Nat) (xs:List Bs) (a:Option Addr) (n c:Nat) (ta:Option Addr) (tl tc:Nat) (t:Ty) (p:Bs) (w:World) (k:Nat) (a':Option Addr) (n' c':Nat) (wz:World):Prop where
 len:n'=n+(jG t p k).length
 but:But (fun b=>(Value.slice a n c).ownBlock=some b) w wz
 own:Own wz 9 1 (.slice a' n' c') n' ((xs++jG t p k).map str)
 row:∀ g,(Value.slice a' n' c').ownBlock=some g->(Value.slice a n c).ownBlock=some g\/w.heap.size<=g
 box:wz.heap[w.heap.size]? = some (.cells #[.slice ta tl tc] 61 (0,0))
theorem Rep.butRow {F:Nat->Prop} {w w':World} {m:Nat->Prop} {d:DV} {v:Value} (h:Rep F w d v) (hb:But m w w') (hm:∀ b,F b->¬ m b):Rep F w' d v :=
 (Rep.keep fun b o hF ho=>⟨hF,by rw [hb.block b (zZ ho) (hm b hF)];exact ho⟩).1 _ _ h
set_option maxRecDepth 100000 in
theorem pM (B:Nat):∀ (m:Nat) (t:Ty) (p:Bs) (tv:Value) (xs:List Bs) (a:Option Addr) (n c:Nat) (w:World),zP t<=m->m<=15->p.length+m<=1000->n+200*m<=100000->B<=w.heap.size->Rep (· < B) w (qP t) tv->Own w 9 1 (.slice a n c) n (xs.map str)->(∀ g,(Value.slice a n c).ownBlock=some g->B<=g) ->
 Calls Tryz.prog 121 #[.agg #[tv],str p,.slice a n c] w (MovQ xs a n c t p w):=by
 intro m
 induction m with
 | zero=>intro t p tv xs a n c w h;have:=jn t;omega
 | succ m ih =>
   intro t p tv xs a n c w hm cJ hp tZ FH hv cL DB
   obtain ⟨ta,tc,rfl⟩:=zp hv
   have mr:=hv
   rw [qn] at mr
   obtain ⟨sa,sc,e,fb,cU,cO⟩:=zI mr
   simp only [Value.slice.injEq] at e
   obtain ⟨rfl,_,rfl⟩:=e
   have iq:=kt t
   obtain ⟨W,hW,b9,hz,b0⟩:=kV w (.cells #[.slice ta t.args.length tc] 61)
   obtain ⟨Q,hQ⟩:∃ O:Bs,O=[113]++p:=⟨_,rfl⟩
   obtain ⟨T,hT⟩:∃ O:Bs,O=[116]++p:=⟨_,rfl⟩
   obtain ⟨G,hG⟩:∃ O:Bs,O=[102]++p:=⟨_,rfl⟩
   have s1:=fun w0=>k7 (P:=Tryz.prog) [113] p (by simp;omega) w0
   have s2:=fun w0=>k7 (P:=Tryz.prog) [116] p (by simp;omega) w0
   have s3:=fun w0=>k7 (P:=Tryz.prog) [102] p (by simp;omega) w0
   rw [<- hQ] at s1;rw [<- hT] at s2;rw [<- hG] at s3
   have HM0:=bz (show jG t p 0=[Q,T,G] by rw [movesTo_zero,hQ,hT,hG];rfl)
   have HALL:=bz (movesTo_all t p)
   have tG:=bz (fun k a (h:t.args[k]? = some a)=>movesTo_next h p)
   have Cu:=bz (fun k=>movesTo_len (t:=t) (by omega) p k)
   have HW:=bz (bj hW (bj b9 b0))
   have AT:=bz cO
   have IH:=bz ih
   have HP:=bz (bj hm (bj cJ (bj hp (bj iq (bj FH (bj DB hv))))))
   have HOW:=bz (cL.keep (w':=W) fun g o _ ho=>by rw [b9.block g (zZ ho)];exact ho)
   have F1:=bz (fun g hg=>cL.lt (g:=g) hg)
   have hnn:t.args.length<=7:=by omega
   have cG:p.length<=1000:=by omega
   have iS:n<=100000:=by omega
   have HNB:=bz tZ
   clear hQ hT hG hW b9 hz b0 cO ih hm cJ hp iq hv mr cL DB cU FH fb tZ
   go_enter Tryz.func121,Tryz.ntmps121
   go_upto_region 1 with (fail)
   rw [HW.out.1]
   go_wp2_with (at_builtin;refine zC rfl _ _ 30 rfl 9 (str []) 1 16 Tryz.underlying30 Tryz.infoStr rfl (by decide) (.slice a n c) n (xs.map str) rfl ?c1 _ 3 [str Q,str T,str G] rfl ?c2 ?c3 ?c4 ?_)
   case c1=>exact HOW.out.alloc _
   case c2=>exact zM.lits #[str Q,str T,str G] 3 rfl (by simp [str,Value.oneCell']) _ (by simp)
   case c3=>unfold maxLen;omega
   case c4=>omega
   intro a2 c2 w2 lX cK nO
   have hbb:=HW.out.2.1.alloc HW.out.2.1.size (.cells #[str Q,str T,str G] 9)
   have FB:MvI B xs a n c ta t.args.length tc t p w 0 a2 (n+3) c2 w2:=by
    refine ⟨by rw [HM0.out];rfl,(But.ofBelow hbb).trans' cK (fun _ _ h=>h),by rw [HM0.out,List.map_append];exact lX,fun g hg=>?_,?_⟩
    ·rcases nO g hg with h | h
     ·exact .inl h
     ·(try rw [zK] at h);have:=HW.out.2.1.size;exact .inr (by omega)
    ·have h5:=zZ HW.out.2.2
     rw [cK.block _ (by rw [zK];omega) (fun e=>by have:=F1.out _ e;omega),Below.heap_alloc _ _ _ h5]
     exact HW.out.2.2
   have HI0:=bz FB
   clear lX cK nO hbb FB
   go_wp2_with fail
   go_loopw [2,7] (fun o i wr=>∃ (k n' c':Nat) (a':Option Addr) (wz:World),wz=wr/\k<=t.args.length/\i=.int .i64 k/\o=.slice a' n' c'/\MvI B xs a n c ta t.args.length tc t p w k a' n' c' wz) (fun _ i _=>t.args.length-(intOf i).toNat)
   case atStart=>exact ⟨0,_,_,_,_,rfl,Nat.zero_le _,rfl,rfl,HI0.out⟩
   case round =>
    obtain ⟨k,n',c',a',wr,rfl,hk,rfl,rfl,hI⟩:=hrel
    have HI:=bz hI
    have z0:=kF hI.box
    clear hI
    by_cases cQ:k<t.args.length
    ·have dU:(k:Int)<(t.args.length:Int):=by omega
     obtain ⟨b',o',u,d,rfl,FC,dK,hd,hu,hr⟩:=AT.out k cQ
     rw [vx,Option.map_eq_some_iff] at hd
     obtain ⟨t',sE,rfl⟩:=hd
     obtain ⟨ua,uc,rfl⟩:=zp hr
     have rJ:∀ b,b<B->¬ (Value.slice a n c).ownBlock=some b:=fun b hb e=>by have:=HP.out.2.2.2.2.2.1 b e;omega
     have kk:wr.cell? ⟨b',o'+k,none⟩=some (.slice ua t'.args.length uc):=(HI.out.but.cell (p:=⟨b',o'+k,none⟩) dK (rJ b' FC)).trans hu
     have aI:=xR sE
     have hNX:=tG.out k t' sE
     have Ar:=Rep.butRow hr HI.out.but rJ
     have HT:=bz (bj aI (bj hNX Ar))
     have iz:(dec k).length<=2:=jl 1 k (by omega)
     have rz:=fun w0=>k7 (P:=Tryz.prog) p (dec k) (by omega) w0
     obtain ⟨S,hS⟩:=zzN (p++dec k)
     rw [hS] at rz HT
     have hSl:S.length<=p.length+1:=by rw [<- hS,List.length_append];have:=qD (show k<10 by omega);rw [this];simp
     have An:=HI.out.but.size
     have sZ:=Cu.out (k+1)
     have fP:n'+200*m<=100000:=by have h1:=HI.out.len;have h2:=Cu.out k;have:=HNB.out;omega
     have C1:=bz (fun y=>wt k (by omega) y)
     have IH1:=bz (fun (y:World) (hy:Below wr.heap.size wr y)=>IH.out t' S (.slice ua t'.args.length uc) (xs++jG t p k) a' n' c' y (by have:=HT.out.1;have:=HP.out;omega) (by have:=HP.out;omega) (by have:=HP.out;omega) fP (br HP.out.2.2.2.2.1 (br An hy.size)) (HT.out.2.2.below hy fun _ h=>h)
      (HI.out.own.keep fun g o _ ho=>by rw [hy.block g (zZ ho)];exact ho) (fun g hg=>by
       rcases HI.out.row g hg with h | h
       ·exact HP.out.2.2.2.2.2.1 g h
       ·exact br HP.out.2.2.2.2.1 h))
     unfold MovQ at IH1
     obtain ⟨K,hK⟩:=zzN ((kW t' S).length)
     rw [hK] at IH1
     have HK:=bz hK
     have KEY:=bz (fun (y:World) (hy:Below wr.heap.size wr y)=>(show y.cell? ⟨w.heap.size,0,none⟩=some (.slice (some ⟨b',o',none⟩) t.args.length tc)/\y.cell? ⟨b',o'+k,none⟩=some (.slice ua t'.args.length uc) from
      ⟨(hy.cell (bp _ _ z0)).trans z0,(hy.cell (bp _ _ kk)).trans kk⟩))
     clear hS iz dK hu hr sE aI hNX Ar rJ An sZ hK hSl kk fP
     go_upto_region 5 with (fail)
     clear z0
     refine wp_region_noPanic ?_
     refine zW (fun w'=>Below wr.heap.size wr w') (fun i=>decide (10<=i)) (by kernel_rfl) ?_
     have cZ:(fun w'=>Below wr.heap.size wr w') wr.drew:=Below.drew (bh _ _)
     refine ze 0 [1,3,4,10,11] (v:=?_) (by kernel_rfl) (by kernel_rfl) (by kernel_rfl) (by kernel_rfl) (fun _ _ _ _ h=>h) cZ ?_ ?_
     rotate_left
     ·(intro oi ho;simp at ho;subst ho;refine Or.inl ⟨by rfl,fun w' b_=>?_⟩;go_simp;try with_reducible rfl)
     (intro d hd;simp at hd;subst hd;simp only [Act.put,List.setIfInBounds_toArray,List.set_cons_zero,List.set_cons_succ])
     refine ze 1 [3,4,10,11] (v:=?_) (by kernel_rfl) (by kernel_rfl) (by kernel_rfl) (by kernel_rfl) (fun _ _ _ _ h=>h) cZ ?_ ?_
     rotate_left
     ·(intro oi ho;simp at ho;subst ho;refine Or.inl ⟨by rfl,fun w' b_=>?_⟩;obtain ⟨e0,e1⟩:=KEY.out w' b_;go_simp;try with_reducible rfl)
     (intro d hd;simp at hd;subst hd;simp only [Act.put,List.setIfInBounds_toArray,List.set_cons_zero,List.set_cons_succ])
     refine ze 2 [3,4,10,11] (v:=?_) (by kernel_rfl) (by kernel_rfl) (by kernel_rfl) (by kernel_rfl) (fun _ _ _ _ h=>h) cZ ?_ ?_
     rotate_left
     ·(intro oi ho;simp at ho;subst ho;refine Or.inl ⟨by rfl,fun w' b_=>?_⟩;go_simp;try with_reducible rfl)
     (intro d hd;simp at hd;subst hd;simp only [Act.put,List.setIfInBounds_toArray,List.set_cons_zero,List.set_cons_succ])
     refine ze 3 [4,10,11] (v:=?_) (by kernel_rfl) (by kernel_rfl) (by kernel_rfl) (by kernel_rfl) (fun _ _ _ _ h=>h) cZ ?_ ?_
     rotate_left
     ·(intro oi ho;simp at ho;subst ho;refine Or.inl ⟨by rfl,fun w' b_=>?_⟩;go_simp;try with_reducible rfl)
     (intro d hd;simp at hd;subst hd;simp only [Act.put,List.setIfInBounds_toArray,List.set_cons_zero,List.set_cons_succ])
     refine ze 4 [10,11] (v:=?_) (by kernel_rfl) (by kernel_rfl) (by kernel_rfl) (by kernel_rfl) (fun _ _ _ _ h=>h) cZ ?_ ?_
     rotate_left
     ·(intro oi ho;simp at ho;subst ho;refine Or.inl ⟨by rfl,fun w' b_=>?_⟩;obtain ⟨e0,e1⟩:=KEY.out w' b_;go_simp;try with_reducible rfl)
     (intro d hd;simp at hd;subst hd;simp only [Act.put,List.setIfInBounds_toArray,List.set_cons_zero,List.set_cons_succ])
     refine ze 5 [8,10,11] (v:=?_) (by kernel_rfl) (by kernel_rfl) (by kernel_rfl) (by kernel_rfl) (fun _ _ _ _ h=>h) cZ ?_ ?_
     rotate_left
     ·(intro oi ho;simp at ho;subst ho;refine Or.inl ⟨by rfl,fun w' b_=>?_⟩;go_simp;try with_reducible rfl)
     (intro d hd;simp at hd;subst hd;simp only [Act.put,List.setIfInBounds_toArray,List.set_cons_zero,List.set_cons_succ])
     refine ze 6 [7,8,10,11] (v:=?_) (by kernel_rfl) (by kernel_rfl) (by kernel_rfl) (by kernel_rfl) (fun _ _ _ _ h=>h) cZ ?_ ?_
     rotate_left
     ·(intro oi ho;simp at ho;subst ho;refine Or.inl ⟨by rfl,fun w' b_=>?_⟩;go_simp;try with_reducible rfl)
     (intro d hd;simp at hd;subst hd;simp only [Act.put,List.setIfInBounds_toArray,List.set_cons_zero,List.set_cons_succ])
     refine ze 9 [10,11] (v:=?_) (by kernel_rfl) (by kernel_rfl) (by kernel_rfl) (by kernel_rfl) (fun _ _ _ _ h=>h) cZ ?_ ?_
     rotate_left
     ·(intro oi ho;simp at ho;subst ho;refine Or.inl ⟨by rfl,fun w' b_=>?_⟩;go_simp;try with_reducible rfl)
     (intro d hd;simp at hd;subst hd;simp only [Act.put,List.setIfInBounds_toArray,List.set_cons_zero,List.set_cons_succ])
     (refine on 7 ?_;intro o ho K' hK;simp at ho;subst ho;go_simp)
     go_at_call 96
     (with_reducible refine (C1.out _).mono ?_)
     rintro en x7 ⟨rfl,cP⟩
     have dc:Below wr.heap.size wr x7:=Below.trans cZ (cP.mono (Below.size cZ))
     (refine hK.out _ _ (fun _=>dc) ?_;clear hK K';try simp only [pQ,pN,pZ,pS])
     have sj:=dc
     refine ze 8 [10,11] (v:=?_) (by kernel_rfl) (by kernel_rfl) (by kernel_rfl) (by kernel_rfl) (fun _ _ _ _ h=>h) sj ?_ ?_
     rotate_left
     ·(intro oi ho;simp at ho;subst ho;refine Or.inl ⟨by rfl,fun w' b_=>?_⟩;go_simp;try with_reducible rfl)
     (intro d hd;simp at hd;subst hd;simp only [Act.put,List.setIfInBounds_toArray,List.set_cons_zero,List.set_cons_succ])
     (refine on 10 ?_;intro o ho K' hK;simp at ho;subst ho;go_simp)
     go_at_call 121
     (with_reducible refine (IH1.out x7 dc).mono ?_)
     rintro en x10 ⟨a3,n3,c3,rfl,iT,Bb,DT,EB⟩
     have HN3:=bz iT
     clear iT
     (refine hK.out _ _ (fun h=>by simp at h) ?_;clear hK K';try simp only [pQ,pN,pZ,pS])
     (refine on 11 ?_;intro o ho K' hK;simp at ho;subst ho;go_simp)
     (refine hK.out _ _ (fun h=>by simp at h) ?_;clear hK K';try simp only [pQ,pN,pZ,pS])
     refine zU (by kernel_rfl) (NoPanic.normal ?_) _
     clear cZ KEY C1 IH1 rz
     have hI2:MvI B xs a n c (some ⟨b',o',none⟩) t.args.length tc t p w (k+1) a3 n3 c3 x10:=by
      have E5:=HI.out.but.trans' (But.ofBelow (m:=fun _=>False) dc) (fun _ _ h=>h.elim)
      have hsz7:=dc.size
      have An:=HI.out.but.size
      refine ⟨by rw [HN3.out,HI.out.len,HT.out.2.1,List.length_append,HK.out];omega,E5.trans' Bb (fun i hi e=>?_),by rw [HT.out.2.1,<- List.append_assoc];exact DT,fun g hg=>?_,?_⟩
      ·rcases HI.out.row i e with h | h
       ·exact h
       ·omega
      ·rcases EB g hg with h | h
       ·exact HI.out.row g h
       ·exact .inr (by omega)
      ·have ed:=(dc.block _ (zZ HI.out.box)).trans HI.out.box
       rw [Bb.block _ (zZ ed) (fun e=>HI.out.own.notBox HI.out.box (by decide) e)]
       exact ed
     have HI2:=bz hI2
     clear hI2 dc cP Bb DT EB
     go_wp2_with fail
     go_roundw
     case rel=>exact ⟨k+1,_,_,_,_,rfl,by omega,by go_num,rfl,HI2.out⟩
     case measure=>simp [intOf];omega
    ·have dU:¬ (k:Int)<(t.args.length:Int):=by omega
     obtain rfl:k=t.args.length:=by omega
     go_wp2_with fail
     go_ret
     have ho:=HI.out.own
     have hl:=HI.out.len
     rw [HALL.out] at ho hl
     exact ⟨a',n',c',rfl,hl,HI.out.but,ho,HI.out.row⟩
end Go.Proofs.YtfedjhgaeikjmaaGreatDoor

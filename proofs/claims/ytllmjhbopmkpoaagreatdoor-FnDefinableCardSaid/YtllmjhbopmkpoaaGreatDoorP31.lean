/- Plain words: a strategy's term has the strategy's type and means the strategy. -/
import Derived.Test.YtllmjhbopmkpoaaGreatDoorP30
namespace Go.Proofs.YtllmjhbopmkpoaaGreatDoor
open Go.RowKit
theorem dec_inj {a b:Nat} (h:dec a=dec b):a=b:=by rw [← dec_val a,h,dec_val]
theorem lname_inj {a b:Nat} (h:lname a=lname b):a=b:=dec_inj (List.cons.inj h).2
structure Names (ns:List Nm) (H:List Ty):Prop where
 len:ns.length=H.length
 each:∀ i k,H[i]? = some k→ns[i]? = some (lname i,k)
theorem Names.nil:Names [] []:=⟨rfl,fun i k h=>by simp at h⟩
theorem Names.snoc {ns:List Nm} {H:List Ty} (h:Names ns H) (k:Ty):Names (ns++[(lname H.length,k)]) (H++[k]):=by
 refine ⟨by rw [List.length_append,List.length_append,h.len];rfl,fun i a hi=>?_⟩
 rcases Nat.lt_trichotomy i H.length with hlt | rfl | hgt
 ·rw [List.getElem?_append_left hlt] at hi
  rw [List.getElem?_append_left (by rw [h.len];exact hlt)]
  exact h.each i a hi
 ·rw [List.getElem?_append_right (Nat.le_refl _),Nat.sub_self] at hi
  simp at hi;subst hi
  rw [List.getElem?_append_right (by rw [h.len];exact Nat.le_refl _),h.len,Nat.sub_self];rfl
 ·rw [List.getElem?_eq_none (by rw [List.length_append];simp;omega)] at hi
  simp at hi
theorem Names.kinds {ns:List Nm} {H:List Ty} (h:Names ns H):kinds ns=H:=by
 apply List.ext_getElem?
 intro i
 cases hi:H[i]? with
 | none =>
   have:H.length≤i:=List.getElem?_eq_none_iff.1 hi
   exact List.getElem?_eq_none (by rw [kinds_length,h.len];exact this)
 | some k=>exact kinds_at (h.each i k hi)
theorem findAt_name {ns:List Nm} {H:List Ty} (h:Names ns H) {v:Nat} (hv:v<H.length):∀ n,v<n→n≤H.length→findAt ns (lname v) n=some v
 | 0,h0,_=>by omega
 | n+1,hn,hl=>by
   rw [findAt]
   obtain ⟨k,hk⟩:∃ k,H[n]? = some k:=⟨H[n],by simp [show n<H.length from by omega]⟩
   rw [h.each n k hk]
   simp only [Option.map_some,Option.some.injEq]
   by_cases e:n=v
   ·subst e;rw [if_pos rfl]
   ·rw [if_neg (fun h'=>e (lname_inj h')),findAt_name h hv n (by omega) (by omega)]
theorem Names.find {ns:List Nm} {H:List Ty} (h:Names ns H) {v:Nat} {t:Ty} (hv:H[v]? = some t):findN ns (lname v)=some v∧ns[v]? = some (lname v,t):=by
 have hlt:=(List.getElem?_eq_some_iff.1 hv).1
 exact ⟨by unfold findN;exact findAt_name h hlt _ (by rw [h.len];exact hlt) (by rw [h.len];exact Nat.le_refl _),h.each v t hv⟩
theorem atoms_tail {a:Ty} {ts:List Ty} (h:atomsT (.mk (a::ts))≤15):atomsT a≤15∧atomsT (.mk ts)≤15:=by rw [atomsT_cons] at h;omega
theorem lams_says:∀ (ts:List Ty) (ns:List Nm) (H:List Ty) (b:Tm) (x:Bd),Names ns H→atomsT (.mk ts)≤15 →
 (∀ ns',Names ns' (H++ts)→typeOf ns' b=some (.mk [])∧meanOf ns' b=some x)→typeOf ns (lamsTm H.length ts b)=some (.mk ts)∧meanOf ns (lamsTm H.length ts b)=some x
 | [],ns,H,b,x,hn,_,hb=>by rw [lamsTm];exact hb ns (by rw [List.append_nil];exact hn)
 | t::ts,ns,H,b,x,hn,ha,hb=>by
   obtain ⟨h1,h2⟩:=atoms_tail ha
   have key:=lams_says ts (ns++[(lname H.length,t)]) (H++[t]) b x (hn.snoc t) h2 (fun ns' h'=>hb ns' (by rw [List.append_assoc] at h';exact h'))
   rw [List.length_append] at key
   rw [lamsTm,typeOf,meanOf,if_neg (by omega)]
   have e:H.length+[t].length=H.length+1:=rfl
   rw [e] at key
   rw [key.1,key.2]
   simp only [Option.bind_some]
   have e2:arrowT t (.mk ts)=.mk (t::ts):=rfl
   rw [e2,if_neg (by omega)]
   refine ⟨?_,?_⟩ <;> first | rfl | trivial
def Says (N:Nat):Prop:=∀ (b:Bd) (H:List Ty) (ns:List Nm),sizeB b≤N→sizeB b≤60→fitB H b→wfB b→Names ns H→(∀ t∈H,atomsT t≤15)→typeOf ns (tmB H b)=some (.mk [])∧meanOf ns (tmB H b)=some b
theorem strat_says {N:Nat} (ih:Says N) {H:List Ty} {ns:List Nm} {k:Ty} {s:Bd} (hs:sizeB s≤N) (h60:sizeB s≤60) (hf:fitB (H++k.args) s) (hw:wfB s) (hn:Names ns H) (hH:∀ t∈H,atomsT t≤15) (hk:atomsT k≤15) :
 typeOf ns (tmL H k s)=some k∧meanOf ns (tmL H k s)=some s:=by
 have ek:Ty.mk k.args=k:=by cases k;rfl
 have:=lams_says k.args ns H (tmB (H++k.args) s) s hn (by rw [ek];exact hk) fun ns' hn'=>ih s (H++k.args) ns' hs h60 hf hw hn' fun x hx=>by
  rcases List.mem_append.1 hx with hx | hx
  ·exact hH x hx
  ·exact arg_small hk x hx
 rw [ek] at this
 exact this
theorem apps_says {N:Nat} (ih:Says N) {H:List Ty} {ns:List Nm} {v:Nat} {t:Ty} (hv:H[v]? = some t) (ht:atomsT t≤15) (hn:Names ns H) (hH:∀ t∈H,atomsT t≤15) :
 ∀ (m:Nat) (ts1:List Ty) (ss1:List Bd) (rest:List Ty),ts1.length=m→t.args=ts1++rest→fitBs (hands H ts1) ss1→wfBs ss1→sizeBs ss1≤N→sizeBs ss1≤60 →
   typeOf ns (tmApps H (.nm (lname v)) ts1 ss1)=some (.mk rest)∧meanOf ns (tmApps H (.nm (lname v)) ts1 ss1)=some (partBody v H.length ss1 rest)
 | 0,ts1,ss1,rest,hm,hts,hf,hw,_,_=>by
   obtain rfl:ts1=[]:=List.eq_nil_of_length_eq_zero hm
   have hl:=fitBs_length _ _ hf
   rw [hands_length] at hl
   obtain rfl:ss1=[]:=List.eq_nil_of_length_eq_zero hl.symm
   rw [List.nil_append] at hts
   obtain ⟨h1,h2⟩:=hn.find hv
   have et:Ty.mk rest=t:=by rw [← hts];cases t;rfl
   rw [tmApps_nil,typeOf,meanOf,h1]
   simp only [Option.bind_some]
   rw [h2]
   simp only [Option.map_some,Option.bind_some]
   refine ⟨by rw [et],?_⟩
   have hz:=eta_size t v ns.length
   unfold smallB
   rw [if_pos (by omega),eta_eq,hts,hn.len]
   unfold partBody
   rw [renBs,List.nil_append]
 | m+1,ts1,ss1,rest,hm,hts,hf,hw,hs,h60=>by
   obtain ⟨ts0,k,rfl⟩:∃ ts0 k,ts1=ts0++[k]:=⟨ts1.dropLast,ts1.getLast (by intro e;rw [e] at hm;simp at hm),(List.dropLast_concat_getLast _).symm⟩
   have hl:=fitBs_length _ _ hf
   rw [hands_length,List.length_append] at hl
   obtain ⟨ss0,s,rfl⟩:∃ ss0 s,ss1=ss0++[s]:=⟨ss1.dropLast,ss1.getLast (by intro e;rw [e] at hl;simp at hl),(List.dropLast_concat_getLast _).symm⟩
   have hl0:ts0.length=ss0.length:=by simpa using hl
   have hsp:=fitBs_split (hands H ts0) (hands H [k]) (ss0++[s]) (by unfold hands at *;rw [List.map_append] at hf;exact hf)
   rw [hands_length,hl0,List.take_left,List.drop_left] at hsp
   obtain ⟨f0,f1⟩:=hsp
   rw [fitBs] at f1
   obtain ⟨h',hs',e,f2,_⟩:=f1
   simp only [hands,List.map_cons,List.map_nil,List.cons.injEq] at e
   obtain ⟨rfl,_⟩:=e
   obtain ⟨w0,w1⟩:=wfBs_split ss0 [s] hw
   rw [wfBs] at w1
   rw [sizeBs_append,sizeBs,sizeBs] at hs h60
   have hts':t.args=ts0++k::rest:=by rw [hts,List.append_assoc];rfl
   obtain ⟨q1,q2⟩:=apps_says ih hv ht hn hH m ts0 ss0 (k::rest) (by simpa using hm) hts' f0 w0 (by omega) (by omega)
   have hk15:atomsT k≤15:=arg_small ht k (by rw [hts'];simp)
   obtain ⟨p1,p2⟩:=strat_says ih (k:=k) (s:=s) (by omega) (by omega) f2 w1.1 hn hH hk15
   rw [tmApps_snoc _ _ _ _ _ _ hl0,typeOf,meanOf,q1,q2,p1,p2]
   simp only [Option.bind_some,Ty.args,if_true]
   refine ⟨trivial,?_⟩
   rw [hn.kinds,hn.len]
   exact app_step hv hts' ht f0 w0 f2 w1.1 (by omega)
theorem says_all:∀ N,Says N
 | 0=>fun b H ns h=>by have:=sizeB_pos b;omega
 | N+1=>fun b H ns h h60 hf hw hn hH=>by
   have ih:=says_all N
   cases b with
   | leaf c=>rw [tmB,typeOf,meanOf];exact ⟨rfl,rfl⟩
   | ask v ss y no =>
     rw [sizeB] at h h60
     rw [fitB] at hf
     rw [wfB] at hw
     obtain ⟨t,ht,f1,f2,f3⟩:=hf
     have py:=sizeB_pos y
     have pn:=sizeB_pos no
     have h15:=hH t (List.mem_of_getElem? ht)
     obtain ⟨a1,a2⟩:=apps_says ih ht h15 hn hH _ t.args ss [] rfl (by simp) f1 hw.1 (by omega) (by omega)
     obtain ⟨b1,b2⟩:=ih y H ns (by omega) (by omega) f2 hw.2.1 hn hH
     obtain ⟨c1,c2⟩:=ih no H ns (by omega) (by omega) f3 hw.2.2 hn hH
     have e:(H[v]?.map Ty.args).getD []=t.args:=by rw [ht];rfl
     rw [tmB,e,typeOf,meanOf,a1,a2,b1,b2,c1,c2]
     simp only [Option.bind_some,Ty.args,true_and,if_true]
     have hp:partBody v H.length ss []=.ask v ss (.leaf 116) (.leaf 102):=by
      unfold partBody
      rw [List.length_nil,up_zero,renBs_id,etas,List.append_nil]
     rw [hp,List.length_nil,shift_ren,up_zero,renB_id,graftB,graftB,graftB]
     simp only [if_true]
     rw [if_neg (by decide)]
     unfold smallB
     rw [if_pos (by rw [sizeB];omega)]
theorem lams_size:∀ (ts:List Ty) (n:Nat) (b:Tm),sizeTm b≤sizeTm (lamsTm n ts b)
 | [],n,b=>Nat.le_refl _
 | t::ts,n,b=>by have:=lams_size ts (n+1) b;rw [lamsTm,sizeTm];omega
mutual
theorem tmB_size:∀ (b:Bd) (H:List Ty),fitB H b→sizeB b≤sizeTm (tmB H b)
 | .leaf c,H,_=>by rw [tmB,sizeTm,sizeB];omega
 | .ask v ss y n,H,h=>by
   rw [fitB] at h
   obtain ⟨t,ht,h1,h2,h3⟩:=h
   have e:(H[v]?.map Ty.args).getD []=t.args:=by rw [ht];rfl
   have k1:=tmApps_size ss H t.args (.nm (lname v)) h1
   have k2:=tmB_size y H h2
   have k3:=tmB_size n H h3
   rw [tmB,sizeTm,sizeB,e];omega
theorem tmApps_size:∀ (ss:List Bd) (H ts:List Ty) (f:Tm),fitBs (hands H ts) ss→sizeBs ss+sizeTm f≤sizeTm (tmApps H f ts ss)
 | [],H,ts,f,h=>by
   have:=fitBs_length _ _ h
   rw [hands_length] at this
   obtain rfl:ts=[]:=List.eq_nil_of_length_eq_zero this
   rw [tmApps_nil,sizeBs];omega
 | s::ss,H,[],f,h=>by
   have:=fitBs_length _ _ h
   rw [hands_length] at this
   simp at this
 | s::ss,H,t::ts,f,h=>by
   rw [fitBs] at h
   obtain ⟨h',hs',e,f1,f2⟩:=h
   simp only [hands,List.map_cons,List.cons.injEq] at e
   obtain ⟨rfl,rfl⟩:=e
   have k1:=tmApps_size ss H ts (.app f (tmL H t s)) f2
   have k2:=tmB_size s (H++t.args) f1
   have k3:=lams_size t.args H.length (tmB (H++t.args) s)
   rw [sizeTm] at k1
   rw [tmApps_cons,sizeBs]
   unfold tmL at *
   omega
end
theorem term_means {t:Ty} {b:Bd} (hg:Good t b) (h:sizeTm (termOf t b)≤60):typeOf [] (termOf t b)=some t∧meanOf [] (termOf t b)=some b:=by
 have h1:=tmB_size b t.args hg.fit
 have h2:=lams_size t.args 0 (tmB t.args b)
 have e:termOf t b=lamsTm 0 t.args (tmB t.args b):=by unfold termOf tmL;simp
 rw [e] at h
 have h60:sizeB b≤60:=by omega
 exact strat_says (says_all 60) (H:=[]) (ns:=[]) (k:=t) (s:=b) h60 h60 (by simpa using hg.fit) hg.wf Names.nil (by simp) hg.atoms
def plainTm:Tm→Prop
 | .nm x=>leafW x=false
 | .wd w=>nameB w=false
 | .lam x _ t=>leafW x=false∧plainTm t
 | .app m n=>plainTm m∧plainTm n
 | .ite l m n=>plainTm l∧plainTm m∧plainTm n
theorem same_tree:∀ a b:Tm,okTm a→plainTm b→trTm a=trTm b→a=b
 | .nm x,b,ha,hb,h=>by
   cases b with
   | nm y=>simp only [trTm,Tr.am.injEq] at h;rw [h]
   | wd y =>
     simp only [trTm,Tr.am.injEq] at h
     subst h
     have h1:nameB x=true:=ha
     have h2:nameB x=false:=hb
     rw [h1] at h2;simp at h2
   | lam y l u=>simp [trTm] at h
   | app m n=>simp [trTm] at h
   | ite l m n=>simp [trTm] at h
 | .wd x,b,ha,hb,h=>by
   cases b with
   | wd y=>simp only [trTm,Tr.am.injEq] at h;rw [h]
   | nm y =>
     simp only [trTm,Tr.am.injEq] at h
     subst h
     have h1:leafW x=true:=ha
     have h2:leafW x=false:=hb
     rw [h1] at h2;simp at h2
   | lam y l u=>simp [trTm] at h
   | app m n=>simp [trTm] at h
   | ite l m n=>simp [trTm] at h
 | .lam x k t,b,ha,hb,h=>by
   cases b with
   | lam y l u =>
     simp only [trTm,Tr.ls.injEq,List.cons.injEq,Tr.am.injEq,and_true,true_and] at h
     obtain ⟨rfl,hk,ht⟩:=h
     obtain rfl:=textT_inj (show textT k=textT l from by rw [← textTr_T,hk,textTr_T])
     rw [same_tree t u ha.2 hb.2 ht]
   | nm y=>simp [trTm] at h
   | wd y=>simp [trTm] at h
   | app m n=>simp [trTm] at h
   | ite l m n=>simp [trTm,lamW,ifW] at h
 | .app m n,b,ha,hb,h=>by
   cases b with
   | app p q =>
     simp only [trTm,Tr.ls.injEq,List.cons.injEq,and_true,true_and] at h
     rw [same_tree m p ha.1 hb.1 h.1,same_tree n q ha.2 hb.2 h.2]
   | nm y=>simp [trTm] at h
   | wd y=>simp [trTm] at h
   | lam y l u=>simp [trTm] at h
   | ite l m n=>simp [trTm] at h
 | .ite l m n,b,ha,hb,h=>by
   cases b with
   | ite o p q =>
     simp only [trTm,Tr.ls.injEq,List.cons.injEq,and_true,true_and] at h
     rw [same_tree l o ha.1 hb.1 h.1,same_tree m p ha.2.1 hb.2.1 h.2.1,same_tree n q ha.2.2 hb.2.2 h.2.2]
   | nm y=>simp [trTm] at h
   | wd y=>simp [trTm] at h
   | lam y l u=>simp [trTm,lamW,ifW] at h
   | app p q=>simp [trTm] at h
theorem lname_plain (v:Nat):leafW (lname v)=false:=by
 unfold leafW lname
 simp
theorem leaf_plain {c:UInt8} (h:c=116∨c=102∨c=117):nameB [c]=false:=by rcases h with rfl | rfl | rfl <;> decide
theorem lams_plain:∀ (ts:List Ty) (n:Nat) (b:Tm),plainTm b→plainTm (lamsTm n ts b)
 | [],n,b,h=>h
 | t::ts,n,b,h=>⟨lname_plain n,lams_plain ts (n+1) b h⟩
mutual
theorem tmB_plain:∀ (b:Bd) (H:List Ty),wfB b→plainTm (tmB H b)
 | .leaf c,H,h=>by rw [wfB] at h;rw [tmB];exact leaf_plain h
 | .ask v ss y n,H,h=>by
   rw [wfB] at h
   rw [tmB]
   exact ⟨tmApps_plain ss H _ _ h.1 (lname_plain v),tmB_plain y H h.2.1,tmB_plain n H h.2.2⟩
theorem tmApps_plain:∀ (ss:List Bd) (H ts:List Ty) (f:Tm),wfBs ss→plainTm f→plainTm (tmApps H f ts ss)
 | ss,H,[],f,_,hf=>by rw [tmApps];exact hf
 | [],H,t::ts,f,_,hf=>by rw [tmApps];exact hf
 | s::ss,H,t::ts,f,h,hf=>by
   rw [wfBs] at h
   rw [tmApps_cons]
   exact tmApps_plain ss H ts _ h.2 ⟨hf,lams_plain _ _ _ (tmB_plain s _ h.1)⟩
end
theorem definable {s text out:Bs} (h:stratTerm s text=some out):∃ t b,specStrat s text=some b∧s=textT t∧text=textB b∧meaning out=some (t,b):=by
 unfold stratTerm at h
 rw [Option.bind_eq_some_iff] at h
 obtain ⟨b,hb,h⟩:=h
 obtain ⟨hg,ht⟩:=specStrat_good hb
 have hs:=(specType_canon (specStrat_some hb).1).1
 generalize (specType s).1=t at *
 split at h
 ·rename_i hi
  obtain rfl:=Option.some.inj h
  cases hq:implTerm (textTm (termOf t b)) with
  | none=>rw [hq] at hi;simp at hi
  | some u =>
    obtain ⟨e,ho,h60⟩:=implTerm_some hq
    obtain ⟨w1,_⟩:=termOf_good hg
    have hpl:plainTm (termOf t b):=lams_plain _ _ _ (tmB_plain b _ hg.wf)
    obtain rfl:=same_tree u (termOf t b) ho hpl (textTr_inj (okTr_Tm u ho) (okTr_word _ w1) e.symm)
    obtain ⟨m1,m2⟩:=term_means hg h60
    refine ⟨t,b,hb,hs,ht,?_⟩
    unfold meaning
    rw [hq,Option.bind_some,m1,Option.bind_some,m2]
    rfl
 ·simp at h
end Go.Proofs.YtllmjhbopmkpoaaGreatDoor

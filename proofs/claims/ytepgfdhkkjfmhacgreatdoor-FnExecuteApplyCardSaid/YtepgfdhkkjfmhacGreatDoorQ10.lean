/- Walks of functions that the statement reaches, and plain words. No conditions. -/
import Derived.Laws.DeepNot64
import Derived.Deep.RegionLaw
import Derived.Test.YtepgfdhkkjfmhacGreatDoorQ9
set_option linter.unusedVariables false
set_option linter.unusedSimpArgs false
set_option maxHeartbeats 8000000
namespace Go.Proofs.YtepgfdhkkjfmhacGreatDoor
open Go.RowKit
def wR (t:Ty):Prop:=∀ (F:Nat->Prop) (w:World) (v:Value),Rep F w (qg t) v ->
 Calls Tryz.prog 17 #[.agg #[v]] w fun en w'=>en=.returned (str (zM t))/\Below w.heap.size w w'
theorem textT_drop {ts:List Ty} {k:Nat} {t:Ty} (h:ts[k]? = some t):zM (.mk (ts.drop k))=((([40,62,32]++zM t)++[32])++zM (.mk (ts.drop (k+1))))++[41]:=by
 have hk:=(List.getElem?_eq_some_iff.1 h).1
 have e:ts[k]=t:=(List.getElem?_eq_some_iff.1 h).2
 rw [List.drop_eq_getElem_cons hk,jw,e]
 simp
theorem atomsT_drop (ts:List Ty) (k:Nat):zY (.mk (ts.drop k))<=zY (.mk ts):=by
 have:=vA (ts.take k) (ts.drop k)
 rw [List.take_append_drop] at this
 simp only [zY];omega
theorem l1Text_step (t:Ty) (hl:zY t<=1000) (ih:∀ t',zY t'<zY t->wR t'):wR t:=by
 intro F w v hv
 rw [k8] at hv
 obtain ⟨a,cap,e,_,hlen,bJ⟩:=zE hv
 subst e
 have IH:=gl ih;clear ih
 have AT:=gl bJ;clear bJ hlen hv
 have hE:=kN t
 have hlb:t.args.length<=1000:=by have:=zl t.args;omega
 have E1:=gl hE;clear hE
 have HT:Hid (t=.mk t.args):=by show t=_;cases t;rfl
 go_enter Tryz.func17,Tryz.ntmps17
 go_wp2_with fail
 go_loopw [3,4] (fun o i wr=>∃ k:Nat,k<=t.args.length/\i=.int .i64 ((k:Int)-1)/\o=str (zM (.mk (t.args.drop k)))/\Below w.heap.size w wr/\wr.cell? ⟨w.heap.size,0,none⟩=some (.slice a t.args.length cap)) (fun _ i _=>(intOf i+1).toNat)
 case atStart=>exact ⟨t.args.length,g_ _,rfl,by rw [List.drop_length,jx],(hG _ _).alloc (g_ _) _,by simp⟩
 case round =>
  obtain ⟨k,hk,rfl,rfl,hb,hc⟩:=hrel
  cases k with
  | succ k =>
    have lM:(0:Int)<=((k+1:Nat):Int)-1:=by omega
    have oT:((k+1:Nat):Int)-1=(k:Int):=by omega
    have bY:k<t.args.length:=by omega
    have cz:(k:Int)<(t.args.length:Int):=by omega
    obtain ⟨b',o,u,d,eb,_,bj,hd,hu,hr⟩:=AT.out k bY
    subst eb
    rw [qo,Option.map_eq_some_iff] at hd
    obtain ⟨t',d8,rfl⟩:=hd
    obtain ⟨ua,uc,rfl⟩:=zu hr
    have hu':wr.cell? ⟨b',o+k,none⟩=some (.slice ua t'.args.length uc):=by rw [hb.cell bj];exact hu
    have dg:=Rep.below (F':=F) hb (fun _ h=>h) hr
    have hs:=vB d8
    have cI:=jN t.args (k+1)
    have fF:=E1.out
    have IH':=gl (IH.out t' (by omega))
    have l1:=kO 1000 t' (by omega)
    have d1:=atomsT_drop t.args (k+1)
    rw [<- HT.out] at d1
    have l2:=kO 1000 (.mk (t.args.drop (k+1))) (by omega)
    have hx:=textT_drop d8
    obtain ⟨X,hX⟩:=zzN (zM t')
    rw [hX] at hx l1
    have HX:=gl hx
    have HXX:=gl hX
    clear hx hX
    generalize zM (.mk (t.args.drop (k+1)))=R at *
    obtain ⟨O1,h1⟩:=zzM ([40,62,32]++X)
    obtain ⟨O2,h2⟩:=zzM (O1++[32])
    obtain ⟨O3,h3⟩:=zzM (O2++R)
    obtain ⟨O4,h4⟩:=zzM (O3++[41])
    have m1:O1.length=X.length+3:=by rw [h1];simp
    have m2:O2.length=O1.length+1:=by rw [h2];simp
    have m3:O3.length=O2.length+R.length:=by rw [h3];simp
    have fK:=fun w0=>zo (P:=Tryz.prog) [40,62,32] X (by simp;omega) w0
    have fZ:=fun w0=>zo (P:=Tryz.prog) O1 [32] (by simp;omega) w0
    have mK:=fun w0=>zo (P:=Tryz.prog) O2 R (by omega) w0
    have mZ:=fun w0=>zo (P:=Tryz.prog) O3 [41] (by simp;omega) w0
    have H4:Hid (zM (.mk (t.args.drop k))=O4):=by show _=_;rw [HX.out,h4,h3,h2,h1]
    rw [<- h1] at fK;rw [<- h2] at fZ;rw [<- h3] at mK;rw [<- h4] at mZ
    have hz:=hU wr _ hc
    rw [oT]
    clear hs d8 fF hu hr l1 l2 d1 h1 h2 h3 h4 m1 m2 m3 cI oT lM
    go_wp2_with fail
    refine (IH'.out _ _ _ dg).mono ?_
    rintro en w2 ⟨rfl,bZ⟩
    rw [HXX.out]
    have bU:=zzT hb bZ
    have e9:w2.cell? ⟨w.heap.size,0,none⟩=some (.slice (some ⟨b',o,none⟩) t.args.length cap):=by rw [bZ.cell hz];exact hc
    go_wp2_with fail
    go_roundw
    case rel=>exact ⟨k,by omega,rfl,by rw [H4.out],bU,e9⟩
    case measure=>simp [intOf]
  | zero =>
    have lM:¬ (0:Int)<=((0:Nat):Int)-1:=by omega
    go_wp2_with fail
    go_ret
    refine ⟨?_,hb⟩
    have e:zM (.mk t.args)=zM t:=by rw [<- HT.out]
    show Ending.returned (str (zM (.mk t.args)))=_
    rw [e]
theorem xK (n:Nat):∀ t,zY t<=n->n<=1000->wR t:=by
 induction n with
 | zero=>intro t h _;have:=kr t;omega
 | succ n ih=>exact fun t h hn=>l1Text_step t (by omega) (fun t' h'=>ih t' (by omega) (by omega))
def xV (w:World) (a:Option Addr) (xs:List Bs):Prop:=∀ (k:Nat) (s:Bs),xs[k]? = some s->∃ b o,a=some ⟨b,o,none⟩/\w.cell? ⟨b,o+k,none⟩=some (str s)
theorem xV.below {w w':World} {a:Option Addr} {xs:List Bs} (h:xV w a xs) (hb:Below w.heap.size w w'):xV w' a xs:=fun k s hs=>by
 obtain ⟨b,o,e,hc⟩:=h k s hs
 exact ⟨b,o,e,(hb.cell (hU w _ hc)).trans hc⟩
theorem Tryz.infoStr:(Tryz.prog.info? 9).map (fun i=>(i.zero,i.size,i.bytes))=some (some (str []),1,16):=by kernel_rfl
def wrOf (t:Ty) (o:Option Bd):Option Bs:=o.bind fun out=>(zC (zM t) (zO out)).map fun _=>zO out
def TxtPost (o:Option Bs) (w:World) (en:Ending) (w':World):Prop:=en=.returned (.tuple #[str (o.getD []),.bool o.isSome])/\Below w.heap.size w w'
set_option maxRecDepth 100000 in
theorem l4Written_any (F:Nat->Prop) (t:Ty) (o:Option Bd) (tv:Value) (s:Bs) (v:Int) (a1:Option Addr) (n1 c1:Nat) (a2:Option Addr) (n2 c2:Nat) (w:World) (cv:zY t<=15) (ht:Rep F w (qg t) tv)
 (hn:∀ x,o=some x->zH F w (kE x) [str s,.int .i64 v,.slice a1 n1 c1,.slice a2 n2 c2]/\zX x<=1000/\lvB x) :
 Calls Tryz.prog 19 #[.agg #[tv],.agg #[str s,.int .i64 v,.slice a1 n1 c1,.slice a2 n2 c2],.bool o.isSome] w (TxtPost (wrOf t o) w):=by
 obtain ⟨ta,tc,rfl⟩:=zu ht
 obtain ⟨W,hW⟩:=zzN ((w.alloc (.cells #[.slice ta t.args.length tc] 43)).alloc (.cells #[str s,.int .i64 v,.slice a1 n1 c1,.slice a2 n2 c2] 46))
 have bE:Below w.heap.size w W:=by rw [<- hW];exact ((hG _ _).alloc (g_ _) _).alloc (by rw [zK];omega) _
 have bT:W.heap[w.heap.size]? = some (.cells #[.slice ta t.args.length tc] 43 (0,0)):=by rw [<- hW];exact zV (zR _ _)
 have bN:W.heap[w.heap.size+1]? = some (.cells #[str s,.int .i64 v,.slice a1 n1 c1,.slice a2 n2 c2] 46 (0,0)):=by
  have:=zR (w.alloc (.cells #[.slice ta t.args.length tc] 43)) (.cells #[str s,.int .i64 v,.slice a1 n1 c1,.slice a2 n2 c2] 46)
  rw [zK,hW] at this;exact this
 obtain ⟨y0,y1,y2,y3⟩:=qO bN
 have HW:=gl (go hW (go bE (go bT (go bN (go ht hn)))));clear hW bE bT bN ht hn
 cases o with
 | none =>
   simp only [Option.isSome_none]
   go_enter Tryz.func19,Tryz.ntmps19
   go_wp2_with fail
   go_ret2
   have h:=HW.out.2.1
   rw [<- HW.out.1] at h
   exact ⟨rfl,h⟩
 | some x =>
   simp only [Option.isSome_some]
   obtain ⟨AC,hsz,dQ⟩:=HW.out.2.2.2.2.2 x rfl
   have nS:=zH.below (F':=F) HW.out.2.1 (fun _ h=>h) AC
   have C0:=gl (gG (zX x) x (g_ _) (by omega) dQ F W _ _ _ _ nS)
   have hlen:(zO x).length<=12000:=by have:=kz x dQ;omega
   have dP:wrOf t (some x)=(zC (zM t) (zO x)).map fun _=>zO x:=rfl
   obtain ⟨Y,hY⟩:=zzM (zO x)
   rw [<- hY] at C0 hlen dP
   obtain ⟨X,hX⟩:=zzM (zM t)
   have hXl:Lim X.length:=by rw [hX];have:=kO 15 t cv;show _<=_;omega
   have hYl:Lim Y.length:=by show _<=_;omega
   rw [<- hX] at dP
   have HWR:=gl dP
   have HX:=gl (go hX hY);clear AC hsz dQ nS hlen dP hX hY
   go_enter Tryz.func19,Tryz.ntmps19
   go_upto_region 1 with (fail)
   rw [HW.out.1]
   go_wp2_with fail
   (with_reducible refine C0.out.mono ?_)
   rintro en w2 ⟨rfl,bZ⟩
   have aK:Below w.heap.size w w2:=zzT HW.out.2.1 bZ
   have eg:w2.heap[w.heap.size]? = some (.cells #[.slice ta t.args.length tc] 43 (0,0)):=(bZ.block _ (zZ HW.out.2.2.1)).trans HW.out.2.2.1
   have SX:Hid (∀ w',Below w2.heap.size w2 w'->w'.cell? ⟨w.heap.size,0,none⟩=some (.slice ta t.args.length tc)/\True):=by
    show ∀ w',_->_
    intro w' bj
    have h:=(bj.block _ (zZ eg)).trans eg
    exact ⟨by simp [World.cell?,h],trivial⟩
   have C1:Hid (∀ wz,Below w2.heap.size w2 wz->Calls Tryz.prog 17 #[.agg #[.slice ta t.args.length tc]] wz fun en w'=>en=.returned (str X)/\Below wz.heap.size wz w'):=by
    show ∀ wz,_->_
    intro wz hz
    rw [HX.out.1]
    exact xK 15 t cv (by omega) F wz _ (Rep.below (zzT aK hz) (fun _ h=>h) HW.out.2.2.2.2.1)
   have C2:=gl (fun wz=>vN X Y hXl hYl wz)
   have H2:=gl aK
   clear bZ aK eg y0 y1 y2 y3 hXl hYl
   have t2:=(SX.out w2 (hG _ _)).1
   go_wp2_with fail
   (with_reducible refine (C1.out w2 (hG _ _)).mono ?_)
   rintro en w3 ⟨rfl,bU⟩
   have mU:=gl bU;clear bU
   go_wp2_with fail
   (with_reducible refine (C2.out w3).mono ?_)
   rintro en w4 ⟨sa,sc,s',v',mV,fV,mJ,nw,mE,nj,rfl,bS,-,-⟩
   have HB:=gl (H2.out.trans ((zzT mU.out bS).mono H2.out.size));clear bS C0 C1 C2 SX t2
   have FIN:∀ (o o':Obj),Below w.heap.size w ((w4.alloc o).alloc o'):=fun o o'=>(HB.out.alloc HB.out.size _).alloc (by rw [zK];exact Nat.le_succ_of_le HB.out.size) _
   have Cz:=gl FIN;clear FIN
   cases hq:zC X Y with
   | none =>
     have h:=HWR.out
     rw [hq] at h
     simp only [Option.isSome_none]
     have HR:=gl h;clear h hq
     go_wp2_with fail
     go_ret2
     rw [HR.out]
     exact ⟨rfl,Cz.out _ _⟩
   | some b =>
     have h:=HWR.out
     rw [hq] at h
     simp only [Option.isSome_some]
     have HR:=gl h;clear h hq
     go_wp2_with fail
     go_ret2
     rw [HR.out]
     exact ⟨rfl,Cz.out _ _⟩
theorem writes_ok {t:Ty} (ht:zY t<=15) {b:Bd} {env:List Mn} (hf:kn t.args b env []) {x:Bd} (h:qC b env t.args.length=some x):zX x<=1000/\lvB x:=by
 rw [writes_eq] at h
 cases hq:ev 20000 20000 b env t.args.length [] with
 | none=>rw [hq] at h;simp at h
 | some y =>
   obtain ⟨o,l⟩:=y
   rw [hq] at h
   simp only at h
   split at h
   ·rename_i hs
    simp only [Option.some.injEq] at h
    subst h
    have h1:=ev_fit _ _ _ _ _ _ _ _ hf hq
    exact ⟨by omega,fit_lv 200 o t.args hs h1 (zj ht).1 (by have:=(zj ht).2;omega)⟩
   ·simp at h
set_option maxRecDepth 100000 in
theorem pH (s m n:Bs) (hs:Lim s.length) (hm:Lim m.length) (hn:Lim n.length) (w:World) :
 Calls Tryz.prog 6 #[str s,str m,str n] w (TxtPost (ki s m n) w):=by
 have C0:=gl (vN s m hs hm w)
 have HSP:Hid (ki s m n=(zC s m).bind fun b=>match (zW s).1.args with
  | []=>none
  | a::rest=>(zC (zM a) n).bind fun c=>wrOf (.mk rest) (qC b (kR a c rest) rest.length)):=by
  show _=_
  unfold ki wrOf
  cases zC s m with
  | none=>rfl
  | some b=>simp only [Option.bind_some];cases (zW s).1.args <;> rfl
 generalize ki s m n=R at *
 have HG:=gl (fun b (h:zC s m=some b)=>(qS h).1)
 go_enter Tryz.func6,Tryz.ntmps6
 go_wp2_with fail
 (with_reducible refine C0.out.mono ?_)
 rintro en w1 ⟨ta,tc,s1,v1,a2,n2,c2,a3,n3,c3,rfl,bQ,ee,d_⟩
 generalize hT:(zW s).1=t at *
 have HT:=gl hT;clear hT C0
 cases hq:zC s m with
 | none =>
   have hR:R=none:=by rw [HSP.out,hq];rfl
   have HR:=gl hR
   have HB:=gl bQ;clear hR bQ ee d_ hq
   simp only [Option.isSome_none]
   go_wp2_with fail
   go_ret2
   rw [HR.out]
   exact ⟨rfl,(HB.out.alloc HB.out.size _).alloc (by rw [zK];exact Nat.le_succ_of_le HB.out.size) _⟩
 | some b =>
   have hg:=HG.out b hq
   have dp:=d_ b hq
   simp only [Option.isSome_some]
   cases d7:t.args with
   | nil =>
     have hR:R=none:=by rw [HSP.out,hq];simp only [Option.bind_some];rw [d7]
     have HR:=gl hR
     have HB:=gl bQ;clear hR bQ ee d_ hq hg dp d7
     rw [List.length_nil]
     go_wp2_with fail
     go_ret2
     rw [HR.out]
     exact ⟨rfl,(HB.out.alloc HB.out.size _).alloc (by rw [zK];exact Nat.le_succ_of_le HB.out.size) _⟩
   | cons a rest =>
     have bJ:=jB d7
     have cv:=hg.atoms
     have hlen:t.args.length=rest.length+1:=by rw [d7];rfl
     have rP:=ee
     rw [k8] at rP
     obtain ⟨_,_,e,rK,_,eN⟩:=zE rP
     simp only [Value.slice.injEq] at e
     obtain ⟨rfl,_,rfl⟩:=e
     rw [d7] at rP rK eN
     obtain ⟨kb,ko,u,d1,e,oL,lH,fx,ni,be⟩:=eN 0 (by simp)
     subst e
     simp only [kd,List.getElem?_cons_zero,Option.some.injEq] at fx
     subst fx
     obtain ⟨ua,uc,rfl⟩:=zu be
     rw [<- d7,hlen]
     have sJ:w1.cell? ⟨kb,ko,none⟩=some (.slice ua a.args.length uc):=ni
     obtain ⟨W,hW⟩:=zzN ((w1.alloc (.cells #[.slice (some ⟨kb,ko,none⟩) (rest.length+1) tc] 43)).alloc (.cells #[str s1,.int .i64 v1,.slice a2 n2 c2,.slice a3 n3 c3] 46))
     have bE:Below w1.heap.size w1 W:=by rw [<- hW];exact ((hG _ _).alloc (g_ _) _).alloc (by rw [zK];omega) _
     have bT:W.heap[w1.heap.size]? = some (.cells #[.slice (some ⟨kb,ko,none⟩) (rest.length+1) tc] 43 (0,0)):=by rw [<- hW];exact zV (zR _ _)
     have bN:W.heap[w1.heap.size+1]? = some (.cells #[str s1,.int .i64 v1,.slice a2 n2 c2,.slice a3 n3 c3] 46 (0,0)):=by
      have:=zR (w1.alloc (.cells #[.slice (some ⟨kb,ko,none⟩) (rest.length+1) tc] 43)) (.cells #[str s1,.int .i64 v1,.slice a2 n2 c2,.slice a3 n3 c3] 46)
      rw [zK,hW] at this;exact this
     have t0:W.cell? ⟨w1.heap.size,0,none⟩=some (.slice (some ⟨kb,ko,none⟩) (rest.length+1) tc):=by simp [World.cell?,bT]
     have k0:W.cell? ⟨kb,ko,none⟩=some (.slice ua a.args.length uc):=(bE.cell lH).trans sJ
     have htx:=kO 15 a (by omega)
     obtain ⟨X,hX⟩:=zzM (zM a)
     rw [<- hX] at htx
     have hXl:Lim X.length:=by show _<=_;omega
     have C1:=xK 15 a (by omega) (by omega) _ W _ (Rep.below (F':=fun _=>True) bE (fun _ _=>trivial) be)
     rw [<- hX] at C1
     have C1:=gl C1
     have C2:=gl (fun wz=>vN X n hXl hn wz)
     have hR:R=(zC X n).bind fun c=>wrOf (.mk rest) (qC b (kR a c rest) rest.length):=by rw [HSP.out,hq,hX];simp only [Option.bind_some];rw [d7]
     have H1:=gl (go hR (go hW (go bE (go bT (go bN (go bQ (go rP (go rK (go dp (go hg (go d7 (go ee (go hX hlen)))))))))))))
     have h0t:(0:Int)<(rest.length:Int)+1:=by omega
     have rq:(((rest.length:Int)+1) == 0)=false:=by rw [beq_eq_false_iff_ne];omega
     clear hR hW bE bT bN bQ rP rK dp hg d7 d_ hq ni sJ be eN hX htx ee hlen
     go_upto_region 2 with (fail)
     rw [H1.out.2.1]
     go_wp2_with fail
     (with_reducible refine C1.out.mono ?_)
     rintro en w2 ⟨rfl,bZ⟩
     have cw:=gl bZ;clear bZ
     go_wp2_with fail
     (with_reducible refine (C2.out w2).mono ?_)
     rintro en w3 ⟨qa,qc,s',v',b2,p2,d2,b3,p3,d3,rfl,bU,-,i8⟩
     have sS:Below W.heap.size W w3:=zzT cw.out bU
     have fo:Below w.heap.size w w3:=(zzT H1.out.2.2.2.2.2.1 H1.out.2.2.1).trans (sS.mono (h_ H1.out.2.2.2.2.2.1.size H1.out.2.2.1.size))
     cases hq:zC X n with
     | none =>
       have h:=H1.out.1
       rw [hq] at h
       have HR:Hid (R=none):=h
       have HB:=gl fo;clear h hq bU i8 sS fo t0 k0
       simp only [Option.isSome_none]
       go_wp2_with fail
       go_ret2
       rw [HR.out]
       exact ⟨rfl,(HB.out.alloc HB.out.size _).alloc (by rw [zK];exact Nat.le_succ_of_le HB.out.size) _⟩
     | some c =>
       have hrc:=i8 c hq
       have BA:xY a c:=by
        refine (jJ (t:=a) (l:=n) (by have:=H1.out.2.2.2.2.2.2.2.2.2.1.atoms;omega) ?_).1
        rw [vW (by omega),<- H1.out.2.2.2.2.2.2.2.2.2.2.2.2.1];exact hq
       have fp:R=wrOf (.mk rest) (qC b (kR a c rest) rest.length):=by have h:=H1.out.1;rw [hq] at h;exact h
       obtain ⟨W4,cj⟩:=zzN ((w3.alloc (.cells #[.slice qa (zW X).1.args.length qc] 43)).alloc (.cells #[str s',.int .i64 v',.slice b2 p2 d2,.slice b3 p3 d3] 46))
       have bS:Below w3.heap.size w3 W4:=by rw [<- cj];exact ((hG _ _).alloc (g_ _) _).alloc (by rw [zK];omega) _
       have bB:W4.heap[w3.heap.size+1]? = some (.cells #[str s',.int .i64 v',.slice b2 p2 d2,.slice b3 p3 d3] 46 (0,0)):=by
        have:=zR (w3.alloc (.cells #[.slice qa (zW X).1.args.length qc] 43)) (.cells #[str s',.int .i64 v',.slice b2 p2 d2,.slice b3 p3 d3] 46)
        rw [zK,cj] at this;exact this
       have aX:Below W.heap.size W W4:=zzT sS bS
       have ir:Below w1.heap.size w1 W4:=zzT H1.out.2.2.1 aX
       have bT4:=(aX.block _ (zZ H1.out.2.2.2.1)).trans H1.out.2.2.2.1
       have bN4:=(aX.block _ (zZ H1.out.2.2.2.2.1)).trans H1.out.2.2.2.2.1
       have t4:W4.cell? ⟨w1.heap.size,0,none⟩=some (.slice (some ⟨kb,ko,none⟩) (rest.length+1) tc):=by simp [World.cell?,bT4]
       obtain ⟨x0,x1,x2,x3⟩:=qO bN4
       obtain ⟨y0,y1,y2,y3⟩:=qO bB
       have BY:Below w.heap.size w (W4.alloc (.cells #[] 43)):=(zzT fo bS).alloc (h_ fo.size bS.size) _
       have k1:∀ (i:Nat) (o:Obj),w.heap.size<=i->w1.heap[i]? = some o->i<(W4.alloc (.cells #[] 43)).heap.size/\(W4.alloc (.cells #[] 43)).heap[i]? = some o:=fun i o _ ho=>by
        have h:=zV (o:=.cells #[] 43) ((ir.block i (zZ ho)).trans ho)
        exact ⟨zZ h,h⟩
       have hg:=H1.out.2.2.2.2.2.2.2.2.2.1
       have d7:=H1.out.2.2.2.2.2.2.2.2.2.2.1
       have hlen:=H1.out.2.2.2.2.2.2.2.2.2.2.2.2.2
       have cS:kn rest b (kR a c rest) []:=vC BA.fit (by have:=hg.fit;rwa [d7] at this)
       have rD:zY (.mk rest)<=15:=by omega
       have hgm:=(zj rD)
       have C4:=l4Apply_any (fun i=>i<(W4.alloc (.cells #[] 43)).heap.size) t a rest [] b c (.slice (some ⟨kb,ko,none⟩) (rest.length+1) tc) (.slice (some ⟨W4.heap.size,0,none⟩) 0 0) s1 s' v1 v' a2 a3 b2 b3 n2 c2 n3 c3 p2 d2 p3 d3 (W4.alloc (.cells #[] 43))
        { ts:=d7,t15:=cv,bl:=by simp,b15:=by simp,fit:=by rw [jv];exact cS,wm:=hg.wf,wn:=BA.wf,
          rt:=(by have h:=H1.out.2.2.2.2.2.2.2.2.2.2.2.1;rw [hlen] at h;exact (Rep.keep k1).1 _ _ h),rm:=(Rep.keep k1).2 _ _ H1.out.2.2.2.2.2.2.2.2.1,
          rn:=(Rep.keep fun i o _ ho=>(by
           have h:=zV (o:=.cells #[] 43) ((bS.block i (zZ ho)).trans ho)
           exact ⟨zZ h,h⟩)).2 _ _ hrc,
          rb:=zp.2 ⟨by simp [kd],_,_,rfl,g_ _,fun h=>by simp at h,.inl rfl⟩,hF:=fun _ h=>h }
       rw [jv,List.length_nil,Nat.zero_add] at C4
       have C4:=gl C4
       have H4:=gl (go fp (go cj (go BY (go cS (go rD ir)))))
       clear hrc BA fp cj bS bB aX ir bT4 bN4 BY k1 hg d7 hlen cS rD hgm bU i8 sS fo hq t0 k0 cv bJ
       simp only [Option.isSome_some]
       go_upto_region 5 with (fail)
       rw [H4.out.2.1]
       go_wp2_with fail
       (with_reducible refine C4.out.mono ?_)
       rintro en w6 ⟨s6,v6,e1,f1,g1,e2,f2,g2,rfl,bP,dx⟩
       have fE:Below w.heap.size w w6:=zzT H4.out.2.2.1 bP
       have As:Below w1.heap.size w1 w6:=(H4.out.2.2.2.2.2.alloc H4.out.2.2.2.2.2.size _).trans (bP.mono (h_ H4.out.2.2.2.2.2.size (by rw [zK];omega)))
       have t6:w6.cell? ⟨w1.heap.size,0,none⟩=some (.slice (some ⟨kb,ko,none⟩) (rest.length+1) tc):=(bP.cell (hU _ _ (zJ t4))).trans (zJ t4)
       obtain ⟨W7,hW7⟩:=zzN (w6.alloc (.cells #[.string ⟨s6.toArray⟩,.int .i64 v6,.slice e1 f1 g1,.slice e2 f2 g2] 46))
       have bV:Below w6.heap.size w6 W7:=by rw [<- hW7];exact (hG _ _).alloc (g_ _) _
       have bO:W7.heap[w6.heap.size]? = some (.cells #[str s6,.int .i64 v6,.slice e1 f1 g1,.slice e2 f2 g2] 46 (0,0)):=by rw [<- hW7];exact zR _ _
       have t7:W7.cell? ⟨w1.heap.size,0,none⟩=some (.slice (some ⟨kb,ko,none⟩) (rest.length+1) tc):=(bV.cell (hU _ _ t6)).trans t6
       obtain ⟨z0,z1,z2,z3⟩:=qO bO
       have SX:Hid (∀ w',Below W7.heap.size W7 w'->w'.cell? ⟨w1.heap.size,0,none⟩=some (.slice (some ⟨kb,ko,none⟩) (rest.length+1) tc)/\w'.cell? ⟨w6.heap.size,0,none⟩=some (str s6)/\w'.cell? ⟨w6.heap.size,1,none⟩=some (.int .i64 v6)/\w'.cell? ⟨w6.heap.size,2,none⟩=some (.slice e1 f1 g1)/\w'.cell? ⟨w6.heap.size,3,none⟩=some (.slice e2 f2 g2)):=by
        show ∀ w',_->_
        intro w' bj
        exact ⟨(bj.cell (hU _ _ t7)).trans t7,(bj.cell (hU _ _ z0)).trans z0,(bj.cell (hU _ _ z1)).trans z1,(bj.cell (hU _ _ z2)).trans z2,(bj.cell (hU _ _ z3)).trans z3⟩
       have Ac:=gl (zzT fE bV)
       have KEY:Hid (∀ (ra:Option Addr) (rc:Nat),Rep (w.heap.size<=·) w1 (.sl 43 1 rest.length (kd rest)) (.slice ra rest.length rc)->∀ wz,Below W7.heap.size W7 wz ->
        Calls Tryz.prog 19 #[.agg #[.slice ra rest.length rc],.agg #[str s6,.int .i64 v6,.slice e1 f1 g1,.slice e2 f2 g2],.bool (qC b (kR a c rest) rest.length).isSome] wz
         (fun en w'=>en=.returned (.tuple #[str (R.getD []),.bool R.isSome])/\Below wz.heap.size wz w')):=by
        show ∀ _ _,_->∀ _,_->_
        intro ra rc hrr wz hz
        have h6z:Below w6.heap.size w6 wz:=zzT bV hz
        have C:=l4Written_any (fun _=>True) (.mk rest) (qC b (kR a c rest) rest.length) (.slice ra rest.length rc) s6 v6 e1 f1 g1 e2 f2 g2 wz H4.out.2.2.2.2.1
         (by rw [k8];exact (Rep.keep fun i o _ ho=>⟨trivial,by
          have h:=(As.block i (zZ ho)).trans ho
          exact (h6z.block i (zZ h)).trans h⟩).1 _ _ hrr)
         (fun x hx=>⟨(Rep.keep fun i o _ ho=>⟨trivial,(h6z.block i (zZ ho)).trans ho⟩).2 _ _ (dx x hx),writes_ok (t:=.mk rest) H4.out.2.2.2.2.1 H4.out.2.2.2.1 hx⟩)
        rw [<- H4.out.1] at C
        exact C
       have HW7:=gl hW7;clear hW7 bV bO t7 z0 z1 z2 z3
       have eg:¬ tc=1->Rep (w.heap.size<=·) w1 (.sl 43 1 rest.length (kd rest)) (.slice (some ⟨kb,ko+1,none⟩) rest.length (tc-1)):=fun _=>ur (d:=qg a) H1.out.2.2.2.2.2.2.1
       have rK:=H1.out.2.2.2.2.2.2.2.1
       have sq:tc=1->rest.length=0/\Rep (w.heap.size<=·) w1 (.sl 43 1 rest.length (kd rest)) (.slice (some ⟨kb,ko,none⟩) rest.length 0):=fun h=>by
        obtain rfl:rest=[]:=by
         have h1:=rK
         rw [h] at h1
         simp at h1;exact h1
        exact ⟨rfl,zp.2 ⟨by simp [kd],_,_,rfl,Nat.zero_le _,fun h=>by simp at h,.inl rfl⟩⟩
       have htc':rest.length+1<=tc:=by simpa using rK
       clear bP dx fE As rK C1 C2 C4 t6
       have h1l:(1:Int)<=(rest.length:Int)+1:=by omega
       by_cases mS:tc=1
       ·have h:=sq mS
        have CK:=gl (KEY.out _ _ h.2)
        have htc0:(rest.length:Int)=0:=by omega
        subst mS
        clear h sq eg htc' KEY
        go_wp2_with fail
        rw [HW7.out]
        refine wp_region_noPanic ?_
        refine kx (fun w'=>Below W7.heap.size W7 w') (fun _=>false) (by kernel_rfl) ?_
        obtain ⟨x0,mM⟩:=zzN (W7.drew)
        rw [mM]
        have fA:Below W7.heap.size W7 x0:=by rw [<- mM];exact Below.drew (hG _ _)
        clear mM
        refine tk [0,1,2,3,4,5] fA ?_
        (intro d hd;simp [tkD] at hd;subst hd;simp only [tks,pQ,pZ,pS])
        iterate 6 (refine ⟨?_,?_,?_⟩;rotate_left;· (intro oi ho;simp at ho;subst ho;refine Or.inl ⟨by rfl,fun w' cL=>?_⟩;obtain ⟨i0,i1,i2,i3,i4⟩:=SX.out w' cL;go_simp;try with_reducible rfl))
        (refine on 6 ?_;intro o ho K' hK;simp at ho;subst ho;go_simp)
        go_at_call 19
        (with_reducible refine (CK.out x0 fA).mono ?_)
        rintro en x1 ⟨rfl,hb⟩
        have eD:Below W7.heap.size W7 x1:=zzT fA hb
        have hbx1:=gl hb;clear hb
        (refine hK.out _ _ (fun _=>eD) ?_;clear hK K';try simp only [pQ,pN,pZ,pS])
        refine tk [7,8] eD ?_
        (intro d hd;simp [tkD] at hd;subst hd;simp only [tks,pQ,pZ,pS])
        iterate 2 (refine ⟨?_,?_,?_⟩;rotate_left;· (intro oi ho;simp at ho;subst ho;refine Or.inl ⟨by rfl,fun w' cL=>?_⟩;go_simp;try with_reducible rfl))
        (refine on 9 ?_;intro o ho K' hK;simp at ho;subst ho;go_simp)
        (refine hK.out _ _ (fun _=>eD) ?_;clear hK K';try simp only [pQ,pN,pZ,pS])
        (refine on 10 ?_;intro o ho K' hK;simp at ho;subst ho;go_simp)
        (refine hK.out _ _ (fun _=>eD) ?_;clear hK K';try simp only [pQ,pN,pZ,pS])
        refine kQ (by kernel_rfl) (NoPanic.normal ?_) _
        go_wp2_with fail
        go_ret2
        exact ⟨rfl,zzT Ac.out eD⟩
       ·have CK:=gl (KEY.out _ _ (eg mS))
        clear sq eg KEY
        go_wp2_with fail
        rw [HW7.out]
        refine wp_region_noPanic ?_
        refine kx (fun w'=>Below W7.heap.size W7 w') (fun _=>false) (by kernel_rfl) ?_
        obtain ⟨x0,mM⟩:=zzN (W7.drew)
        rw [mM]
        have fA:Below W7.heap.size W7 x0:=by rw [<- mM];exact Below.drew (hG _ _)
        clear mM
        refine tk [0,1,2,3,4,5] fA ?_
        (intro d hd;simp [tkD] at hd;subst hd;simp only [tks,pQ,pZ,pS])
        iterate 6 (refine ⟨?_,?_,?_⟩;rotate_left;· (intro oi ho;simp at ho;subst ho;refine Or.inl ⟨by rfl,fun w' cL=>?_⟩;obtain ⟨i0,i1,i2,i3,i4⟩:=SX.out w' cL;go_simp;try with_reducible rfl))
        (refine on 6 ?_;intro o ho K' hK;simp at ho;subst ho;go_simp)
        go_at_call 19
        (with_reducible refine (CK.out x0 fA).mono ?_)
        rintro en x1 ⟨rfl,hb⟩
        have eD:Below W7.heap.size W7 x1:=zzT fA hb
        have hbx1:=gl hb;clear hb
        (refine hK.out _ _ (fun _=>eD) ?_;clear hK K';try simp only [pQ,pN,pZ,pS])
        refine tk [7,8] eD ?_
        (intro d hd;simp [tkD] at hd;subst hd;simp only [tks,pQ,pZ,pS])
        iterate 2 (refine ⟨?_,?_,?_⟩;rotate_left;· (intro oi ho;simp at ho;subst ho;refine Or.inl ⟨by rfl,fun w' cL=>?_⟩;go_simp;try with_reducible rfl))
        (refine on 9 ?_;intro o ho K' hK;simp at ho;subst ho;go_simp)
        (refine hK.out _ _ (fun _=>eD) ?_;clear hK K';try simp only [pQ,pN,pZ,pS])
        (refine on 10 ?_;intro o ho K' hK;simp at ho;subst ho;go_simp)
        (refine hK.out _ _ (fun _=>eD) ?_;clear hK K';try simp only [pQ,pN,pZ,pS])
        refine kQ (by kernel_rfl) (NoPanic.normal ?_) _
        go_wp2_with fail
        go_ret2
        exact ⟨rfl,zzT Ac.out eD⟩
theorem i64_xor_nat (a b:Nat) (ha:a<9223372036854775808) (hb:b<9223372036854775808):bits .xor .i64 (a:Int) (b:Int)=((a ^^^ b:Nat):Int):=by
 have hx:a ^^^ b<2 ^ 63:=Nat.xor_lt_two_pow (by omega) (by omega)
 show IntKind.i64.wrap ((BitVec.ofInt 64 (a:Int) ^^^ BitVec.ofInt 64 (b:Int)).toNat:Int)=_
 rw [BitVec.toNat_xor,ofInt_u64 a (by omega),ofInt_u64 b (by omega)]
 generalize a ^^^ b=x at *
 simp [IntKind.wrap,IntKind.bits,IntKind.signed]
 omega
def kt (w:World) (rd P:Nat):Prop :=
 ∃ (a:Option Addr) (n c p:Nat),w.heap[rd]? = some (.cells #[.slice a n c,.int .i64 (p:Nat)] 75 (0,0))/\p<=P/\n<=2000 /\
   (n=0\/∃ b o,a=some ⟨b,o,none⟩/\b<rd/\∀ k,k<n->∃ x:Nat,x<256/\w.cell? ⟨b,o+k,none⟩=some (.int .u8 x))
theorem kt.lt {w:World} {rd P:Nat} (h:kt w rd P):rd<w.heap.size:=by
 obtain ⟨a,n,c,p,h1,_⟩:=h;exact zZ h1
theorem kt.mono {w:World} {rd P Q:Nat} (h:kt w rd P) (k:P<=Q):kt w rd Q:=by
 obtain ⟨a,n,c,p,h1,h2,h3⟩:=h;exact ⟨a,n,c,p,h1,h_ h2 k,h3⟩
theorem kt.below {w w':World} {rd P:Nat} (h:kt w rd P) (hb:Below w.heap.size w w'):kt w' rd P:=by
 obtain ⟨a,n,c,p,h1,h2,h3,h4⟩:=h
 refine ⟨a,n,c,p,(hb.block _ (zZ h1)).trans h1,h2,h3,?_⟩
 rcases h4 with h4 | ⟨b,o,e,hne,hk⟩
 ·exact .inl h4
 ·refine .inr ⟨b,o,e,hne,fun k nI=>?_⟩
  obtain ⟨x,hx,hc⟩:=hk k nI
  exact ⟨x,hx,(hb.cell (hU w _ hc)).trans hc⟩
theorem kt.but {m:Nat->Prop} {w w':World} {rd P:Nat} (h:kt w rd P) (hb:But m w w') (hm:∀ i,i<=rd->¬ m i):kt w' rd P:=by
 obtain ⟨a,n,c,p,h1,h2,h3,h4⟩:=h
 refine ⟨a,n,c,p,(hb.block _ (zZ h1) (hm _ (g_ _))).trans h1,h2,h3,?_⟩
 rcases h4 with h4 | ⟨b,o,e,hne,hk⟩
 ·exact .inl h4
 ·refine .inr ⟨b,o,e,hne,fun k nI=>?_⟩
  obtain ⟨x,hx,hc⟩:=hk k nI
  exact ⟨x,hx,(hb.cell (hU w _ hc) (hm _ (Nat.le_of_lt hne))).trans hc⟩
theorem kt.drew {w:World} {rd P:Nat} (h:kt w rd P):kt w.drew rd P:=h
theorem kt.drewN {w:World} {rd P:Nat} (h:kt w rd P) (n:Nat):kt (w.drewN n) rd P:=h
theorem kt.alloc {w:World} {rd P:Nat} (h:kt w rd P) (o:Obj):kt (w.alloc o) rd P:=h.below ((hG _ _).alloc (g_ _) _)
theorem below_dN_but {m:Nat->Prop} {a w:World} (h:But m a w) (n:Nat):But m a (w.drewN n):=⟨h.os,h.tape,h.output,h.size,h.block⟩
def Picked (rd P n:Nat) (w:World) (en:Ending) (w':World):Prop :=
 ∃ v:Nat,en=.returned (.int .i64 (v:Nat))/\v<n/\But (· = rd) w w'/\kt w' rd (P+1)
theorem vV {z:Int} {n:Nat} (e:z=(n:Int)) (h:n<9223372036854775808):IntKind.i64.wrap z=(n:Int):=by rw [e];exact vD n h
structure Mix (p m x1 x2 n:Nat) (I A B C J D E G H Q R X Y Z V:Nat):Prop where
 i:(p:Int).tmod (m:Int)=(I:Int)
 a:IntKind.i64.wrap ((x1:Int)*131)=(A:Int)
 b:IntKind.i64.wrap ((p:Int)*7)=(B:Int)
 c:IntKind.i64.wrap ((B:Int)+3)=(C:Int)
 j:(C:Int).tmod (m:Int)=(J:Int)
 d:IntKind.i64.wrap ((x2:Int)*1117)=(D:Int)
 e:IntKind.i64.wrap ((A:Int)+(D:Int))=(E:Int)
 g:IntKind.i64.wrap ((p:Int)*29)=(G:Int)
 h:IntKind.i64.wrap ((E:Int)+(G:Int))=(H:Int)
 q:(p:Int).tdiv (m:Int)=(Q:Int)
 r:IntKind.i64.wrap ((Q:Int)*53)=(R:Int)
 x:IntKind.i64.wrap ((H:Int)+(R:Int))=(X:Int)
 y:(X:Int).tdiv 64=(Y:Int)
 z:bits .xor .i64 (X:Int) (Y:Int)=(Z:Int)
 v:(Z:Int).tmod (n:Int)=(V:Int)
 vn:V<n
 wq:IntKind.i64.wrap (Q:Int)=(Q:Int)
 wy:IntKind.i64.wrap (Y:Int)=(Y:Int)
theorem mix_any (p m x1 x2 n:Nat) (hp:p<=1099511627776) (eI:x1<256) (dI:x2<256) (hn:0<n) :
 ∃ A B D E G H Q R X Y Z V:Nat,Mix p m x1 x2 n (p % m) A B (p*7+3) ((p*7+3) % m) D E G H Q R X Y Z V:=by
 have hq:p / m<=p:=Nat.div_le_self _ _
 have hX:x1*131+x2*1117+p*29+p / m*53<9223372036854775808:=by omega
 have hY:(x1*131+x2*1117+p*29+p / m*53) / 64<9223372036854775808:=by omega
 refine ⟨x1*131,p*7,x2*1117,x1*131+x2*1117,p*29,x1*131+x2*1117+p*29,p / m,p / m*53,x1*131+x2*1117+p*29+p / m*53,(x1*131+x2*1117+p*29+p / m*53) / 64,(x1*131+x2*1117+p*29+p / m*53) ^^^ ((x1*131+x2*1117+p*29+p / m*53) / 64),((x1*131+x2*1117+p*29+p / m*53) ^^^ ((x1*131+x2*1117+p*29+p / m*53) / 64)) % n,?_⟩
 exact ⟨uQ _ _,vV (by omega) (by omega),vV (by omega) (by omega),vV (by omega) (by omega),uQ _ _,vV (by omega) (by omega),vV (by omega) (by omega),vV (by omega) (by omega),vV (by omega) (by omega),
  xG _ _,vV (by omega) (by omega),vV (by omega) hX,xG _ 64,i64_xor_nat _ _ hX hY,uQ _ _,Nat.mod_lt _ hn,vD _ (by omega),vD _ hY⟩
set_option maxRecDepth 100000 in
theorem jz (rd P n:Nat) (w:World) (h:kt w rd P) (hn:0<n) (dK:n<=16777216) (hP:P<=1099511627776) :
 Calls Tryz.prog 14 #[.pointer (some ⟨rd,0,none⟩),.int .i64 (n:Nat)] w (Picked rd P n w):=by
 obtain ⟨a,m,c,p,h1,hp,hm,hcs⟩:=h
 have hpP:p<=1099511627776:=by omega
 have c0:w.cell? ⟨rd,0,none⟩=some (.slice a m c):=by simp [World.cell?,h1]
 have c1:w.cell? ⟨rd,1,none⟩=some (.int .i64 (p:Nat)):=by simp [World.cell?,h1]
 have f1:w.frozen? ⟨rd,1,none⟩=false:=by simp [World.frozen?,h1]
 have bY:=zZ h1
 obtain ⟨W,hW⟩:=zzN (w.setCell ⟨rd,1,none⟩ (.int .i64 ((p:Int)+1)))
 have bD:W.heap[rd]? = some (.cells #[.slice a m c,.int .i64 ((p+1:Nat):Int)] 75 (0,0)):=by
  have h':w.heap[rd]=.cells #[.slice a m c,.int .i64 (p:Nat)] 75 (0,0):=by simpa [Array.getElem?_eq_getElem bY] using h1
  rw [<- hW]
  show (w.heap.modify rd _)[rd]? = _
  rw [Array.getElem?_eq_getElem (by simpa using bY),Array.getElem_modify_self,h']
  simp
 have cf:But (· = rd) w W:=by rw [<- hW];exact (But.refl (· = rd) _).setCell (p:=⟨rd,1,none⟩) (.inl rfl) _
 have d0:W.cell? ⟨rd,0,none⟩=some (.slice a m c):=by simp [World.cell?,bD]
 have d1:W.cell? ⟨rd,1,none⟩=some (.int .i64 ((p:Int)+1)):=by simp [World.cell?,bD]
 have dz:kt W rd (P+1):=by
  refine ⟨a,m,c,p+1,bD,by omega,hm,?_⟩
  rcases hcs with h4 | ⟨b,o,e,hne,hk⟩
  ·exact .inl h4
  ·refine .inr ⟨b,o,e,hne,fun k nI=>?_⟩
   obtain ⟨x,hx,hc⟩:=hk k nI
   exact ⟨x,hx,(cf.cell (hU w _ hc) (fun e=>Nat.ne_of_lt hne e)).trans hc⟩
 have RD:=gl dz;have BT:=gl cf
 have g0:¬ (n:Int)<1:=by omega
 have gn:((n:Int) == 0)=false:=by rw [beq_eq_false_iff_ne];omega
 have hWb:∀ (b o:Nat) (v:Value),b≠rd->w.cell? ⟨b,o,none⟩=some v->W.cell? ⟨b,o,none⟩=some v:=fun b o v hne hc =>
  (cf.cell (p:=⟨b,o,none⟩) (hU w ⟨b,o,none⟩ hc) (fun e=>hne e)).trans hc
 have WB:=gl hWb;have oV:=gl hcs;have HW:=gl hW
 clear dz cf h1 bD hWb hcs hW
 go_enter Tryz.func14,Tryz.ntmps14
 go_upto_region 2 with (fail)
 rw [HW.out]
 clear c0 c1 f1
 rcases oV.out with h0 | ⟨b,o,e,hne,hk⟩
 ·subst h0
  go_wp2_with fail
  go_ret
  exact ⟨0,rfl,hn,BT.out,RD.out⟩
 ·subst e
  have HK:=gl hk;clear hk
  by_cases hm0:m=0
  ·subst hm0
   go_wp2_with fail
   go_ret
   exact ⟨0,rfl,hn,BT.out,RD.out⟩
  have gm:((m:Int) == 0)=false:=by rw [beq_eq_false_iff_ne];omega
  by_cases hpm:p<m
  ·obtain ⟨x,hx,hc⟩:=HK.out p hpm
   have e1:=WB.out _ _ _ (Nat.ne_of_lt hne) hc
   have hpm':(p:Int)<(m:Int):=by omega
   have et:(x:Int).tmod (n:Int)=((x % n:Nat):Int):=uQ _ _
   have hv:x % n<n:=Nat.mod_lt _ hn
   have HV:=gl hv;clear hv hc
   go_wp2_with fail
   go_ret
   exact ⟨x % n,rfl,HV.out,BT.out,RD.out⟩
  ·have hpm':¬ (p:Int)<(m:Int):=by omega
   obtain ⟨x1,eI,ca⟩:=HK.out (p % m) (Nat.mod_lt _ (by omega))
   obtain ⟨x2,dI,e9⟩:=HK.out ((p*7+3) % m) (Nat.mod_lt _ (by omega))
   have e1:=WB.out _ _ _ (Nat.ne_of_lt hne) ca
   have e2:=WB.out _ _ _ (Nat.ne_of_lt hne) e9
   obtain ⟨A,B,D,E,G,H,Q,R,X,Y,Z,V,M⟩:=mix_any p m x1 x2 n hpP eI dI hn
   have hI:p % m<m:=Nat.mod_lt _ (by omega)
   have hJ:(p*7+3) % m<m:=Nat.mod_lt _ (by omega)
   generalize p % m=I at *
   generalize (p*7+3) % m=J at *
   generalize p*7+3=C at *
   have hI':(I:Int)<(m:Int):=by omega
   have hJ':(J:Int)<(m:Int):=by omega
   have q1:=M.i;have q2:=M.a;have q3:=M.b;have q4:=M.c;have q5:=M.j;have q6:=M.d;have q7:=M.e;have q8:=M.g;have q9:=M.h
   have oW:=M.q;have oX:=M.r;have oY:=M.x;have q13:=M.y;have q14:=M.z;have q15:=M.v;have q16:=M.wq;have q17:=M.wy
   have MV:=gl M.vn
   clear ca e9 M
   go_wp2_with fail
   go_quiet (fail)
   go_wp2_with fail
   go_ret
   exact ⟨V,rfl,MV.out,below_dN_but BT.out _,RD.out.drewN _⟩
def yZ (w:World) (rd:Nat) (l:Value) (xs:List Bs):Prop :=
 ∃ b o c,l=.slice (some ⟨b,o,none⟩) xs.length c/\b≠rd/\∀ (k:Nat) (s:Bs),xs[k]? = some s->w.cell? ⟨b,o+k,none⟩=some (str s)
theorem yZ.new {w:World} {rd:Nat} (dz:rd<w.heap.size) (xs:List Bs) (n:Nat) (hn:n=xs.length) (e:TypeId):yZ (w.alloc (.cells (xs.map str).toArray e)) rd (.slice (some ⟨w.heap.size,0,none⟩) n n) xs:=by
 subst hn
 refine ⟨w.heap.size,0,_,rfl,by omega,fun k s hs=>?_⟩
 rw [Nat.zero_add]
 simp only [World.cell?,zR]
 simp [hs]
def Took (rd P:Nat) (xs:List Bs) (w:World) (en:Ending) (w':World):Prop :=
 ∃ s∈xs,en=.returned (str s)/\But (· = rd) w w'/\kt w' rd P
theorem wU (rd P:Nat) (l:Value) (xs:List Bs) (w:World) (h:kt w rd P) (hl:yZ w rd l xs) (hx:0<xs.length) (dI:xs.length<=16777216) (hP:P<=1099511627776) :
 Calls Tryz.prog 33 #[.pointer (some ⟨rd,0,none⟩),l] w (Took rd (P+1) xs w):=by
 obtain ⟨b,o,c,rfl,hne,hk⟩:=hl
 have HK:=gl hk;clear hk
 go_enter Tryz.func33,Tryz.ntmps33
 go_wp2_with fail
 refine (jz rd P xs.length w h hx dI hP).mono ?_
 rintro en w1 ⟨v,rfl,hv,hb,hr⟩
 obtain ⟨s,hs⟩:∃ s,xs[v]? = some s:=⟨xs[v],by simp [hv]⟩
 have hc:=HK.out v s hs
 have ca:w1.cell? ⟨b,o+v,none⟩=some (str s):=(hb.cell (p:=⟨b,o+v,none⟩) (hU w ⟨b,o+v,none⟩ hc) (fun e=>hne e)).trans hc
 have At:(v:Int)<(xs.length:Int):=by omega
 have HM:=gl (List.mem_of_getElem? hs)
 clear hs hc
 go_wp2_with fail
 go_ret
 exact ⟨s,HM.out,rfl,hb,hr⟩
def jQ:List Bs:=[[98],[40,62,32,98,32,98,41],[40,62,32,98,32,40,62,32,98,32,98,41,41],[40,62,32,40,62,32,98,32,98,41,32,98,41],[40,62,32,40,62,32,98,32,98,41,32,40,62,32,98,32,98,41,41],[40,62,32,40,62,32,40,62,32,98,32,98,41,32,98,41,32,98,41],[40,62,32,40,62,32,98,32,40,62,32,98,32,98,41,41,32,98,41],[40,62,32,98,32,40,62,32,40,62,32,98,32,98,41,32,98,41,41]]
def yB:List Bs:=[[],[99],[40,62,32,98,41],[40,62,32,32,98,32,98,41],[40,62,32,98,32,98,32,98,41],[98,32],[40,62,32,40,62,32,40,62,32,40,62,32,98,32,98,41,32,40,62,32,98,32,98,41,41,32,40,62,32,98,32,98,41,41,32,40,62,32,98,32,40,62,32,98,32,98,41,41,41]]
def yO:List Bs:=[[],[120],[40,48,32,116,41],[40,57,32,116,32,102,41],[40,48,32,32,116,32,102,41],[40,48,48,32,116,32,102,41],[117,32],[40,48,32,116,32,102,32,116,32,102,41]]
def k9:List Bs:=[[116],[102],[116],[102],[117]]
set_option maxRecDepth 100000 in
theorem wh (rd P:Nat) (w:World) (h:kt w rd P) (hP:P<=1099511627776) :
 Calls Tryz.prog 31 #[.pointer (some ⟨rd,0,none⟩)] w (Took rd (P+1) jQ w):=by
 have bY:=h.lt
 go_enter Tryz.func31,Tryz.ntmps31
 go_wp2_with fail
 refine (wU rd P _ jQ _ (h.alloc _) (yZ.new bY jQ 8 rfl _) (by decide) (by decide) hP).mono ?_
 rintro en w1 ⟨s,hs,rfl,hb,hr⟩
 have HM:=gl hs;clear hs
 go_wp2_with fail
 go_ret
 exact ⟨s,HM.out,rfl,((But.refl _ w).alloc _).trans hb,hr⟩
set_option maxRecDepth 100000 in
theorem l91Odd_any (rd P:Nat) (w:World) (h:kt w rd P) (hP:P+1<=1099511627776) :
 Calls Tryz.prog 32 #[.pointer (some ⟨rd,0,none⟩)] w (Took rd (P+2) (jQ++yB) w):=by
 go_enter Tryz.func32,Tryz.ntmps32
 go_wp2_with fail
 refine (jz rd P 12 w h (by omega) (by omega) (by omega)).mono ?_
 rintro en w1 ⟨v,rfl,hv,bQ,cK⟩
 have bY:=cK.lt
 by_cases er:v=0
 ·subst er
  go_wp2_with fail
  refine (wU rd (P+1) _ yB _ (cK.alloc _) (yZ.new bY yB 7 rfl _) (by decide) (by decide) hP).mono ?_
  rintro en w2 ⟨s,hs,rfl,hb,hr⟩
  have HM:=gl hs;clear hs
  go_wp2_with fail
  go_ret
  exact ⟨s,List.mem_append_right _ HM.out,rfl,(bQ.alloc _).trans hb,hr⟩
 ·have co:((v:Int) == 0)=false:=by rw [beq_eq_false_iff_ne];omega
  go_wp2_with fail
  refine (wh rd (P+1) w1 cK hP).mono ?_
  rintro en w2 ⟨s,hs,rfl,hb,hr⟩
  have HM:=gl hs;clear hs
  go_wp2_with fail
  go_ret
  exact ⟨s,List.mem_append_left _ HM.out,rfl,bQ.trans hb,hr⟩
theorem zm.storeB {ob:Nat} {v:Int} {ks ys:Value} {w:World} (h:zm ob v ks ys w) (u0 u1 u2 u3:Value) :
 ∃ W,W=((((w.setCell ⟨ob,0,none⟩ u0).setCell ⟨ob,1,none⟩ u1).setCell ⟨ob,2,none⟩ u2).setCell ⟨ob,3,none⟩ u3) /\
   W.cell? ⟨ob,0,none⟩=some u0/\W.cell? ⟨ob,1,none⟩=some u1/\W.cell? ⟨ob,2,none⟩=some u2/\W.cell? ⟨ob,3,none⟩=some u3 /\
   (∀ (m:Nat->Prop) w0,But m w0 w->w0.heap.size<=ob->But m w0 W)/\(∀ i x,i≠ob->w.heap[i]? = some x->W.heap[i]? = some x)/\(∀ rd P,rd<ob->kt w rd P->kt W rd P):=by
 obtain ⟨W,hW,s0,s1,s2,s3,_,hk⟩:=h.store u0 u1 u2 u3
 have hB:∀ (m:Nat->Prop) w0,But m w0 w->(m ob\/w0.heap.size<=ob)->But m w0 W:=by
  intro m w0 hb ho
  rw [hW]
  exact ((((hb.setCell (p:=⟨ob,0,none⟩) ho _).setCell (p:=⟨ob,1,none⟩) ho _).setCell (p:=⟨ob,2,none⟩) ho _).setCell (p:=⟨ob,3,none⟩) ho _)
 refine ⟨W,hW,s0,s1,s2,s3,fun m w0 hb ho=>hB m w0 hb (.inr ho),hk,fun rd P bY hr=>?_⟩
 exact hr.but (hB (· = ob) w (But.refl _ _) (.inl rfl)) (fun i hi e=>by omega)
structure pY (w:World) (rd ob Z:Nat) (v:Int) (wr:World) (pk py:List Bd) (kv yv:List Value) (ks:Value) (nk:Nat) (ys:Value) (ny:Nat):Prop where
 hnk:nk=pk.length
 hny:ny=py.length
 ksl:∃ a c,ks=.slice a nk c
 ysl:∃ a c,ys=.slice a ny c
 but:But (· = rd) w wr
 res:zm w.heap.size 0 (.slice none 0 0) (.slice none 0 0) wr
 out:zm ob v ks ys wr
 ownK:Own wr 46 4 ks nk kv
 ownY:Own wr 46 4 ys ny yv
 blkK:∀ g,ks.ownBlock=some g->Z<=g/\ys.ownBlock≠some g
 blkY:∀ g,ys.ownBlock=some g->Z<=g
 repK:zH (fun b=>Z<=b/\ks.ownBlock≠some b/\ys.ownBlock≠some b) wr (zn pk) kv
 repY:zH (fun b=>Z<=b/\ks.ownBlock≠some b/\ys.ownBlock≠some b) wr (zn py) yv
 z:Z<=wr.heap.size
theorem pY.kid {w:World} {rd ob Z:Nat} {v:Int} {wr:World} {pk py:List Bd} {kv yv:List Value} {ks ys:Value} {nk ny:Nat}
 (h:pY w rd ob Z v wr pk py kv yv ks nk ys ny) (dz:rd<w.heap.size) (tz:ob<Z) (hwo:w.heap.size<ob) {W w7:World} {b:Bd} {cs:List Value} {a':Option Addr} {c':Nat}
 (bP:But (· = rd) wr W) (hcs:zH (wr.heap.size<=·) W (kE b) cs) (bA:Own w7 46 4 (.slice a' (nk+1) c') (nk+1) (kv++cs)) (bV:But (fun i=>ks.ownBlock=some i) W w7)
 (bH:∀ g,(Value.slice a' (nk+1) c').ownBlock=some g->ks.ownBlock=some g\/g=W.heap.size) :
 pY w rd ob Z v (w7.setCell ⟨ob,2,none⟩ (.slice a' (nk+1) c')) (pk++[b]) py (kv++cs) yv (.slice a' (nk+1) c') (nk+1) ys ny:=by
 have z6:=bP.size
 have z7:=bV.size
 have zr:=h.z
 have zb:=h.but.size
 have keep:∀ i x,wr.heap[i]? = some x->ks.ownBlock≠some i->i≠ob->i≠rd->(w7.setCell ⟨ob,2,none⟩ (.slice a' (nk+1) c')).heap[i]? = some x:=by
  intro i x hx h1 h2 h3
  have:=zZ hx
  rw [hH _ _ _ _ (by simpa using h2),bV.block i (by omega) h1,bP.block i this h3];exact hx
 have cM:∀ i x,W.heap[i]? = some x->ks.ownBlock≠some i->i≠ob->(w7.setCell ⟨ob,2,none⟩ (.slice a' (nk+1) c')).heap[i]? = some x:=by
  intro i x hx h1 h2
  have:=zZ hx
  rw [hH _ _ _ _ (by simpa using h2),bV.block i (by omega) h1];exact hx
 have ltK:∀ g,ks.ownBlock=some g->g<wr.heap.size:=fun g hg=>h.ownK.lt hg
 have ltY:∀ g,ys.ownBlock=some g->g<wr.heap.size:=fun g hg=>h.ownY.lt hg
 have nK:∀ i,i<Z->ks.ownBlock≠some i:=fun i hi e=>by have:=(h.blkK i e).1;omega
 have newg:∀ g,(Value.slice a' (nk+1) c').ownBlock=some g->Z<=g:=fun g hg=>by
  rcases bH g hg with e | e
  ·exact (h.blkK g e).1
  ·omega
 refine ⟨by simp [h.hnk],h.hny,⟨_,_,rfl⟩,h.ysl,?_,?_,?_,?_,?_,?_,h.blkY,?_,?_,by simp [World.setCell];omega⟩
 ·refine But.setCell ?_ (.inr (show w.heap.size<=ob by omega)) _
  exact (h.but.trans bP).trans' bV (fun i hi e=>absurd e (nK i (by omega)))
 ·exact keep _ _ h.res (nK _ (by omega)) (by omega) (by omega)
 ·have h1:zm ob v ks ys w7:=by
   unfold zm;rw [bV.block ob (by omega) (nK _ tz),bP.block ob (by omega) (show ¬ ob=rd by omega)];exact h.out
  exact h1.put2
 ·exact bA.keep fun g o hg ho=>by rw [hH _ _ _ _ (by have:=newg g hg;simp;omega)];exact ho
 ·exact h.ownY.keep fun g o hg ho=>keep g o ho (fun e=>(h.blkK g e).2 hg) (by have:=h.blkY g hg;omega) (by have:=h.blkY g hg;omega)
 ·intro g hg
  refine ⟨newg g hg,fun e=>?_⟩
  rcases bH g hg with e' | e'
  ·exact (h.blkK g e').2 e
  ·have:=ltY g e;omega
 ·rw [qw]
  have h1:=h.repK
  refine zH.append ((Rep.keep fun i x hi hx=>⟨⟨hi.1,fun e=>(bH i e).elim (fun e'=>hi.2.1 e') (fun e'=>by have:=zZ hx;omega),hi.2.2⟩,keep i x hx hi.2.1 (by have:=hi.1;omega) (by have:=hi.1;omega)⟩).2 _ _ h1) ?_
  ·have e1:zn [b]=kE b:=by simp [zn]
   rw [e1]
   refine (Rep.keep fun i x hi hx=>?_).2 _ _ hcs
   have h2:=zZ hx
   have h3:wr.heap.size<=i:=hi
   refine ⟨⟨by omega,fun e=>?_,fun e=>by have:=ltY i e;omega⟩,cM i x hx (fun e=>by have:=ltK i e;omega) (by omega)⟩
   rcases bH i e with e' | e'
   ·have:=ltK i e';omega
   ·omega
 ·exact (Rep.keep fun i x hi hx=>⟨⟨hi.1,fun e=>(bH i e).elim (fun e'=>hi.2.1 e') (fun e'=>by have:=zZ hx;omega),hi.2.2⟩,keep i x hx hi.2.1 (by have:=hi.1;omega) (by have:=hi.1;omega)⟩).2 _ _ h.repY
theorem pY.yes {w:World} {rd ob Z:Nat} {v:Int} {wr:World} {pk py:List Bd} {kv yv:List Value} {ks ys:Value} {nk ny:Nat}
 (h:pY w rd ob Z v wr pk py kv yv ks nk ys ny) (dz:rd<w.heap.size) (tz:ob<Z) (hwo:w.heap.size<ob) {W w7:World} {b:Bd} {cs:List Value} {a':Option Addr} {c':Nat}
 (bP:But (· = rd) wr W) (hcs:zH (wr.heap.size<=·) W (kE b) cs) (bA:Own w7 46 4 (.slice a' (ny+1) c') (ny+1) (yv++cs)) (bV:But (fun i=>ys.ownBlock=some i) W w7)
 (bH:∀ g,(Value.slice a' (ny+1) c').ownBlock=some g->ys.ownBlock=some g\/g=W.heap.size) :
 pY w rd ob Z v (w7.setCell ⟨ob,3,none⟩ (.slice a' (ny+1) c')) pk (py++[b]) kv (yv++cs) ks nk (.slice a' (ny+1) c') (ny+1):=by
 have z6:=bP.size
 have z7:=bV.size
 have zr:=h.z
 have zb:=h.but.size
 have keep:∀ i x,wr.heap[i]? = some x->ys.ownBlock≠some i->i≠ob->i≠rd->(w7.setCell ⟨ob,3,none⟩ (.slice a' (ny+1) c')).heap[i]? = some x:=by
  intro i x hx h1 h2 h3
  have:=zZ hx
  rw [hH _ _ _ _ (by simpa using h2),bV.block i (by omega) h1,bP.block i this h3];exact hx
 have cM:∀ i x,W.heap[i]? = some x->ys.ownBlock≠some i->i≠ob->(w7.setCell ⟨ob,3,none⟩ (.slice a' (ny+1) c')).heap[i]? = some x:=by
  intro i x hx h1 h2
  have:=zZ hx
  rw [hH _ _ _ _ (by simpa using h2),bV.block i (by omega) h1];exact hx
 have ltK:∀ g,ks.ownBlock=some g->g<wr.heap.size:=fun g hg=>h.ownK.lt hg
 have ltY:∀ g,ys.ownBlock=some g->g<wr.heap.size:=fun g hg=>h.ownY.lt hg
 have nY:∀ i,i<Z->ys.ownBlock≠some i:=fun i hi e=>by have:=h.blkY i e;omega
 have newg:∀ g,(Value.slice a' (ny+1) c').ownBlock=some g->Z<=g:=fun g hg=>by
  rcases bH g hg with e | e
  ·exact h.blkY g e
  ·omega
 refine ⟨h.hnk,by simp [h.hny],h.ksl,⟨_,_,rfl⟩,?_,?_,?_,?_,?_,?_,newg,?_,?_,by simp [World.setCell];omega⟩
 ·refine But.setCell ?_ (.inr (show w.heap.size<=ob by omega)) _
  exact (h.but.trans bP).trans' bV (fun i hi e=>absurd e (nY i (by omega)))
 ·exact keep _ _ h.res (nY _ (by omega)) (by omega) (by omega)
 ·have h1:zm ob v ks ys w7:=by
   unfold zm;rw [bV.block ob (by omega) (nY _ tz),bP.block ob (by omega) (show ¬ ob=rd by omega)];exact h.out
  exact h1.put3
 ·exact h.ownK.keep fun g o hg ho=>keep g o ho (h.blkK g hg).2 (by have:=(h.blkK g hg).1;omega) (by have:=(h.blkK g hg).1;omega)
 ·exact bA.keep fun g o hg ho=>by rw [hH _ _ _ _ (by have:=newg g hg;simp;omega)];exact ho
 ·intro g hg
  refine ⟨(h.blkK g hg).1,fun e=>?_⟩
  rcases bH g e with e' | e'
  ·exact (h.blkK g hg).2 e'
  ·have:=ltK g hg;omega
 ·exact (Rep.keep fun i x hi hx=>⟨⟨hi.1,hi.2.1,fun e=>(bH i e).elim (fun e'=>hi.2.2 e') (fun e'=>by have:=zZ hx;omega)⟩,keep i x hx hi.2.2 (by have:=hi.1;omega) (by have:=hi.1;omega)⟩).2 _ _ h.repK
 ·rw [qw]
  refine zH.append ((Rep.keep fun i x hi hx=>⟨⟨hi.1,hi.2.1,fun e=>(bH i e).elim (fun e'=>hi.2.2 e') (fun e'=>by have:=zZ hx;omega)⟩,keep i x hx hi.2.2 (by have:=hi.1;omega) (by have:=hi.1;omega)⟩).2 _ _ h.repY) ?_
  ·have e1:zn [b]=kE b:=by simp [zn]
   rw [e1]
   refine (Rep.keep fun i x hi hx=>?_).2 _ _ hcs
   have h2:=zZ hx
   have h3:wr.heap.size<=i:=hi
   refine ⟨⟨by omega,fun e=>by have:=ltK i e;omega,fun e=>?_⟩,cM i x hx (fun e=>by have:=ltY i e;omega) (by omega)⟩
   rcases bH i e with e' | e'
   ·have:=ltY i e';omega
   ·omega
def cst:Nat->Nat
 | 0=>1
 | d+1=>5+17*cst d
def bnd:Nat->Nat
 | 0=>1
 | d+1=>1+17*bnd d
theorem cst_pos (d:Nat):2<=cst d\/d=0/\cst d=1:=by cases d <;> simp [cst];omega
theorem bnd_pos (d:Nat):1<=bnd d:=by cases d <;> simp [bnd]
theorem gx {s:Bs} (h:s∈k9):∃ c,s=[c]:=by
 simp only [k9,List.mem_cons,List.not_mem_nil,or_false] at h
 rcases h with rfl | rfl | rfl | rfl | rfl <;> exact ⟨_,rfl⟩
def BodyD (rd Q d:Nat) (hand:List Ty) (w:World) (en:Ending) (w':World):Prop :=
 ∃ (b:Bd) (s:Bs) (v:Int) (a2:Option Addr) (n2 c2:Nat) (a3:Option Addr) (n3 c3:Nat),en=.returned (.agg #[str s,.int .i64 v,.slice a2 n2 c2,.slice a3 n3 c3])/\But (· = rd) w w'/\kt w' rd Q /\
   qA hand b/\lvB b/\zX b<=bnd d/\zH (w.heap.size<=·) w' (kE b) [str s,.int .i64 v,.slice a2 n2 c2,.slice a3 n3 c3]
def DrawB (rd d:Nat):Prop:=∀ (z:Int) (hand:List Ty) (F:Nat->Prop) (hv:Value) (w:World) (P:Nat),z<=d->-1000<=z->P+cst d<=1099511627776->kt w rd P->kC d hand->(∀ k,F k->k≠rd) ->
 Rep F w (.sl 43 1 hand.length (kd hand)) hv ->
 Calls Tryz.prog 53 #[.pointer (some ⟨rd,0,none⟩),hv,.int .i64 z] w (BodyD rd (P+cst d) d hand w)
theorem yZ.newAt {w:World} {rd:Nat} (dz:rd<w.heap.size) (xs:List Bs) (n:Nat) (hn:n=xs.length) (e:TypeId) (g:Nat) (hg:g=w.heap.size):yZ (w.alloc (.cells (xs.map str).toArray e)) rd (.slice (some ⟨g,0,none⟩) n n) xs:=by
 subst hg;exact yZ.new dz xs n hn e
theorem gW {F:Nat->Prop} {w:World} (c:UInt8):zH F w (kE (.leaf c)) [str [c],.int .i64 0,.slice none 0 0,.slice none 0 0]:=by
 rw [kE]
 have h0:Rep F w (.sl 46 4 0 []) (.slice none 0 0):=zp.2 ⟨rfl,none,0,rfl,g_ _,fun _=>rfl,.inl rfl⟩
 exact zQ.2 ⟨_,_,rfl,zF.2 rfl,zQ.2 ⟨_,_,rfl,zF.2 rfl,zQ.2 ⟨_,_,rfl,h0,zQ.2 ⟨_,_,rfl,h0,zB.2 rfl⟩⟩⟩⟩
def KidsD (w:World) (rd ob Z v P d:Nat) (hand:List Ty) (t:Ty) (k:Nat) (wr:World):Prop :=
 ∃ (pk:List Bd) (kv:List Value) (ks:Value) (nk:Nat),pY w rd ob Z v wr pk [] kv [] ks nk (.slice none 0 0) 0/\pk.length=k/\kg (kW hand (t.args.take k)) pk/\vM pk/\zG pk<=k*bnd d/\kt wr rd (P+k*cst d)
def YesD (w:World) (rd ob Z v P d:Nat) (hand:List Ty) (pk:List Bd) (kv:List Value) (ks:Value) (nk:Nat) (k:Nat) (wr:World):Prop :=
 ∃ (py:List Bd) (yv:List Value) (ys:Value) (ny:Nat),pY w rd ob Z v wr pk py kv yv ks nk ys ny/\py.length=k/\(∀ b∈py,qA hand b)/\vM py/\zG py<=k*bnd d/\kt wr rd (P+k*(1+cst d))
theorem yD:∀ (xs ys:List Bd),vM xs->vM ys->vM (xs++ys)
 | [],ys,_,h=>by simpa using h
 | x::xs,ys,h1,h2=>by
   rw [vM] at h1
   simp only [List.cons_append]
   rw [vM]
   exact ⟨h1.1,yD xs ys h1.2 h2⟩
theorem lvBs_one {b:Bd} (h:lvB b):vM [b]:=by rw [vM];exact ⟨h,by rw [vM];trivial⟩
theorem rep_len {F:Nat->Prop} {w:World} {e:TypeId} {a:Option Addr} {c:Nat} {xs ys:List Ty} (h:Rep F w (.sl e 1 (xs++ys).length (kd (xs++ys))) (.slice a (xs++ys).length c)) :
 Rep F w (.sl e 1 (xs++ys).length (kd (xs++ys))) (.slice a (xs.length+ys.length) c):=by
 have e:xs.length+ys.length=(xs++ys).length:=by simp
 rw [e];exact h
theorem but_drew {m:Nat->Prop} {w w':World} (h:Below w.drew.heap.size w.drew w'):But m w w':=⟨h.os,h.tape,h.output,h.size,fun i hi _=>h.block i hi⟩
theorem but_drew2 {m:Nat->Prop} {w w':World} (h:But m w.drew w'):But m w w':=⟨h.os,h.tape,h.output,h.size,h.block⟩
theorem yQ (x:Int) (h1 : -2000<=x) (h2:x<=1000000):IntKind.i64.wrap x=x:=by
 simp [IntKind.wrap,IntKind.bits,IntKind.signed];omega
theorem wrap_sub (z:Int) (p:Nat) (h1:0<z) (h2:z<=1000) (h3:p<2):IntKind.i64.wrap (z-1-(p:Int))=z-1-p:=yQ _ (by omega) (by omega)
theorem sub_le {z:Int} {p d:Nat} (h2:z<=((d+1:Nat):Int)):z-1-(p:Int)<=d:=by omega
theorem sub_lo {z:Int} {p:Nat} (h1:0<z) (h3:p<2) : -1000<=z-1-(p:Int):=by omega
theorem reps_past {B B':Nat} {w:World} {o:Obj} {ds:List DV} {vs:List Value} (hB:B'<=B) (h:zH (B<=·) w ds vs):zH (B'<=·) (w.alloc o) ds vs :=
 (Rep.keep fun _ _ hi hx=>⟨h_ hB hi,zV hx⟩).2 _ _ h
set_option maxRecDepth 100000 in
theorem xN (rd d:Nat) (hd:d<=100) (ih:∀ d',d=d'+1->DrawB rd d'):DrawB rd d:=by
 intro z hand F hv w P hz hzl hP hr hh hF cd
 have IH:=gl ih;clear ih
 have bY:=hr.lt
 have CST:=gl (cst_pos d)
 have BND:=gl (bnd_pos d)
 have aB:kt (w.alloc (.cells #[str [],.int .i64 0,.slice none 0 0,.slice none 0 0] 46)) rd P:=hr.alloc _
 have om:zm w.heap.size 0 (.slice none 0 0) (.slice none 0 0) (w.alloc (.cells #[str [],.int .i64 0,.slice none 0 0,.slice none 0 0] 46)):=zR _ _
 have sx:But (· = rd) w (w.alloc (.cells #[str [],.int .i64 0,.slice none 0 0,.slice none 0 0] 46)):=(But.refl _ _).alloc _
 obtain ⟨a0,k0,e,_,_,bJ⟩:=zE cd
 subst e
 have bf:=gl bJ;have Cu:=gl cd;have HF:=gl hF;have HH:=gl hh
 have hlen:hand.length<=10000:=by have:=hh.2;omega
 clear bJ cd hF hh hr
 by_cases hz0:z<=0
 ·go_enter Tryz.func53,Tryz.ntmps53
  have H0:=gl (go aB (go om sx))
  have rg:=H0.out.1.lt
  clear aB om sx
  go_wp2_with fail
  obtain ⟨iV,ft,f8⟩:=H0.out
  refine (wU rd (P) (.slice (some ⟨w.heap.size+1,0,none⟩) 5 5) k9 _ (iV.alloc (.cells (k9.map str).toArray 9)) (yZ.newAt rg k9 5 rfl _ (w.heap.size+1) (by simp)) (by decide) (by decide) (by omega)).mono ?_
  rintro en w2 ⟨s,hs,rfl,bZ,cH⟩
  obtain ⟨c,rfl⟩:=gx hs
  clear hs
  have cp:zm w.heap.size 0 (.slice none 0 0) (.slice none 0 0) w2:=zm.but (by unfold zm;exact zV ft) bZ (show ¬ w.heap.size=rd by omega)
  have dU:=(f8.alloc (.cells (k9.map str).toArray 9)).trans bZ
  obtain ⟨r0,r1,r2,r3,rl,rf⟩:=cp.cells
  have fv:=rf 0;have mC:=rf 1;have mB:=rf 2;have mH:=rf 3;clear rf
  have HQ:=gl (go cp (go dU cH));clear cp dU cH bZ ft f8 iV
  go_wp2_with fail
  obtain ⟨cp,dU,cH⟩:=HQ.out
  obtain ⟨W,hW,s0,s1,s2,s3,bE,eY,nS⟩:=cp.storeB (str [c]) (.int .i64 0) (.slice none 0 0) (.slice none 0 0)
  rw [<- hW]
  refine bodyPost_ret (v:=.agg #[str [c],.int .i64 0,.slice none 0 0,.slice none 0 0]) (by simp [results,Tryz.results53,go_sem,s0,s1,s2,s3]) rfl ?_
  exact ⟨.leaf c,[c],0,none,0,0,none,0,0,rfl,bE _ _ dU (g_ _),(nS _ _ bY cH).mono (by have:=CST.out;omega),by simp [qA],by simp [lvB],by simp only [zX];exact BND.out,gW c⟩
 have hP2:P+2<=1099511627776:=by have:=CST.out;omega
 by_cases lY:hand.length=0
 ·have Bc:((hand.length:Int) == 0)=true:=by rw [beq_iff_eq];omega
  go_enter Tryz.func53,Tryz.ntmps53
  have H0:=gl (go aB (go om sx))
  have rg:=H0.out.1.lt
  clear aB om sx
  go_wp2_with fail
  obtain ⟨iV,ft,f8⟩:=H0.out
  refine (wU rd (P) (.slice (some ⟨w.heap.size+1,0,none⟩) 5 5) k9 _ (iV.alloc (.cells (k9.map str).toArray 9)) (yZ.newAt rg k9 5 rfl _ (w.heap.size+1) (by simp)) (by decide) (by decide) (by omega)).mono ?_
  rintro en w2 ⟨s,hs,rfl,bZ,cH⟩
  obtain ⟨c,rfl⟩:=gx hs
  clear hs
  have cp:zm w.heap.size 0 (.slice none 0 0) (.slice none 0 0) w2:=zm.but (by unfold zm;exact zV ft) bZ (show ¬ w.heap.size=rd by omega)
  have dU:=(f8.alloc (.cells (k9.map str).toArray 9)).trans bZ
  obtain ⟨r0,r1,r2,r3,rl,rf⟩:=cp.cells
  have fv:=rf 0;have mC:=rf 1;have mB:=rf 2;have mH:=rf 3;clear rf
  have HQ:=gl (go cp (go dU cH));clear cp dU cH bZ ft f8 iV
  go_wp2_with fail
  obtain ⟨cp,dU,cH⟩:=HQ.out
  obtain ⟨W,hW,s0,s1,s2,s3,bE,eY,nS⟩:=cp.storeB (str [c]) (.int .i64 0) (.slice none 0 0) (.slice none 0 0)
  rw [<- hW]
  refine bodyPost_ret (v:=.agg #[str [c],.int .i64 0,.slice none 0 0,.slice none 0 0]) (by simp [results,Tryz.results53,go_sem,s0,s1,s2,s3]) rfl ?_
  exact ⟨.leaf c,[c],0,none,0,0,none,0,0,rfl,bE _ _ dU (g_ _),(nS _ _ bY cH).mono (by have:=CST.out;omega),by simp [qA],by simp [lvB],by simp only [zX];exact BND.out,gW c⟩
 have Bc:((hand.length:Int) == 0)=false:=by rw [beq_eq_false_iff_ne];omega
 go_enter Tryz.func53,Tryz.ntmps53
 go_wp2_with fail
 refine (jz rd P 5 _ aB (by omega) (by omega) (by omega)).mono ?_
 rintro en w1 ⟨p1,rfl,hp1,bQ,cK⟩
 have iA:=om.but bQ (show ¬ w.heap.size=rd by omega)
 have ed:=sx.trans bQ
 by_cases hp0:p1=0
 ·subst hp0
  have H0:=gl (go cK (go iA ed))
  have rg:=H0.out.1.lt
  clear cK iA ed
  go_wp2_with fail
  obtain ⟨iV,ft,f8⟩:=H0.out
  refine (wU rd (P+1) (.slice (some ⟨w1.heap.size,0,none⟩) 5 5) k9 _ (iV.alloc (.cells (k9.map str).toArray 9)) (yZ.newAt rg k9 5 rfl _ (w1.heap.size) (by simp)) (by decide) (by decide) (by omega)).mono ?_
  rintro en w2 ⟨s,hs,rfl,bZ,cH⟩
  obtain ⟨c,rfl⟩:=gx hs
  clear hs
  have cp:zm w.heap.size 0 (.slice none 0 0) (.slice none 0 0) w2:=zm.but (by unfold zm;exact zV ft) bZ (show ¬ w.heap.size=rd by omega)
  have dU:=(f8.alloc (.cells (k9.map str).toArray 9)).trans bZ
  obtain ⟨r0,r1,r2,r3,rl,rf⟩:=cp.cells
  have fv:=rf 0;have mC:=rf 1;have mB:=rf 2;have mH:=rf 3;clear rf
  have HQ:=gl (go cp (go dU cH));clear cp dU cH bZ ft f8 iV
  go_wp2_with fail
  obtain ⟨cp,dU,cH⟩:=HQ.out
  obtain ⟨W,hW,s0,s1,s2,s3,bE,eY,nS⟩:=cp.storeB (str [c]) (.int .i64 0) (.slice none 0 0) (.slice none 0 0)
  rw [<- hW]
  refine bodyPost_ret (v:=.agg #[str [c],.int .i64 0,.slice none 0 0,.slice none 0 0]) (by simp [results,Tryz.results53,go_sem,s0,s1,s2,s3]) rfl ?_
  exact ⟨.leaf c,[c],0,none,0,0,none,0,0,rfl,bE _ _ dU (g_ _),(nS _ _ bY cH).mono (by have:=CST.out;omega),by simp [qA],by simp [lvB],by simp only [zX];exact BND.out,gW c⟩
 have hp0':((p1:Int) == 0)=false:=by rw [beq_eq_false_iff_ne];omega
 obtain ⟨d',hd'⟩:∃ d',d=d'+1:=⟨d-1,by omega⟩
 have hih:=IH.out d' hd'
 subst hd'
 have IHD:=gl hih;clear hih
 have hcs:cst (d'+1)=5+17*cst d':=rfl
 have hbs:bnd (d'+1)=1+17*bnd d':=rfl
 go_wp2_with fail
 refine (jz rd (P+1) hand.length w1 cK (by omega) (by omega) (by omega)).mono ?_
 rintro en w2 ⟨v,rfl,hv,bZ,cH⟩
 have hN2:=iA.but bZ (show ¬ w.heap.size=rd by omega)
 have aD:=ed.trans bZ
 obtain ⟨bl,ol,u,dv,ea,hFl,tX,tn,BQ,be⟩:=bf.out v hv
 rw [qo,Option.map_eq_some_iff] at tn
 obtain ⟨t,ht,rfl⟩:=tn
 obtain ⟨sa,sk,rfl⟩:=zu be
 have mL:=be
 rw [k8] at mL
 obtain ⟨_,_,est,_,_,f_⟩:=zE mL
 simp only [Value.slice.injEq] at est
 obtain ⟨rfl,_,rfl⟩:=est
 subst ea
 have eN:t.args.length<=15:=by
  have h1:=HH.out.1 t (List.mem_of_getElem? ht)
  have h2:=kN t
  have:=zl t.args;omega
 have HT:=gl ht;have sm:=gl f_
 have hblr:=HF.out bl hFl
 have z1:=bQ.size
 rw [zK] at z1
 have z2:=bZ.size
 have AV:w.heap.size<w2.heap.size:=by omega
 have hrdo:rd<w2.heap.size:=by omega
 have cO:KidsD w rd w2.heap.size (w2.heap.size+1) v (P+2) d' hand t 0 (w2.alloc (.cells #[str [],.int .i64 v,.slice none 0 0,.slice none 0 0] 46)):=by
  refine ⟨[],[],.slice none 0 0,0,⟨rfl,rfl,⟨_,_,rfl⟩,⟨_,_,rfl⟩,aD.alloc _,by unfold zm;exact zV hN2,zR _ _,World.ownsRow_nil _ _ _ _,World.ownsRow_nil _ _ _ _,fun g h=>by simp [Value.ownBlock] at h,fun g h=>by simp [Value.ownBlock] at h,zB.2 rfl,zB.2 rfl,by simp⟩,rfl,by simp [kg,kW],by simp [vM],by simp [zG],?_⟩
  have:=cH.alloc (.cells #[str [],.int .i64 v,.slice none 0 0,.slice none 0 0] 46)
  simpa using this
 have fa:w2.heap.size≠rd:=by omega
 have ZZ1:=gl (yQ (z-1) (by omega) (by omega))
 have zz2:z-1<=d':=by omega
 have zz3 : -1000<=z-1:=by omega
 have zz4:z<=1000:=by omega
 have zz0:0<z:=by omega
 have o9:0<4:=by omega
 have At:(v:Int)<(hand.length:Int):=by omega
 clear ht f_ mL hN2 aD bZ bQ iA ed om sx cK cH z1 z2 aB
 go_wp2_with fail
 go_loopw [9] (fun i wr=>∃ k:Nat,k<=t.args.length/\i=.int .i64 k/\KidsD w rd w2.heap.size (w2.heap.size+1) v (P+2) d' hand t k wr) (fun i _=>t.args.length-(intOf i).toNat)
 case atStart=>exact ⟨0,Nat.zero_le _,rfl,cO⟩
 case round =>
  clear cO
  obtain ⟨k,hk,rfl,pk,kv,ks,nk,hN,hpk,hfk,ri,i5,c_⟩:=hrel
  have cf:=hN.but
  obtain ⟨ka,kc,eks⟩:=hN.ksl
  subst eks
  have e0:=jH cf hblr BQ
  have HN:=gl hN;have HFK:=gl hfk;have HLK:=gl ri;have HPK:=gl hpk
  obtain ⟨q0,q1,q2,q3,ql,qf⟩:=hN.out.cells
  have nH:=qf 2;clear qf
  have hnk:nk<=15:=by have:=hN.hnk;omega
  have hm1:nk+1<=maxLen:=by unfold maxLen;omega
  have eT:(nk+1)*72<=140737488355328:=by omega
  have hk15:k*cst d'<=15*cst d':=Nat.mul_le_mul_right _ (by omega)
  have hQ:(P+2+k*cst d')+cst d'<=1099511627776:=by omega
  clear hfk ri hN hpk
  by_cases Bj:k<t.args.length
  ·obtain ⟨ba,oa,uk,dk,esa,hFa,iR,iE,t_,mI⟩:=sm.out k Bj
   subst esa
   rw [qo,Option.map_eq_some_iff] at iE
   obtain ⟨tk,fU,rfl⟩:=iE
   obtain ⟨ua,uc,rfl⟩:=zu mI
   have hbar:=HF.out ba hFa
   have e1:=jH cf hbar t_
   have rE:Rep F wr.drew (qg tk) (.slice ua tk.args.length uc):=(Rep.but cf (fun b hb=>⟨HF.out b hb,hb⟩) mI).drew
   have dg:=(Rep.but cf (fun b hb=>⟨HF.out b hb,hb⟩) Cu.out).drew
   have iB:kC d' (hand++tk.args):=HH.out.next HT.out (List.mem_of_getElem? fU)
   have ri:Lim (hand.length+tk.args.length):=by have:=iB.2;simp at this;show _<=_;omega
   have HTK:=gl fU
   have hF5:∀ g,(F g\/wr.drew.heap.size<=g)->g≠rd:=fun g hg=>by
    rcases hg with h | h
    ·exact HF.out g h
    ·have h2:wr.heap.size<=g:=h
     omega
   have C1:=gl (gH F hand tk _ _ wr.drew dg rE ri)
   have AG:=c_.drew
   have C2:=gl (fun a5 c5 w5 (h5:Below wr.drew.heap.size wr.drew w5) (fP:Rep (fun k=>F k\/wr.drew.heap.size<=k) w5 (.sl 43 1 (hand++tk.args).length (kd (hand++tk.args))) (.slice a5 (hand++tk.args).length c5)) =>
    IHD.out (z-1) (hand++tk.args) (fun k=>F k\/wr.drew.heap.size<=k) (.slice a5 (hand.length+tk.args.length) c5) w5 (P+2+k*cst d') zz2 zz3 hQ (AG.below h5) iB hF5 (rep_len fP))
   have OWN:=gl (fun w5 w6 (h5:But (· = rd) wr w5) (h6:But (· = rd) w5 w6)=>own_thru HN.out.ownK (fun g hg=>by have:=(HN.out.blkK g hg).1;omega) h5 h6)
   have NB:=gl (show ¬ (Value.slice ka nk kc).ownBlock=some w2.heap.size from fun e=>by have:=(HN.out.blkK _ e).1;omega)
   have hlt9':(k:Int)<(t.args.length:Int):=by omega
   clear fU t_ mI rE dg iB ri hF5 c_ AG
   have zz1:=ZZ1.out
   go_wp2_with fail
   go_region_law (first
    | (refine zT (by rfl) _ _ _ (by rfl) 46 (.agg #[str [],.int .i64 0,.slice none 0 0,.slice none 0 0]) 4 72 Tryz.underlying44 Tryz.infoN rfl o9 (.slice ka nk kc) nk kv (by rfl) (fq.out.alloc _) _ 1 [str s6,.int .i64 v6,.slice a2 n2 k2,.slice a3 n3 k3] (by rfl) (zS.lit4 #[str s6,.int .i64 v6,.slice a2 n2 k2,.slice a3 n3 k3] rfl (by simp [str,Value.oneCell']) _ rfl) hm1 eT ?_;intro a' c' w7 bI bV bH;have hc7:=xM bV NB.out iw;have cu:=xF bV NB.out tC mD)
    | (go_simp;go_at_call 53;refine (C2.out _ _ _ bC fP).mono ?_;rintro o_ w6 ⟨b,s6,v6,a2,n2,k2,a3,n3,k3,rfl,bP,fW,mG,iP,nF,fD⟩;have iw:=jH bP fa q25;have tC:=hM oU bP.size;have mD:=uD bP fa oU qf25;have fq:=gl (OWN.out _ _ cq bP))
    | (go_simp;go_at_call 62;refine C1.out.mono ?_;rintro en5 w5 ⟨a5,c5,rfl,bC,fP⟩;have cq:But (· = rd) wr w5:=but_drew bC;have q25:=jH cq fa q2;have oU:=hM ql cq.size;have qf25:=uD cq fa ql nH))
   all_goals
    clear zz1
    have hA:=HN.out.kid bY (Nat.lt_succ_self _) AV ((cq.trans bP).alloc _) (reps_past cq.size fD) bI bV bH
    have rR:kt (w7.setCell ⟨w2.heap.size,2,none⟩ (.slice a' (nk+1) c')) rd (P+2+(k+1)*cst d'):=by
     refine kt.mono (kt.but (m:=fun i=>i=w2.heap.size\/(Value.slice ka nk kc).ownBlock=some i) (fW.alloc (.cells #[str s6,.int .i64 v6,.slice a2 n2 k2,.slice a3 n3 k3] 46)) (But.setCell (bV.weak fun i _ h=>.inr h) (.inl (.inl rfl)) _) ?_) (by rw [Nat.succ_mul];omega)
     intro i hi h
     rcases h with h | h
     ·omega
     ·have:=(HN.out.blkK _ h).1;omega
    have BG:kg (kW hand (t.args.take (k+1))) (pk++[b]):=by
     rw [gF HTK.out]
     exact uw _ _ _ _ HFK.out ⟨_,_,rfl,mG,by rw [kg]⟩
    have nc:zG (pk++[b])<=(k+1)*bnd d':=by rw [kI,Nat.succ_mul];simp only [zG];omega
    have fj:Hid (KidsD w rd w2.heap.size (w2.heap.size+1) v (P+2) d' hand t (k+1) (w7.setCell ⟨w2.heap.size,2,none⟩ (.slice a' (nk+1) c'))) :=
     ⟨pk++[b],_,_,_,hA,by simp [HPK.out],BG,yD _ _ HLK.out (lvBs_one iP),nc,rR⟩
    clear hA rR BG nc mG iP nF fD bI bV bH fW fP
    go_wp2_with fail
    go_roundw
    case rel=>exact ⟨k+1,by omega,by go_num,fj.out⟩
    case measure=>simp [intOf];omega
  ·obtain rfl:k=t.args.length:=by omega
   have Bb:¬ ((t.args.length:Int)<(t.args.length:Int)):=by omega
   have HFA:Hid (kg (kW hand t.args) pk):=by have:=HFK.out;rwa [List.take_length] at this
   have HSK:=gl i5
   have iJ:YesD w rd w2.heap.size (w2.heap.size+1) v (P+2+t.args.length*cst d') d' hand pk kv (.slice ka nk kc) nk 0 wr :=
    ⟨[],[],.slice none 0 0,0,HN.out,rfl,by simp,by simp [vM],by simp [zG],by simpa using c_⟩
   have HHS:Hid (kC d' hand):=by have:=HH.out.same;rw [List.append_nil] at this;exact this
   clear c_ i5 HFK Bj cf
   go_wp2_with fail
   clear HN q0 q1 q2 q3 ql nH e0 Bb
   go_loopw [10] (fun i wr=>∃ k:Nat,k<=2/\i=.int .i64 k/\YesD w rd w2.heap.size (w2.heap.size+1) v (P+2+t.args.length*cst d') d' hand pk kv (.slice ka nk kc) nk k wr) (fun i _=>2-(intOf i).toNat)
   case atStart=>exact ⟨0,by omega,rfl,iJ⟩
   case round =>
    clear iJ
    obtain ⟨k,hk,rfl,py,yv,ys,ny,hN,hpy,hfy,oS,hsy,s8⟩:=hrel
    have cf:=hN.but
    obtain ⟨ya,yc,eys⟩:=hN.ysl
    subst eys
    have HN:=gl hN;have HFY:=gl hfy;have HLY:=gl oS;have HPY:=gl hpy;have HSY:=gl hsy
    obtain ⟨q0,q1,q2,q3,ql,qf⟩:=hN.out.cells
    have aI:=qf 3;clear qf
    have hny:ny<=2:=by have:=hN.hny;omega
    have hm1:ny+1<=maxLen:=by unfold maxLen;omega
    have eT:(ny+1)*72<=140737488355328:=by omega
    have hk2c:k*(1+cst d')<=2*(1+cst d'):=Nat.mul_le_mul_right _ (by omega)
    have hQ1:P+2+t.args.length*cst d'+k*(1+cst d')<=1099511627776:=by omega
    clear hfy oS hpy hsy
    by_cases hlt10:k<2
    ·have hk1c:k*(1+cst d')<=1*(1+cst d'):=Nat.mul_le_mul_right _ (by omega)
     have hQ2:P+2+t.args.length*cst d'+k*(1+cst d')+1+cst d'<=1099511627776:=by omega
     have hrw:=Rep.but cf (fun b hb=>⟨HF.out b hb,hb⟩) Cu.out
     have C1:=gl (jz rd (P+2+t.args.length*cst d'+k*(1+cst d')) 2 wr.drew s8.drew (by omega) (by omega) hQ1)
     have C2:=gl (fun w5 (h5:But (· = rd) wr w5) (p5:Nat) (tI:p5<2) (fP:kt w5 rd (P+2+t.args.length*cst d'+k*(1+cst d')+1)) =>
      IHD.out (z-1-(p5:Int)) hand F (.slice (some ⟨bl,ol,none⟩) hand.length k0) w5 (P+2+t.args.length*cst d'+k*(1+cst d')+1) (sub_le hz) (sub_lo zz0 tI) hQ2 fP HHS.out HF.out (Rep.but h5 (fun b hb=>⟨HF.out b hb,hb⟩) hrw))
     have OWN:=gl (fun w5 w6 (h5:But (· = rd) wr w5) (h6:But (· = rd) w5 w6)=>own_thru HN.out.ownY (fun g hg=>by have:=HN.out.blkY g hg;omega) h5 h6)
     have NB:=gl (show ¬ (Value.slice ya ny yc).ownBlock=some w2.heap.size from fun e=>by have:=HN.out.blkY _ e;omega)
     have hlt10':(k:Int)<2:=by omega
     clear hrw s8 hN cf q2
     have zz1:=ZZ1.out
     go_wp2_with fail
     go_region_law (first
      | (refine zT (by rfl) _ _ _ (by rfl) 46 (.agg #[str [],.int .i64 0,.slice none 0 0,.slice none 0 0]) 4 72 Tryz.underlying44 Tryz.infoN rfl o9 (.slice ya ny yc) ny yv (by rfl) (fq.out.alloc _) _ 1 [str s6,.int .i64 v6,.slice a2 n2 k2,.slice a3 n3 k3] (by rfl) (zS.lit4 #[str s6,.int .i64 v6,.slice a2 n2 k2,.slice a3 n3 k3] rfl (by simp [str,Value.oneCell']) _ rfl) hm1 eT ?_;intro a' c' w7 bI bV bH;have hc7:=xM bV NB.out q36;have cu:=xF bV NB.out tC qf36)
      | (go_simp;go_at_call 53;refine (C2.out _ cq _ tI fP).mono ?_;rintro o_ w6 ⟨b,s6,v6,a2,n2,k2,a3,n3,k3,rfl,bP,fW,mG,iP,nF,fD⟩;have q36:=jH bP fa q35;have tC:=hM oU bP.size;have qf36:=uD bP fa oU qf35;have fq:=gl (OWN.out _ _ cq bP))
      | (go_simp;go_at_call 14;refine C1.out.mono ?_;rintro en5 w5 ⟨p5,rfl,tI,bC,fP⟩;have cq:But (· = rd) wr w5:=but_drew2 bC;have q35:=jH cq fa q3;have oU:=hM ql cq.size;have qf35:=uD cq fa ql aI;have zz5:=wrap_sub z p5 zz0 zz4 tI))
     all_goals
      clear zz1 zz5
      have hA:=HN.out.yes bY (Nat.lt_succ_self _) AV ((cq.trans bP).alloc _) (reps_past cq.size fD) bI bV bH
      have rR:kt (w7.setCell ⟨w2.heap.size,3,none⟩ (.slice a' (ny+1) c')) rd (P+2+t.args.length*cst d'+(k+1)*(1+cst d')):=by
       refine kt.mono (kt.but (m:=fun i=>i=w2.heap.size\/(Value.slice ya ny yc).ownBlock=some i) (fW.alloc (.cells #[str s6,.int .i64 v6,.slice a2 n2 k2,.slice a3 n3 k3] 46)) (But.setCell (bV.weak fun i _ h=>.inr h) (.inl (.inl rfl)) _) ?_) (by rw [Nat.succ_mul];omega)
       intro i hi h
       rcases h with h | h
       ·omega
       ·have:=HN.out.blkY _ h;omega
      have BD:∀ x∈py++[b],qA hand x:=by
       intro x hx
       rcases List.mem_append.1 hx with h | h
       ·exact HFY.out x h
       ·simp at h;subst h;exact mG
      have nc:zG (py++[b])<=(k+1)*bnd d':=by have:=HSY.out;rw [kI,Nat.succ_mul];simp only [zG];omega
      have fj:Hid (YesD w rd w2.heap.size (w2.heap.size+1) v (P+2+t.args.length*cst d') d' hand pk kv (.slice ka nk kc) nk (k+1) (w7.setCell ⟨w2.heap.size,3,none⟩ (.slice a' (ny+1) c'))) :=
       ⟨py++[b],_,_,_,hA,by simp [HPY.out],BD,yD _ _ HLY.out (lvBs_one iP),nc,rR⟩
      clear hA rR BD nc mG iP nF fD bI bV bH fW fP
      go_wp2_with fail
      go_roundw
      case rel=>exact ⟨k+1,by omega,by go_num,fj.out⟩
      case measure=>simp [intOf];omega
    ·obtain rfl:k=2:=by omega
     obtain ⟨r0,r1,r2,r3,rl,rf⟩:=hN.res.cells
     have fv:=rf 0;have mC:=rf 1;have mB:=rf 2;have mH:=rf 3;clear rf
     have HRY:=gl s8
     clear s8 hN cf
     go_wp2_with fail
     have hN:=HN.out
     obtain ⟨W,hW,s0,s1,s2,s3,bE,eY,nS⟩:=hN.res.storeB (str []) (.int .i64 v) (.slice ka nk kc) (.slice ya ny yc)
     rw [<- hW]
     refine bodyPost_ret (v:=.agg #[str [],.int .i64 v,.slice ka nk kc,.slice ya ny yc]) (by simp [results,Tryz.results53,go_sem,s0,s1,s2,s3]) rfl ?_
     have hpy:=HPY.out
     obtain ⟨y1,y2,rfl⟩:∃ y1 y2,py=[y1,y2]:=by
      match py,hpy with
      | [a,b],_=>exact ⟨a,b,rfl⟩
     have oS:=HLY.out
     rw [vM,vM] at oS
     have hsy:=HSY.out
     have i5:=HSK.out
     simp only [zG] at hsy
     have hb15:t.args.length*bnd d'<=15*bnd d':=Nat.mul_le_mul_right _ (by omega)
     have lU:=hN.hnk
     have lJ:ny=2:=hN.hny
     subst lJ
     refine ⟨.ask v pk y1 y2,[],v,ka,nk,kc,ya,2,yc,rfl,bE _ _ hN.but (g_ _),(nS _ _ bY HRY.out).mono (by omega),?_,?_,?_,?_⟩
     ·rw [qA];exact ⟨t,HT.out,HFA.out,HFY.out y1 (by simp),HFY.out y2 (by simp)⟩
     ·rw [lvB];exact ⟨by omega,HLK.out,oS.1,oS.2.1⟩
     ·simp only [zX];omega
     ·rw [j9]
      refine zQ.2 ⟨_,_,rfl,zF.2 rfl,zQ.2 ⟨_,_,rfl,zF.2 rfl,zQ.2 ⟨_,_,rfl,?_,zQ.2 ⟨_,_,rfl,?_,zB.2 rfl⟩⟩⟩⟩
      ·rw [<- lU]
       refine (hN.ownK.keep fun g o hg ho=>eY g o (by have:=(hN.blkK g hg).1;omega) ho).rep (fun g hg=>by have:=(hN.blkK g hg).1;omega) ?_
       exact (Rep.keep fun x o hx ho=>⟨by have:=hx.1;omega,eY x o (by have:=hx.1;omega) ho⟩).2 _ _ hN.repK
      ·refine (hN.ownY.keep fun g o hg ho=>eY g o (by have:=hN.blkY g hg;omega) ho).rep (fun g hg=>by have:=hN.blkY g hg;omega) ?_
       exact (Rep.keep fun x o hx ho=>⟨by have:=hx.1;omega,eY x o (by have:=hx.1;omega) ho⟩).2 _ _ hN.repY
theorem l91Body_any (rd d:Nat) (hd:d<=100):DrawB rd d:=by
 induction d with
 | zero=>exact xN rd 0 hd (fun d' h=>by omega)
 | succ d ih=>exact xN rd (d+1) hd (fun d' h=>by rw [<- Nat.succ.inj h];exact ih (by omega))
def Row8 (w:World) (a:Option Addr) (len cap:Nat) (zs:List Int):Prop :=
 (a=none/\len=0/\cap=0/\zs=[]) \/
 ∃ x,a=some x/\len<=cap/\cap<=maxLen/\zs.length=cap/\(∀ i,i<zs.length->w.cell? (x.add i)=some (.int .u8 (zs.getD i 0)))/\∀ n∈zs,(Lit.int .u8 n).wf=true
theorem Row8.le {w:World} {a:Option Addr} {len cap:Nat} {zs:List Int} (h:Row8 w a len cap zs):len<=cap:=by
 rcases h with ⟨_,rfl,rfl,_⟩ | ⟨x,_,h,_⟩
 ·exact g_ _
 ·exact h
theorem Row8.bytes {w:World} {a:Option Addr} {len cap:Nat} {zs:List Int} (h:Row8 w a len cap zs) (n:Nat) (hn:n<=len) :
 n=0\/∃ b o,a=some ⟨b,o,none⟩/\b<w.heap.size/\∀ k,k<n->∃ x:Nat,x<256/\w.cell? ⟨b,o+k,none⟩=some (.int .u8 x):=by
 rcases Nat.eq_zero_or_pos n with h0 | h0
 ·exact .inl h0
 right
 rcases h with ⟨_,rfl,_,_⟩ | ⟨x,rfl,hl,_,hz,hc,hw⟩
 ·omega
 obtain ⟨b,o,sp⟩:=x
 have h1:=hc 0 (by omega)
 have hsp:sp=none:=by
  cases sp with
  | none=>rfl
  | some q=>simp [World.cell?,Addr.add] at h1;split at h1 <;> simp_all
 subst hsp
 have aG:∀ i,(⟨b,o,none⟩:Addr).add i=⟨b,o+i,none⟩:=fun i=>by
  unfold Addr.add;split <;> simp_all
 have h2:=hU w _ h1
 refine ⟨b,o,rfl,by rw [aG] at h2;exact h2,fun k hk=>?_⟩
 have hkz:k<zs.length:=by omega
 have h3:=hc k hkz
 rw [aG] at h3
 have hm:zs.getD k 0∈zs:=by
  rw [List.getD_eq_getElem?_getD,List.getElem?_eq_getElem hkz];exact List.getElem_mem hkz
 have hwf:=hw _ hm
 clear hm
 generalize zs.getD k 0=z at *
 have hb:0<=z/\z<256:=by
  simp [Lit.wf,IntKind.min,IntKind.max,IntKind.bits,IntKind.signed] at hwf
  omega
 refine ⟨z.toNat,by omega,?_⟩
 rw [h3,Int.toNat_of_nonneg hb.1]
theorem l6Open_any (a:Option Addr) (len cap:Nat) (zs:List Int) (w:World) (h:Row8 w a len cap zs) (hl:len<=1048576) :
 Calls Tryz.prog 11 #[.slice a len cap] w fun en w'=>en=.returned (.pointer (some ⟨w.heap.size,0,none⟩))/\Below w.heap.size w w'/\kt w' w.heap.size 0/\w.heap.size<w'.heap.size:=by
 have cI:=h.le
 have H:=gl h;clear h
 by_cases h2:2000<len
 ·have h2':(2000:Int)<(len:Int):=by omega
  have h3:(2000:Int)<=(cap:Int):=by omega
  obtain ⟨b,o,ea,hb,hk⟩:=(H.out.bytes 2000 (by omega)).resolve_left (by omega)
  subst ea
  have HK:=gl hk;clear hk
  go_enter Tryz.func11,Tryz.ntmps11
  go_wp2_with fail
  go_ret
  refine ⟨rfl,(hG _ _).alloc (g_ _) _,?_,by simp⟩
  refine ⟨_,2000,_,0,zR _ _,g_ _,g_ _,.inr ⟨b,o,rfl,hb,fun k hk=>?_⟩⟩
  obtain ⟨x,hx,hc⟩:=HK.out k hk
  exact ⟨x,hx,zJ hc⟩
 ·have h2':¬ (2000:Int)<(len:Int):=by omega
  go_enter Tryz.func11,Tryz.ntmps11
  go_wp2_with fail
  go_ret
  refine ⟨rfl,(hG _ _).alloc (g_ _) _,?_,by simp⟩
  refine ⟨_,len,_,0,zR _ _,g_ _,by omega,?_⟩
  rcases H.out.bytes len (g_ _) with h0 | ⟨b,o,ea,hb,hk⟩
  ·exact .inl h0
  ·refine .inr ⟨b,o,ea,hb,fun k nI=>?_⟩
   obtain ⟨x,hx,hc⟩:=hk k nI
   exact ⟨x,hx,zJ hc⟩
theorem type_ok {s:Bs} (h:s∈jQ):(zW s).2=true/\s.length<=100:=by
 simp only [jQ,List.mem_cons,List.not_mem_nil,or_false] at h
 rcases h with rfl | rfl | rfl | rfl | rfl | rfl | rfl | rfl <;> exact ⟨by decide,by decide⟩
theorem wrap_one (p:Nat) (h:p<3):IntKind.i64.wrap (1+(p:Int))=1+p:=yQ _ (by omega) (by omega)
theorem sum_le (p:Nat) (h:p<3):(1:Int)+(p:Int)<=((3:Nat):Int):=by omega
theorem sum_lo (p:Nat):(-1000:Int)<=(1:Int)+(p:Int):=by omega
theorem cst3:cst 3=6448:=rfl
def StratD (rd Q:Nat) (s:Bs) (w:World) (en:Ending) (w':World):Prop :=
 ∃ b:Bd,en=.returned (str (zO b))/\But (· = rd) w w'/\kt w' rd Q/\qA (zW s).1.args b/\lvB b/\zX b<=5220
set_option maxRecDepth 100000 in
theorem uo (rd P:Nat) (s:Bs) (nD:s.length<=100) (hh:kC 3 (zW s).1.args) (w:World) (h:kt w rd P) (hP:P+6500<=1099511627776) :
 Calls Tryz.prog 34 #[.pointer (some ⟨rd,0,none⟩),str s] w (StratD rd (P+6449) s w):=by
 have bY:=h.lt
 have H:=gl h;have HH:=gl hh
 clear h hh
 go_enter Tryz.func34,Tryz.ntmps34
 go_wp2_with fail
 refine (xZ s (show _<=_ by omega) w).mono ?_
 rintro en w1 ⟨tv,rfl,bQ,ee⟩
 obtain ⟨ta,tc,etv⟩:=zu ee
 subst etv
 have cK:=H.out.below (bQ.mono (g_ _))
 rw [k8] at ee
 generalize hT:(zW s).1=t at *
 have z1:=bQ.size
 have hcT:(w1.alloc (.cells #[.slice ta t.args.length tc] 43)).cell? ⟨w1.heap.size,0,none⟩=some (.slice ta t.args.length tc):=by simp
 have hne:w1.heap.size≠rd:=by omega
 have hF:∀ k,w.heap.size<=k->k≠rd:=fun k hk=>by omega
 have oM:Rep (w.heap.size<=·) (w1.alloc (.cells #[.slice ta t.args.length tc] 43)) (.sl 43 1 t.args.length (kd t.args)) (.slice ta t.args.length tc):=(Rep.keep fun b o h ho=>⟨h,zV ho⟩).1 _ _ ee
 have AJ:=cK.alloc (.cells #[.slice ta t.args.length tc] 43)
 have C1:=gl (jz rd P 3 _ AJ.drew (by omega) (by omega) (by omega))
 have C2:=gl (fun w5 (h5:But (· = rd) (w1.alloc (.cells #[.slice ta t.args.length tc] 43)) w5) (p5:Nat) (tI:p5<3) (fP:kt w5 rd (P+1)) =>
  l91Body_any rd 3 (by omega) (1+(p5:Int)) t.args (w.heap.size<=·) (.slice ta t.args.length tc) w5 (P+1) (sum_le p5 tI) (sum_lo p5) (by rw [cst3];omega) fP HH.out hF (Rep.but h5 (fun b hb=>⟨hF b hb,hb⟩) oM))
 have cD:=gl bQ
 have HTT:=gl hT
 clear hT ee oM AJ cK bQ hF
 go_wp2_with fail
 go_region_held3 (fun w'=>w'.cell? ⟨w1.heap.size,0,none⟩=some (.slice ta t.args.length tc))
  (first
   | exact hcT
   | exact hcL
   | exact hcB
   | exact hcP
   | go_keep)
  (first
   | (go_at_call 44;refine (gG 5220 b nF (by omega) iP _ w6 _ _ _ _ fD).mono ?_;rintro en7 w7 ⟨rfl,bV⟩;have hcL:=(bV.cell (hU w6 ⟨w1.heap.size,0,none⟩ hcB)).trans hcB)
   | (go_at_call 53;refine (C2.out _ cq _ tI fP).mono ?_;rintro o_ w6 ⟨b,s6,v6,a2,n2,k2,a3,n3,k3,rfl,bP,fW,mG,iP,nF,fD⟩;have hcB:=jH bP hne hcP)
   | (go_at_call 14;refine C1.out.mono ?_;rintro en5 w5 ⟨p5,rfl,tI,bC,fP⟩;have cq:=but_drew2 bC;have hcP:=jH cq hne hcT;have zz:=wrap_one p5 tI))
 go_wp2_with fail
 go_ret
 have cE:But (· = rd) w (w1.alloc (.cells #[.slice ta t.args.length tc] 43)):=(But.ofBelow cD.out).alloc _
 refine ⟨b,rfl,((cE.trans cq).trans bP).trans (But.ofBelow bV),(fW.below bV).mono (by rw [cst3];omega),?_,iP,nF⟩
 rw [HTT.out];exact mG
theorem wb {s:Bs} (cW:(zW s).2=true):kC 3 (zW s).1.args:=by
 have:=uy (qv cW)
 exact ⟨this.1,by have:=this.2;omega⟩
theorem pB (rd P:Nat) (s:Bs) (hs:s∈jQ) (w:World) (h:kt w rd P) (hP:P+6500<=1099511627776) :
 Calls Tryz.prog 34 #[.pointer (some ⟨rd,0,none⟩),str s] w (StratD rd (P+6449) s w) :=
 uo rd P s (type_ok hs).2 (wb (type_ok hs).1) w h hP
def Given (rd Q:Nat) (w:World) (en:Ending) (w':World):Prop :=
 ∃ s text:Bs,en=.returned (.tuple #[str s,str text])/\s.length<=100/\text.length<=100000/\But (· = rd) w w'/\kt w' rd Q
theorem odd_len {s:Bs} (h:s∈jQ++yB):s.length<=100:=by
 simp only [jQ,yB,List.mem_append,List.mem_cons,List.not_mem_nil,or_false] at h
 rcases h with (rfl | rfl | rfl | rfl | rfl | rfl | rfl | rfl) | (rfl | rfl | rfl | rfl | rfl | rfl | rfl) <;> decide
theorem bad_len {s:Bs} (h:s∈yO):s.length<=100:=by
 simp only [yO,List.mem_cons,List.not_mem_nil,or_false] at h
 rcases h with rfl | rfl | rfl | rfl | rfl | rfl | rfl | rfl <;> decide
set_option maxRecDepth 100000 in
theorem l91Given_any (rd P:Nat) (w:World) (h:kt w rd P) (hP:P+7000<=1099511627776) :
 Calls Tryz.prog 12 #[.pointer (some ⟨rd,0,none⟩)] w (Given rd (P+6500) w):=by
 go_enter Tryz.func12,Tryz.ntmps12
 go_wp2_with fail
 refine (wh rd P w h (by omega)).mono ?_
 rintro en w1 ⟨s,hs,rfl,bQ,cK⟩
 have HS:=gl hs;clear hs h
 go_wp2_with fail
 refine (jz rd (P+1) 16 w1 cK (by omega) (by omega) (by omega)).mono ?_
 rintro en w2 ⟨v,rfl,hv,bZ,cH⟩
 have cA:=bQ.trans bZ
 by_cases er:v=0
 ·subst er
  clear cK bQ bZ
  go_wp2_with fail
  refine (l91Odd_any rd (P+2) w2 cH (by omega)).mono ?_
  rintro en w3 ⟨s3,fu,rfl,bU,rT⟩
  have HS3:=gl fu;clear fu cH
  have tg:=rT.lt
  go_wp2_with fail
  refine (wU rd (P+2+2) (.slice (some ⟨w3.heap.size,0,none⟩) 8 8) yO _ (rT.alloc (.cells (yO.map str).toArray 9)) (yZ.newAt tg yO 8 rfl _ (w3.heap.size) rfl) (by decide) (by decide) (by omega)).mono ?_
  rintro en w4 ⟨s4,eR,rfl,bS,nd⟩
  have HS4:=gl eR;clear eR
  go_wp2_with fail
  refine bodyPost_ret (v:=.tuple #[str s3,str s4]) (by simp [results,Tryz.results12,go_sem]) rfl ?_
  exact ⟨s3,s4,rfl,odd_len HS3.out,h_ (bad_len HS4.out) (by omega),(cA.trans bU).trans (((But.refl _ w3).alloc _).trans bS),nd.mono (by omega)⟩
 ·have co:((v:Int) == 0)=false:=by rw [beq_eq_false_iff_ne];omega
  clear cK bQ bZ
  go_wp2_with fail
  refine (pB rd (P+2) s HS.out w2 cH (by omega)).mono ?_
  rintro en w3 ⟨b,rfl,bU,rT,hf,dQ,hsz⟩
  have hlen:=kz b dQ
  clear hf
  go_wp2_with fail
  refine bodyPost_ret (v:=.tuple #[str s,str (zO b)]) (by simp [results,Tryz.results12,go_sem]) rfl ?_
  exact ⟨s,zO b,rfl,(type_ok HS.out).2,by omega,cA.trans bU,rT.mono (by omega)⟩
theorem but_new {rd:Nat} {w w1 w2:World} (h1:Below w.heap.size w w1) (dz:w.heap.size<=rd) (h2:But (· = rd) w1 w2):Below w.heap.size w w2 :=
 h1.trans (h2.toBelow h1.size fun i hi e=>by omega)
theorem strat_len {rd Q:Nat} {s:Bs} {w w':World} {en:Ending} (h:StratD rd Q s w en w'):∃ m:Bs,en=.returned (str m)/\m.length<=100000/\But (· = rd) w w'/\kt w' rd Q:=by
 obtain ⟨b,rfl,h1,h2,h3,h4,h5⟩:=h
 have:=kz b h4
 exact ⟨_,rfl,by omega,h1,h2⟩
def qB (B:Nat) (w:World) (a:Option Addr) (xs:List Bs):Prop:=∀ (k:Nat) (s:Bs),xs[k]? = some s->∃ b o,a=some ⟨b,o,none⟩/\B<=b/\w.cell? ⟨b,o+k,none⟩=some (str s)
theorem qB.at {B:Nat} {w:World} {a:Option Addr} {xs:List Bs} (h:qB B w a xs):xV w a xs:=fun k s hs=>by
 obtain ⟨b,o,e,_,hc⟩:=h k s hs
 exact ⟨b,o,e,hc⟩
theorem qB.but {B rd:Nat} {w w':World} {a:Option Addr} {xs:List Bs} (h:qB B w a xs) (hb:But (· = rd) w w') (dz:rd<B):qB B w' a xs:=fun k s hs=>by
 obtain ⟨b,o,e,hB,hc⟩:=h k s hs
 exact ⟨b,o,e,hB,(hb.cell (p:=⟨b,o+k,none⟩) (hU w ⟨b,o+k,none⟩ hc) (fun e=>by have e2:b=rd:=e;omega)).trans hc⟩
theorem Own.strsNew {B:Nat} {w:World} {e:TypeId} {a:Option Addr} {n c:Nat} {xs:List Bs} (h:Own w e 1 (.slice a n c) n (xs.map str)) (hf:∀ g,(Value.slice a n c).ownBlock=some g->B<=g):qB B w a xs:=by
 intro k s hk
 have hn:xs.length=n:=by have:=h.1;simpa using this
 have bY:=(List.getElem?_eq_some_iff.1 hk).1
 rcases h.2 with ⟨e0,e1⟩ | ⟨g,cap,cur,e0,hrest⟩
 ·omega
 ·injection e0 with e1 e2 e3
  subst e1
  refine ⟨g,0,rfl,hf g (by simp [Value.ownBlock]),?_⟩
  have:=World.ownsRow.cells h (g:=g) (by simp [Value.ownBlock]) k (str s) (by simp [hk])
  rw [Nat.zero_add]
  unfold Addr.add at this
  split at this
  ·rename_i h0;subst h0;exact this
  ·simpa using this
theorem Own.cap {w:World} {e:TypeId} {a:Option Addr} {n c k:Nat} {xs:List Value} (h:Own w e 1 (.slice a n c) k xs):n<=c:=by
 rcases h.2 with ⟨e0,rfl⟩ | ⟨g,cap,cur,e0,_,_,hc,_⟩
 ·injection e0 with e1 e2 e3;omega
 ·injection e0 with e1 e2 e3;omega
theorem wN {t:Ty} (h:zY t<=15):(∀ a∈t.args,zY a<=15)/\t.args.length<=15:=by
 refine ⟨(uy h).1,?_⟩
 have:=zl t.args;have:=kN t;omega
def jf (s:Bs):List Bs:=if (zW s).2 then (zW s).1.args.map zM else []
set_option maxRecDepth 100000 in
theorem x7 (s:Bs) (hs:Lim s.length) (w:World) :
 Calls Tryz.prog 35 #[str s] w fun en w'=>∃ a c,en=.returned (.tuple #[.slice a (jf s).length c,.bool (zW s).2])/\Below w.heap.size w w'/\qB w.heap.size w' a (jf s):=by
 go_enter Tryz.func35,Tryz.ntmps35
 go_wp2_with fail
 refine (xZ s hs w).mono ?_
 rintro en w1 ⟨v,rfl,bQ,cK⟩
 obtain ⟨ta,tc,e⟩:=zu cK
 subst e
 cases cW:(zW s).2 with
 | false =>
   have cD:=gl bQ;have oJ:=gl cW;clear bQ cK cW
   have z1:=cD.out.size
   go_wp2_with fail
   refine bodyPost_ret (v:=.tuple #[.slice (some ⟨w1.heap.size+1,0,none⟩) 0 0,.bool false]) (by simp [results,Tryz.results35,go_sem]) rfl ?_
   have e0:jf s=[]:=by unfold jf;rw [oJ.out];rfl
   rw [e0,oJ.out]
   exact ⟨_,_,rfl,((cD.out.alloc z1 _).alloc (by rw [zK];omega) _),fun k x hk=>by simp at hk⟩
 | true =>
   have cv:=qv cW
   have e_:=wN cv
   have e0:jf s=(zW s).1.args.map zM:=by unfold jf;rw [cW];rfl
   have HE:=gl e0
   have oJ:=gl cW
   clear cW e0
   generalize hT:(zW s).1=t at *
   have hlen:(jf s).length=t.args.length:=by rw [HE.out,List.length_map]
   have HLEN:=gl hlen
   rw [k8] at cK
   obtain ⟨_,_,e,_,_,bJ⟩:=zE cK
   cases e
   obtain ⟨W,hW⟩:=zzN (w1.alloc (.cells #[.slice ta t.args.length tc] 43))
   have bX:W.heap[w1.heap.size]? = some (.cells #[.slice ta t.args.length tc] 43 (0,0)):=by rw [<- hW];exact zR _ _
   have bE:Below w.heap.size w W:=by rw [<- hW];exact bQ.alloc bQ.size _
   have Ci:Below w1.heap.size w1 W:=by rw [<- hW];exact (hG _ _).alloc (g_ _) _
   have d6:w.heap.size<=w1.heap.size:=bQ.size
   have dL:W.heap.size=w1.heap.size+1:=by rw [<- hW,zK]
   have HW:=gl (go hW (go bX (go bE (go Ci (go d6 dL)))))
   have AT:=gl bJ
   have HA:=gl e_
   clear hW bX bE Ci d6 dL bJ cK hT hlen bQ
   have hlb:t.args.length<=15:=HA.out.2
   go_wp2_with fail
   rw [HW.out.1]
   go_loopw [6,7] (fun o i wr=>∃ k:Nat,k<=t.args.length/\i=.int .i64 k/\∃ a c,o=.slice a k c/\Own wr 9 1 (.slice a k c) k (((t.args.take k).map zM).map str)/\Below W.heap.size W wr/\(∀ g,(Value.slice a k c).ownBlock=some g->W.heap.size<=g)) (fun _ i _=>t.args.length-(intOf i).toNat)
   case atStart=>exact ⟨0,Nat.zero_le _,rfl,_,_,rfl,Own.litAt #[] 0 _ (by have:=HW.out.2.2.2.2.2;omega) (by decide) rfl,(hG _ _).alloc (g_ _) _,fun g h=>by simp [Value.ownBlock] at h;have:=HW.out.2.2.2.2.2;omega⟩
   case round =>
    obtain ⟨k,hk,rfl,a,c,rfl,ho,hb,hf⟩:=hrel
    have HO:=gl ho;have HF:=gl hf;have HB:=gl hb
    clear ho hf hb
    have hcX:wr.cell? ⟨w1.heap.size,0,none⟩=some (.slice ta t.args.length tc):=by
     have h:=(HB.out.block _ (zZ HW.out.2.1)).trans HW.out.2.1
     simp [World.cell?,h]
    by_cases bY:k<t.args.length
    ·have cz:(k:Int)<(t.args.length:Int):=by omega
     obtain ⟨b,o,u,d,e,l_,f7,hd,hc,be⟩:=AT.out k bY
     subst e
     rw [qo,Option.map_eq_some_iff] at hd
     obtain ⟨tk,ht,rfl⟩:=hd
     obtain ⟨ua,uc,rfl⟩:=zu be
     have h1r:Below w1.heap.size w1 wr:=HW.out.2.2.2.1.trans (HB.out.mono (by have:=HW.out.2.2.2.2.2;omega))
     have q0:wr.cell? ⟨b,o+k,none⟩=some (.slice ua tk.args.length uc):=(h1r.cell (p:=⟨b,o+k,none⟩) f7).trans hc
     have fU:zY tk<=15:=HA.out.1 tk (List.mem_of_getElem? ht)
     have C1:=gl (xK 15 tk fU (by omega) _ wr _ (Rep.below h1r (fun _ h=>h) be))
     have HT:=gl ht
     clear ht hc be h1r l_
     go_wp2_with fail
     (with_reducible refine C1.out.mono ?_)
     rintro en w4 ⟨rfl,bS⟩
     have rI:=HO.out.keep (w':=w4) fun g x _ hx=>by rw [bS.block g (zZ hx)];exact hx
     have eF:=gl (zzT HB.out bS);have Cv:=gl rI
     clear bS rI C1
     obtain ⟨X,hX⟩:=zzM (zM tk)
     rw [<- hX]
     have HX:=gl hX;clear hX
     go_wp2_with (at_builtin;refine zP rfl _ _ 27 rfl 9 (str []) 1 16 Tryz.underlying27 Tryz.infoStr rfl (by decide) (.slice a k c) k (((t.args.take k).map zM).map str) rfl ?c1 _ 1 [str X] rfl ?c2 ?c3 ?c4 ?_)
     case c1=>exact Cv.out.alloc _
     case c2=>exact zS.lit (by simp [Value.oneCell'])
     case c3=>unfold maxLen;omega
     case c4=>omega
     intro a' c' w7 bI bV bH
     have bq:Below W.heap.size W w7:=by
      have h1:=eF.out
      refine (h1.alloc h1.size _).trans (bV.toBelow (by rw [zK];have:=h1.size;omega) fun i hi e=>?_)
      have:=HF.out i e;omega
     have cu:∀ g,(Value.slice a' (k+1) c').ownBlock=some g->W.heap.size<=g:=by
      intro g h
      rcases bH g h with h | h
      ·exact HF.out g h
      ·have h2:=eF.out.size
       omega
     have eV:Own w7 9 1 (.slice a' (k+1) c') (k+1) (((t.args.take (k+1)).map zM).map str):=by
      have e:((t.args.take (k+1)).map zM).map str=List.take k (List.map (str ∘ zM) t.args)++[str (zM tk)]:=by rw [List.take_add_one,HT.out];simp [List.map_take]
      have h:=bI
      rw [HX.out] at h
      rw [e]
      simpa [List.map_take] using h
     have nG:=gl (go eV (go bq cu));clear bI eV bq cu bV bH
     go_wp2_with fail
     go_roundw
     case rel=>exact ⟨k+1,by omega,by go_num,a',c',rfl,nG.out.1,nG.out.2.1,nG.out.2.2⟩
     case measure=>simp [intOf];omega
    ·obtain rfl:k=t.args.length:=by omega
     go_wp2_with fail
     refine bodyPost_ret (v:=.tuple #[.slice a t.args.length c,.bool true]) (by simp [results,Tryz.results35,go_sem]) rfl ?_
     have h0:=HO.out
     rw [List.take_length] at h0
     refine ⟨a,c,by rw [HLEN.out,oJ.out],HW.out.2.2.1.trans (HB.out.mono (by have:=HW.out.2.2.2.2;omega)),?_⟩
     rw [HE.out]
     exact h0.strsNew fun g h=>by have:=HF.out g h;have:=HW.out.2.2.2.2;omega
theorem argsOf_len (s:Bs):(jf s).length<=15:=by
 unfold jf
 cases h:(zW s).2 with
 | false=>simp
 | true=>simp;exact (wN (qv h)).2
theorem argsOf_each {s x:Bs} (h:x∈jf s):x.length<=100/\kC 3 (zW x).1.args:=by
 unfold jf at h
 cases cW:(zW s).2 with
 | false=>rw [cW] at h;simp at h
 | true =>
   rw [cW] at h
   simp only [if_true,List.mem_map] at h
   obtain ⟨t,ht,rfl⟩:=h
   have cv:=(wN (qv cW)).1 t ht
   have hl:=kO 15 t cv
   refine ⟨by omega,?_⟩
   exact wb (by rw [js cv])
def ArgsD (rd Q:Nat) (w:World) (en:Ending) (w':World):Prop :=
 ∃ (xs:List Bs) (a:Option Addr) (c:Nat),en=.returned (.slice a xs.length c)/\xs.length<=16/\xs.length<=c/\(∀ x∈xs,x.length<=100000)/\qB w.heap.size w' a xs/\But (· = rd) w w'/\kt w' rd Q
set_option maxRecDepth 100000 in
theorem l91Args_any (rd P:Nat) (s:Bs) (hs:Lim s.length) (w:World) (h:kt w rd P) (hP:P+200000<=1099511627776) :
 Calls Tryz.prog 13 #[.pointer (some ⟨rd,0,none⟩),str s] w (ArgsD rd (P+100000) w):=by
 have bY:=h.lt
 have H:=gl h;clear h
 have Bk:=argsOf_len s
 go_enter Tryz.func13,Tryz.ntmps13
 go_wp2_with fail
 refine (x7 s hs w).mono ?_
 rintro en w1 ⟨la,lc,rfl,bQ,eI⟩
 obtain ⟨ok,cW⟩:=zzM ((zW s).2)
 rw [<- cW]
 clear cW
 have CA:=gl (fun x (h:x∈jf s)=>argsOf_each h)
 generalize jf s=ls at *
 have cK:=H.out.below (bQ.mono (g_ _))
 have d6:=bQ.size
 have hrd1:rd<w1.heap.size:=by omega
 have HX:=gl eI;have cD:=gl bQ;have HR1:=gl cK
 clear eI bQ cK
 obtain ⟨W,hW⟩:=zzN (w1.alloc (.cells #[] 9))
 have nS:kt W rd P:=by rw [<- hW];exact HR1.out.alloc _
 have Ci:But (· = rd) w1 W:=by rw [<- hW];exact (But.refl _ _).alloc _
 have hO0:Own W 9 1 (.slice (some ⟨w1.heap.size,0,none⟩) 0 0) 0 []:=by rw [<- hW];exact Own.litAt #[] 0 _ rfl (by decide) rfl
 have HW:=gl (go hW (go nS (go Ci hO0)))
 clear hW nS Ci hO0
 go_wp2_with fail
 rw [HW.out.1]
 go_loopw [7,8] (fun o i wr=>∃ k:Nat,k<=ls.length/\i=.int .i64 k/\∃ a c ys,o=.slice a k c/\Own wr 9 1 (.slice a k c) k (List.map str ys)/\But (· = rd) w1 wr/\(∀ g,(Value.slice a k c).ownBlock=some g->w1.heap.size<=g)/\kt wr rd (P+6449*k)/\(∀ y∈ys,y.length<=100000)) (fun _ i _=>ls.length-(intOf i).toNat)
 case atStart=>exact ⟨0,Nat.zero_le _,rfl,_,_,[],rfl,HW.out.2.2.2,HW.out.2.2.1,fun g h=>by simp [Value.ownBlock] at h;omega,HW.out.2.1,by simp⟩
 case round =>
  obtain ⟨k,hk,rfl,a,c,ys,rfl,ho,hb,hf,hr,hy⟩:=hrel
  have HO:=gl ho;have HF:=gl hf;have HB:=gl hb;have HR:=gl hr;have HY:=gl hy
  clear ho hf hb hr hy
  by_cases rh:k<ls.length
  ·have cz:(k:Int)<(ls.length:Int):=by omega
   obtain ⟨x,hx⟩:∃ x,ls[k]? = some x:=⟨ls[k],by simp [rh]⟩
   obtain ⟨b,o,ea,mh,hc⟩:=HX.out k x hx
   subst ea
   have q0:wr.cell? ⟨b,o+k,none⟩=some (str x):=(HB.out.cell (p:=⟨b,o+k,none⟩) (hU w1 ⟨b,o+k,none⟩ hc) (fun e=>by have e2:b=rd:=e;omega)).trans hc
   have hE:=CA.out x (List.mem_of_getElem? hx)
   have C1:=gl (uo rd (P+6449*k) x hE.1 hE.2 wr HR.out (by omega))
   clear hx hc hE
   go_wp2_with fail
   (with_reducible refine C1.out.mono ?_)
   intro en w4 h4
   obtain ⟨m,rfl,lm,bS,nd⟩:=strat_len h4
   have rI:=HO.out.keep (w':=w4) fun g y hg hy=>by
    rw [bS.block g (zZ hy) (fun e=>by have e2:g=rd:=e;have:=HF.out g hg;omega)];exact hy
   have eF:=gl (HB.out.trans bS);have Cv:=gl rI;have HR4:=gl nd;have HM:=gl lm
   clear bS rI nd h4 C1 lm
   go_wp2_with (at_builtin;refine zP rfl _ _ 27 rfl 9 (str []) 1 16 Tryz.underlying27 Tryz.infoStr rfl (by decide) (.slice a k c) k (List.map str ys) rfl ?c1 _ 1 [str m] rfl ?c2 ?c3 ?c4 ?_)
   case c1=>exact Cv.out.alloc _
   case c2=>exact zS.lit (by simp [Value.oneCell'])
   case c3=>unfold maxLen;omega
   case c4=>omega
   intro a' c' w7 bI bV bH
   have bq:But (· = rd) w1 w7:=(eF.out.alloc (.cells #[str m] 9)).trans' bV fun i hi e=>by have:=HF.out i e;omega
   have dE:kt w7 rd (P+6449*(k+1)):=by
    exact ((HR4.out.alloc (.cells #[str m] 9)).but bV fun i hi e=>by have:=HF.out i e;omega).mono (by omega)
   have cu:∀ g,(Value.slice a' (k+1) c').ownBlock=some g->w1.heap.size<=g:=by
    intro g h
    rcases bH g h with h | h
    ·exact HF.out g h
    ·have:=eF.out.size;omega
   have eV:Own w7 9 1 (.slice a' (k+1) c') (k+1) (List.map str (ys++[m])):=by rw [List.map_append];exact bI
   have nG:=gl (go eV (go bq (go cu dE)));clear bI eV bq cu bV bH dE
   go_wp2_with fail
   go_roundw
   case rel=>exact ⟨k+1,by omega,by go_num,a',c',_,rfl,nG.out.1,nG.out.2.1,nG.out.2.2.1,nG.out.2.2.2,fun y hy=>by
    rcases List.mem_append.1 hy with h | h
    ·exact HY.out y h
    ·simp at h;subst h;exact HM.out⟩
   case measure=>simp [intOf];omega
  ·obtain rfl:k=ls.length:=by omega
   have hlen:ys.length=ls.length:=by have:=HO.out.1;simpa using this
   have HL:=gl hlen;clear hlen
   go_wp2_with fail
   refine (jz rd (P+6449*ls.length) 24 wr HR.out (by omega) (by omega) (by omega)).mono ?_
   rintro en w2 ⟨v,rfl,hv,bZ,cH⟩
   have AZ:=HO.out.keep (w':=w2) fun g y hg hy=>by
    rw [bZ.block g (zZ hy) (fun e=>by have e2:g=rd:=e;have:=HF.out g hg;omega)];exact hy
   have cw:=gl (HB.out.trans bZ);have HO2:=gl AZ;have eE:=gl cH
   clear bZ AZ cH
   have oC:=cw.out.size
   by_cases er:v=0
   ·subst er
    go_wp2_with (at_builtin;refine zP rfl _ _ 27 rfl 9 (str []) 1 16 Tryz.underlying27 Tryz.infoStr rfl (by decide) (.slice a ls.length c) ls.length (List.map str ys) rfl ?c1 _ 1 [str [116]] rfl ?c2 ?c3 ?c4 ?_)
    case c1=>exact HO2.out.alloc _
    case c2=>exact zS.lit (by simp [Value.oneCell'])
    case c3=>unfold maxLen;omega
    case c4=>omega
    intro a' c' w7 bI bV bH
    have bq:But (· = rd) w1 w7:=(cw.out.alloc (.cells #[str [116]] 9)).trans' bV fun i hi e=>by have:=HF.out i e;omega
    have dE:kt w7 rd (P+100000):=((eE.out.alloc (.cells #[str [116]] 9)).but bV fun i hi e=>by have:=HF.out i e;omega).mono (by omega)
    have cu:∀ g,(Value.slice a' (ls.length+1) c').ownBlock=some g->w.heap.size<=g:=by
     intro g h
     rcases bH g h with h | h
     ·have:=HF.out g h;omega
     ·omega
    have eV:Own w7 9 1 (.slice a' (ls.length+1) c') (ls.length+1) (List.map str (ys++[[116]])):=by rw [List.map_append];exact bI
    have nG:=gl (go eV (go bq (go cu dE)));clear bI eV bq cu bV bH dE
    go_wp2_with fail
    refine bodyPost_ret (v:=.slice a' (ls.length+1) c') (by simp [results,Tryz.results13,go_sem]) rfl ?_
    have Bm:(ys++[[116]]).length=ls.length+1:=by rw [List.length_append,HL.out];rfl
    refine ⟨ys++[[116]],a',c',by rw [Bm],by omega,by rw [Bm];exact nG.out.1.cap,fun y hy=>?_,nG.out.1.strsNew nG.out.2.2.1,(But.ofBelow cD.out).trans nG.out.2.1,nG.out.2.2.2⟩
    rcases List.mem_append.1 hy with h | h
    ·exact HY.out y h
    ·simp at h;subst h;simp
   ·have co:((v:Int) == 0)=false:=by rw [beq_eq_false_iff_ne];omega
    go_wp2_with fail
    refine bodyPost_ret (v:=.slice a ls.length c) (by simp [results,Tryz.results13,go_sem]) rfl ?_
    refine ⟨ys,a,c,by rw [HL.out],by rw [HL.out];omega,by rw [HL.out];exact HO2.out.cap,HY.out,HO2.out.strsNew fun g h=>by have:=HF.out g h;omega,(But.ofBelow cD.out).trans cw.out,eE.out.mono (by omega)⟩
theorem qB.take {B:Nat} {w:World} {a:Option Addr} {xs:List Bs} (h:qB B w a xs) (n:Nat):qB B w a (xs.take n):=fun k s hs=>by
 rw [List.getElem?_take] at hs
 split at hs
 ·exact h k s hs
 ·simp at hs
theorem qB.low {B C:Nat} {w:World} {a:Option Addr} {xs:List Bs} (h:qB B w a xs) (hC:C<=B):qB C w a xs:=fun k s hs=>by
 obtain ⟨b,o,e,h1,h2⟩:=h k s hs
 exact ⟨b,o,e,h_ hC h1,h2⟩
def Drawn3 (w:World) (en:Ending) (w':World):Prop:=∃ s m n:Bs,en=.returned (.tuple #[str s,str m,str n])/\s.length<=100/\m.length<=100000/\n.length<=100000/\Below w.heap.size w w'
theorem pD (a0:Option Addr) (len cap:Nat) (zs:List Int) (w:World) (h:Row8 w a0 len cap zs) (hl:len<=1048576) :
 Calls Tryz.prog 4 #[.slice a0 len cap] w (Drawn3 w):=by
 go_enter Tryz.func4,Tryz.ntmps4
 go_wp2_with fail
 refine (l6Open_any a0 len cap zs w h hl).mono ?_
 rintro en w1 ⟨rfl,bQ,cK,cN⟩
 clear h
 go_wp2_with fail
 refine (l91Given_any w.heap.size 0 w1 cK (by omega)).mono ?_
 rintro en w2 ⟨s,text,rfl,hs,ht,bZ,cH⟩
 have cw:=gl (but_new bQ (g_ _) bZ);clear bQ bZ cK
 go_wp2_with fail
 refine (l91Args_any w.heap.size (0+6500) s (show _<=_ by omega) w2 cH (by omega)).mono ?_
 rintro en w3 ⟨xs,a,c,rfl,hl3,tU,sn,tZ,bU,rT⟩
 have rh:=cH.lt
 have mU:=gl (but_new cw.out (g_ _) bU);have Cx:=gl (go sn (go tZ rh));clear bU cH tZ sn rh cN
 by_cases h0:xs.length=0
 ·have h0':((xs.length:Int) == 0)=true:=by rw [h0];rfl
  clear h0
  go_wp2_with fail
  refine bodyPost_ret (v:=.tuple #[str s,str text,str [116]]) (by simp [results,Tryz.results4,go_sem]) rfl ?_
  exact ⟨s,text,[116],rfl,hs,ht,by simp,mU.out⟩
 ·have h0':((xs.length:Int) == 0)=false:=by rw [beq_eq_false_iff_ne];omega
  have lZ:(0:Int)<(xs.length:Int):=by omega
  have C1:=gl (jz w.heap.size (0+6500+100000) 20 w3 rT (by omega) (by omega) (by omega))
  obtain ⟨x,hx⟩:∃ x,xs[0]? = some x:=⟨xs[0],by simp [Nat.pos_of_ne_zero h0]⟩
  have ic:=Cx.out.1 x (List.mem_of_getElem? hx)
  obtain ⟨b,o,e,hB,hc⟩:=Cx.out.2.1 0 x hx
  subst e
  have tg:=hU w3 _ hc
  have HX:=gl (go hc (go hB tg))
  clear h0 hx rT hc hB tg
  go_wp2_with fail
  refine C1.out.mono ?_
  rintro en w4 ⟨v,rfl,hv,bS,_⟩
  have q0:w4.cell? ⟨b,o+0,none⟩=some (str x):=(bS.cell (p:=⟨b,o+0,none⟩) HX.out.2.2 (fun e=>by have e2:b=w.heap.size:=e;have:=HX.out.2.1;have:=Cx.out.2.2;omega)).trans HX.out.1
  have eF:=gl (but_new mU.out (g_ _) bS);clear bS C1
  by_cases er:v=0
  ·subst er
   clear q0
   go_wp2_with fail
   refine bodyPost_ret (v:=.tuple #[str s,str text,str [116]]) (by simp [results,Tryz.results4,go_sem]) rfl ?_
   exact ⟨s,text,[116],rfl,hs,ht,by simp,eF.out⟩
  ·have co:((v:Int) == 0)=false:=by rw [beq_eq_false_iff_ne];omega
   have q1:w4.drew.cell? ⟨b,o,none⟩=some (str x):=q0
   have hposn:0<xs.length:=by omega
   clear er q0
   go_wp2_with fail
   go_region
   all_goals go_wp2_with fail
   all_goals
    refine bodyPost_ret (v:=.tuple #[str s,str text,str x]) (by simp [results,Tryz.results4,go_sem]) rfl ?_
    exact ⟨s,text,x,rfl,hs,ht,ic,eF.out.drew⟩
end Go.Proofs.YtepgfdhkkjfmhacGreatDoor

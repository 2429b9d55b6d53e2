/- Walks of functions that the statement reaches, and plain words. No conditions. -/
import Derived.Test.YthoimoenbccflaaDoorQ9
set_option linter.unusedVariables false
set_option linter.unusedSimpArgs false
set_option maxHeartbeats 4000000
namespace Go.Proofs.YthoimoenbccflaaDoor
open Go.RowKit
theorem atT_step {t:Ty} {p:Bs} {j:Nat} {a:Ty} (hj:j<p.length) (h:atT t (p.take j)=some a):atT t (p.take (j+1))=if 48<=p[j].toNat then a.args[p[j].toNat-48]? else none:=by
 rw [List.take_add_one,List.getElem?_eq_getElem hj,Option.toList_some,atT_append,h,Option.bind_some,atT_cons]
 split
 ·cases a.args[p[j].toNat-48]? with
  | none=>rfl
  | some b=>exact atT_nil b
 ·rfl
theorem atT_none {t:Ty} {p:Bs} {j:Nat} (h:atT t (p.take j)=none):atT t p=none:=by
 rw [<- List.take_append_drop j p,atT_append,h];rfl
def KAtPost (F:Nat->Prop) (t:Ty) (p:Bs) (w:World) (en:Ending) (w':World):Prop :=
 ∃ v,en=.returned v/\w'=w/\(atT t p=none->v=.pointer none)/\∀ a,atT t p=some a->Rep F w (encK a) v
set_option maxRecDepth 20000 in
theorem kindAt_any (F:Nat->Prop) (t:Ty) (p:Bs) (kv:Value) (w:World) (h:Rep F w (encK t) kv) (ht:atomsT t<=15) (hp:Lim p.length) :
 Calls Tryd.prog 47 #[kv,str p] w (KAtPost F t p w):=by
 have hl':=hp.le
 go_enter Tryd.func47,Tryd.ntmps47
 go_wp2_with fail
 go_loop [0,9] (fun k i=>∃ (j:Nat) (a:Ty),j<=p.length/\i=.int .i64 j/\atT t (p.take j)=some a/\Rep F w (encK a) k) (fun _ i=>p.length-(intOf i).toNat)
 case atStart=>exact ⟨0,t,Nat.zero_le _,rfl,by rw [List.take_zero];exact atT_nil t,h⟩
 case round =>
  clear h
  obtain ⟨j,a,hj,rfl,hat,hr⟩:=hrel
  obtain ⟨kb,ks,e,hF,hb,hrs⟩:=encK_open hr
  subst e
  by_cases hlt:j<p.length
  ·have hlt':(j:Int)<(p.length:Int):=by omega
   obtain ⟨sa,sc,e,hcap,hlen,hats⟩:=Rep_sl1_open hrs
   subst e
   have c0:w.cell? ⟨kb,0,none⟩=some (.slice sa a.args.length sc):=by simp [World.cell?,hb]
   have ha15:=atT_len _ _ _ hat
   have hargs:=args_len a
   have hal:a.args.length<=7:=by omega
   obtain ⟨x,hx⟩:∃ x:Nat,p[j].toNat=x:=⟨_,rfl⟩
   have hx256:x<256:=by rw [<- hx];exact UInt8.toNat_lt _
   have B:((((⟨p.toArray⟩:ByteArray)[j]'(lt_str hlt)).toNat:Int))=(x:Int):=by rw [byte_int hlt,hx]
   have hw1:IntKind.i64.wrap (x:Int)=(x:Int):=wrap_nat x (by omega)
   have hst:=atT_step hlt hat
   rw [hx] at hst
   have HS:=Lib.hid hst
   have HH:=Lib.hid (And.intro hats (And.intro hlen hcap))
   clear hst hats hlen hcap hb hrs hr hat ha15 hargs hx
   by_cases hA:x<48
   ·have hw2:IntKind.i64.wrap ((x:Int)-48)=(x:Int)-48:=by simp [IntKind.wrap,IntKind.bits,IntKind.signed];omega
    have hneg:(x:Int)-48<0:=by omega
    have HN:=Lib.hid (show atT t p=none from atT_none (j:=j+1) (by rw [HS.out,if_neg (show ¬ 48<=x by omega)]))
    clear hA HS HH
    go_wp2_with fail
    go_ret
    exact ⟨_,rfl,rfl,fun _=>rfl,fun b hb=>by rw [HN.out] at hb;simp at hb⟩
   ·obtain ⟨n,hnx⟩:∃ n,x=n+48:=⟨x-48,by omega⟩
    have hw2:IntKind.i64.wrap ((x:Int)-48)=(n:Int):=by rw [show (x:Int)-48=(n:Int) from by omega];exact wrap_nat n (by omega)
    have hge:¬ (n:Int)<0:=by omega
    have hs2:=HS.out
    rw [if_pos (show 48<=x by omega),show x-48=n from by omega] at hs2
    have HS2:=Lib.hid hs2
    clear hs2 HS hA hx256 hnx
    by_cases hB:a.args.length<=n
    ·have hB':(a.args.length:Int)<=(n:Int):=by omega
     have HN:=Lib.hid (show atT t p=none from atT_none (j:=j+1) (by rw [HS2.out];exact List.getElem?_eq_none hB))
     clear hB HH
     go_wp2_with fail
     go_ret
     exact ⟨_,rfl,rfl,fun _=>rfl,fun b hb=>by rw [HN.out] at hb;simp at hb⟩
    ·have hB':¬ (a.args.length:Int)<=(n:Int):=by omega
     have h9:¬ (9:Int)<(n:Int):=by omega
     have hn0:(0:Int)<=(n:Int):=by omega
     have hnl:(n:Int)<(a.args.length:Int):=by omega
     obtain ⟨b,o,u,d,ea,hFb,hblt,hd,hc,hru⟩:=HH.out.1 n (by omega)
     subst ea
     rw [encKs_at,Option.map_eq_some_iff] at hd
     obtain ⟨c,hcn,rfl⟩:=hd
     have HC:=Lib.hid (And.intro hcn hru)
     clear hcn hru hB HH
     go_wp2_with fail
     go_round
     case rel=>exact ⟨j+1,c,by omega,by go_num,by rw [HS2.out];exact HC.out.1,HC.out.2⟩
     case measure=>simp only [intOf];omega
  ·obtain rfl:j=p.length:=by omega
   rw [List.take_length] at hat
   have HA:=Lib.hid (And.intro hat hr)
   clear hat hr hb hrs hlt
   go_wp2_with fail
   go_ret
   exact ⟨_,rfl,rfl,fun h=>(by rw [HA.out.1] at h;simp at h),fun b hb=>(by rw [HA.out.1] at hb;obtain rfl:=Option.some.inj hb;exact HA.out.2)⟩
def plC (us:List (Value×Value)):List Value:=us.flatMap fun u=>[u.1,u.2]
theorem plC_cons (u:Value×Value) (us:List (Value×Value)):plC (u::us)=u.1::u.2::plC us:=by simp [plC]
theorem plC_append (us vs:List (Value×Value)):plC (us++vs)=plC us++plC vs:=by simp [plC]
theorem plC_at:∀ (us:List (Value×Value)) (i:Nat) (u:Value×Value),us[i]? = some u->(plC us)[i*2]? = some u.1/\(plC us)[i*2+1]? = some u.2
 | [],i,u,h=>by simp at h
 | v::us,0,u,h=>by obtain rfl:v=u:=by simpa using h
                   rw [plC_cons];exact ⟨rfl,rfl⟩
 | v::us,i+1,u,h=>by
   rw [List.getElem?_cons_succ] at h
   have:=plC_at us i u h
   rw [plC_cons,show (i+1)*2=i*2+1+1 from by omega]
   simpa using this
theorem Own.unlikeG {w:World} {e e':TypeId} {sz sz':Nat} {v v':Value} {n n':Nat} {xs ys:List Value} (h:Own w e sz v n xs) (h':Own w e' sz' v' n' ys) (he:e≠e') {g:Nat} (hg:v.ownBlock=some g):v'.ownBlock≠some g:=by
 intro hg'
 rcases h.2 with ⟨rfl,_⟩ | ⟨b,cap,cur,rfl,_,hb,_⟩
 ·simp [Value.ownBlock] at hg
 ·rcases h'.2 with ⟨rfl,_⟩ | ⟨b',cap',cur',rfl,_,hb',_⟩
  ·simp [Value.ownBlock] at hg'
  ·simp [Value.ownBlock] at hg hg'
   subst hg;subst hg'
   rw [hb] at hb'
   simp at hb'
   exact he hb'.2
theorem str_play:(9:TypeId)≠39:=by decide
theorem int_play:(3:TypeId)≠39:=by decide
theorem str_int:(9:TypeId)≠3:=by decide
abbrev Rows2:=List (List Value×List Value)
structure PlsG (w:World) (v:Value) (us:List (Value×Value)) (xs:Rows2):Prop where
 own:Own w 39 2 v us.length (plC us)
 len:us.length=xs.length
 each:∀ (i:Nat) (u:Value×Value) (x:List Value×List Value),us[i]? = some u->xs[i]? = some x->Own w 9 1 u.1 x.1.length x.1/\Own w 3 1 u.2 x.2.length x.2
 apart:∀ (i j:Nat) (u u':Value×Value),i≠j->us[i]? = some u->us[j]? = some u'->∀ g,(u.1.ownBlock=some g->u'.1.ownBlock≠some g)/\(u.2.ownBlock=some g->u'.2.ownBlock≠some g)
def PlB (v:Value) (us:List (Value×Value)) (b:Nat):Prop:=v.ownBlock=some b\/∃ u∈us,u.1.ownBlock=some b\/u.2.ownBlock=some b
theorem PlsG.mem {w:World} {v:Value} {us:List (Value×Value)} {xs:Rows2} (h:PlsG w v us xs) {u:Value×Value} (hu:u∈us):∃ (i:Nat) (x:List Value×List Value),us[i]? = some u/\xs[i]? = some x:=by
 obtain ⟨i,hi⟩:=List.mem_iff_getElem?.1 hu
 have hl:=(List.getElem?_eq_some_iff.1 hi).1
 rw [h.len] at hl
 exact ⟨i,xs[i],hi,List.getElem?_eq_getElem hl⟩
theorem PlsG.lt {w:World} {v:Value} {us:List (Value×Value)} {xs:Rows2} (h:PlsG w v us xs) {b:Nat} (hb:PlB v us b):b<w.heap.size:=by
 rcases hb with hb | ⟨u,hu,hb⟩
 ·exact h.own.lt hb
 ·obtain ⟨i,x,h1,h2⟩:=h.mem hu
  rcases hb with hb | hb
  ·exact (h.each i u x h1 h2).1.lt hb
  ·exact (h.each i u x h1 h2).2.lt hb
theorem PlsG.but {w w':World} {v:Value} {us:List (Value×Value)} {xs:Rows2} {m:Nat->Prop} (h:PlsG w v us xs) (hb:But m w w') (hm:∀ b,PlB v us b->¬ m b):PlsG w' v us xs :=
 ⟨h.own.keep fun g o hg ho=>by rw [hb.block g (lt_of_heap ho) (hm g (.inl hg))];exact ho,h.len,
  fun i u x h1 h2=>by
   have hu:=List.mem_of_getElem? h1
   obtain ⟨k1,k2⟩:=h.each i u x h1 h2
   exact ⟨k1.keep fun g o hg ho=>by rw [hb.block g (lt_of_heap ho) (hm g (.inr ⟨u,hu,.inl hg⟩))];exact ho,k2.keep fun g o hg ho=>by rw [hb.block g (lt_of_heap ho) (hm g (.inr ⟨u,hu,.inr hg⟩))];exact ho⟩,h.apart⟩
theorem PlsG.below {w w':World} {v:Value} {us:List (Value×Value)} {xs:Rows2} (h:PlsG w v us xs) (hb:Below w.heap.size w w'):PlsG w' v us xs :=
 h.but (m:=fun _=>False) (But.ofBelow hb) fun _ _ h=>h
theorem PlsG.nil (w:World):PlsG w (.slice none 0 0) [] [] :=
 ⟨World.ownsRow_nil w 0 _ 2,rfl,fun i u x h=>by simp at h,fun i j u u' _ h=>by simp at h⟩
theorem PlsG.snoc {w w':World} {v v':Value} {us:List (Value×Value)} {xs:Rows2} (h:PlsG w v us xs) {u:Value×Value} {x:List Value×List Value}
 (ho:Own w' 39 2 v' (us.length+1) (plC us++[u.1,u.2])) (hb:But (fun b=>v.ownBlock=some b) w w')
 (h1:Own w 9 1 u.1 x.1.length x.1) (h2:Own w 3 1 u.2 x.2.length x.2)
 (hf:∀ (g:Nat),u.1.ownBlock=some g\/u.2.ownBlock=some g->¬ PlB v us g):PlsG w' v' (us++[u]) (xs++[x]):=by
 have key:∀ {e:TypeId} {n:Nat} {r:Value} {ys:List Value},Own w e 1 r n ys->(∀ g,r.ownBlock=some g->v.ownBlock≠some g)->Own w' e 1 r n ys:=fun h hne =>
  h.keep fun g o hg ho=>by rw [hb.block g (lt_of_heap ho) (fun e=>hne g hg e)];exact ho
 refine ⟨by rw [List.length_append,List.length_singleton,plC_append];exact ho,by rw [List.length_append,List.length_append,h.len];rfl,fun i u' x' hu hx=>?_,fun i j a b hij ha hb' g=>?_⟩
 ·rcases Nat.lt_or_ge i us.length with hi | hi
  ·rw [List.getElem?_append_left hi] at hu
   rw [List.getElem?_append_left (by rw [<- h.len];exact hi)] at hx
   obtain ⟨k1,k2⟩:=h.each i u' x' hu hx
   exact ⟨key k1 (fun g hg=>k1.unlikeG h.own str_play hg),key k2 (fun g hg=>k2.unlikeG h.own int_play hg)⟩
  ·rw [List.getElem?_append_right hi] at hu
   rw [List.getElem?_append_right (by rw [<- h.len];exact hi),<- h.len] at hx
   have hi0:i-us.length=0:=by have:=(List.getElem?_eq_some_iff.1 hu).1;simp at this;omega
   rw [hi0] at hu hx
   obtain rfl:u=u':=by simpa using hu
   obtain rfl:x=x':=by simpa using hx
   exact ⟨key h1 (fun g hg=>h1.unlikeG h.own str_play hg),key h2 (fun g hg=>h2.unlikeG h.own int_play hg)⟩
 ·have last:∀ {k:Nat} {c:Value×Value},(us++[u])[k]? = some c->(us[k]? = some c/\k<us.length)\/(c=u/\k=us.length):=by
   intro k c hc
   rcases Nat.lt_or_ge k us.length with hk | hk
   ·rw [List.getElem?_append_left hk] at hc;exact .inl ⟨hc,hk⟩
   ·rw [List.getElem?_append_right hk] at hc
    have hi0:k-us.length=0:=by have:=(List.getElem?_eq_some_iff.1 hc).1;simp at this;omega
    rw [hi0] at hc
    exact .inr ⟨by simpa using hc.symm,by omega⟩
  rcases last ha with ⟨ka,hia⟩ | ⟨ea,hia⟩
  ·rcases last hb' with ⟨kb,hjb⟩ | ⟨eb,hjb⟩
   ·exact h.apart i j a b hij ka kb g
   ·have hm:=List.mem_of_getElem? ka
    rw [eb]
    exact ⟨fun e1 e2=>hf g (.inl e2) (.inr ⟨a,hm,.inl e1⟩),fun e1 e2=>hf g (.inr e2) (.inr ⟨a,hm,.inr e1⟩)⟩
  ·rcases last hb' with ⟨kb,hjb⟩ | ⟨eb,hjb⟩
   ·have hm:=List.mem_of_getElem? kb
    rw [ea]
    exact ⟨fun e1 e2=>hf g (.inl e1) (.inr ⟨b,hm,.inl e2⟩),fun e1 e2=>hf g (.inr e1) (.inr ⟨b,hm,.inr e2⟩)⟩
   ·omega
theorem PlB.snoc {v v':Value} {us:List (Value×Value)} {u:Value×Value} {b:Nat} (h:PlB v' (us++[u]) b):v'.ownBlock=some b\/PlB v us b\/u.1.ownBlock=some b\/u.2.ownBlock=some b:=by
 rcases h with h | ⟨c,hc,h⟩
 ·exact .inl h
 ·rcases List.mem_append.1 hc with hc | hc
  ·exact .inr (.inl (.inr ⟨c,hc,h⟩))
  ·simp at hc;subst hc;exact .inr (.inr h)
def plX (l:Pl):List Value×List Value:=(logM l,logP l)
def PlsAt (w:World) (L:List Pl) (v:Value) (us:List (Value×Value)):Prop:=PlsG w v us (L.map plX)
theorem PlsAt.play {w:World} {L:List Pl} {v:Value} {us:List (Value×Value)} (h:PlsAt w L v us) {i:Nat} {u:Value×Value} {l:Pl} (hu:us[i]? = some u) (hl:L[i]? = some l):PlayAt w l u.1 u.2:=by
 have:=h.each i u (plX l) hu (by rw [List.getElem?_map,hl];rfl)
 simpa [plX,PlayAt,logM,logP] using this
theorem PlsAt.length {w:World} {L:List Pl} {v:Value} {us:List (Value×Value)} (h:PlsAt w L v us):us.length=L.length:=by have:=h.len;rwa [List.length_map] at this
def marksL:Nat->List Nat->Rows2
 | _,[]=>[]
 | k,n::ns=>(marksS k n,marksI (k+n) n)::marksL (k+n+n) ns
theorem marksL_length:∀ (ns:List Nat) (k:Nat),(marksL k ns).length=ns.length
 | [],_=>rfl
 | n::ns,k=>by rw [marksL,List.length_cons,marksL_length ns];rfl
def markEnd (k:Nat) (ns:List Nat):Nat:=k+2*ns.sum
theorem marksL_at:∀ (ns:List Nat) (k i n:Nat),ns[i]? = some n->(marksL k ns)[i]? = some (marksS (markEnd k (ns.take i)) n,marksI (markEnd k (ns.take i)+n) n)
 | [],k,i,n,h=>by simp at h
 | m::ns,k,0,n,h=>by obtain rfl:m=n:=by simpa using h
                     rw [marksL];simp [markEnd]
 | m::ns,k,i+1,n,h=>by
   rw [List.getElem?_cons_succ] at h
   have:=marksL_at ns (k+m+m) i n h
   rw [marksL,List.getElem?_cons_succ,this,List.take_succ_cons]
   simp only [markEnd,List.sum_cons]
   rw [show k+m+m+2*(ns.take i).sum=k+2*(m+(ns.take i).sum) from by omega]
theorem markEnd_next {ns:List Nat} {i n:Nat} (h:ns[i]? = some n) (k:Nat):markEnd k (ns.take (i+1))=markEnd k (ns.take i)+n+n:=by
 rw [List.take_add_one,h]
 simp only [markEnd,Option.toList_some,List.sum_append,List.sum_cons,List.sum_nil];omega
theorem markEnd_le (k:Nat) (ns:List Nat) (i:Nat):markEnd k (ns.take i)<=markEnd k ns:=by
 have:(ns.take i).sum+(ns.drop i).sum=ns.sum:=by rw [<- List.sum_append,List.take_append_drop]
 simp only [markEnd];omega
def mixed (k:Nat) (ns:List Nat) (L:List Pl) (i:Nat):Rows2:=(marksL k ns).take i++(L.map plX).drop i
theorem PlsG.set1 {w w':World} {v:Value} {us:List (Value×Value)} {xs:Rows2} (h:PlsG w v us xs) {i:Nat} {u:Value×Value} {x:List Value×List Value} (hu:us[i]? = some u) (hx:xs[i]? = some x) {ys:List Value}
 (ho:Own w' 9 1 u.1 ys.length ys) (hb:But (fun b=>u.1.ownBlock=some b) w w'):PlsG w' v us (xs.set i (ys,x.2)):=by
 obtain ⟨o1,o2⟩:=h.each i u x hu hx
 refine ⟨h.own.keep fun g o hg ho=>by rw [hb.block g (lt_of_heap ho) (fun e=>o1.unlikeG h.own str_play e hg)];exact ho,by rw [List.length_set];exact h.len,fun j c y hc hy=>?_,h.apart⟩
 by_cases hij:i=j
 ·subst hij
  rw [hu] at hc
  obtain rfl:=Option.some.inj hc
  rw [List.getElem?_set_self (List.getElem?_eq_some_iff.1 hx).1] at hy
  obtain rfl:=Option.some.inj hy
  exact ⟨ho,o2.keep fun g o hg ho=>by rw [hb.block g (lt_of_heap ho) (fun e=>o1.unlikeG o2 str_int e hg)];exact ho⟩
 ·rw [List.getElem?_set_ne hij] at hy
  obtain ⟨k1,k2⟩:=h.each j c y hc hy
  exact ⟨k1.keep fun g o hg ho=>by rw [hb.block g (lt_of_heap ho) (fun e=>(h.apart i j u c hij hu hc g).1 e hg)];exact ho,
   k2.keep fun g o hg ho=>by rw [hb.block g (lt_of_heap ho) (fun e=>o1.unlikeG k2 str_int e hg)];exact ho⟩
theorem PlsG.set2 {w w':World} {v:Value} {us:List (Value×Value)} {xs:Rows2} (h:PlsG w v us xs) {i:Nat} {u:Value×Value} {x:List Value×List Value} (hu:us[i]? = some u) (hx:xs[i]? = some x) {ys:List Value}
 (ho:Own w' 3 1 u.2 ys.length ys) (hb:But (fun b=>u.2.ownBlock=some b) w w'):PlsG w' v us (xs.set i (x.1,ys)):=by
 obtain ⟨o1,o2⟩:=h.each i u x hu hx
 refine ⟨h.own.keep fun g o hg ho=>by rw [hb.block g (lt_of_heap ho) (fun e=>o2.unlikeG h.own int_play e hg)];exact ho,by rw [List.length_set];exact h.len,fun j c y hc hy=>?_,h.apart⟩
 by_cases hij:i=j
 ·subst hij
  rw [hu] at hc
  obtain rfl:=Option.some.inj hc
  rw [List.getElem?_set_self (List.getElem?_eq_some_iff.1 hx).1] at hy
  obtain rfl:=Option.some.inj hy
  exact ⟨o1.keep fun g o hg ho=>by rw [hb.block g (lt_of_heap ho) (fun e=>o2.unlikeG o1 (Ne.symm str_int) e hg)];exact ho,ho⟩
 ·rw [List.getElem?_set_ne hij] at hy
  obtain ⟨k1,k2⟩:=h.each j c y hc hy
  exact ⟨k1.keep fun g o hg ho=>by rw [hb.block g (lt_of_heap ho) (fun e=>o2.unlikeG k1 (Ne.symm str_int) e hg)];exact ho,
   k2.keep fun g o hg ho=>by rw [hb.block g (lt_of_heap ho) (fun e=>(h.apart i j u c hij hu hc g).2 e hg)];exact ho⟩
theorem mixed_zero (k:Nat) (ns:List Nat) (L:List Pl):mixed k ns L 0=L.map plX:=by simp [mixed]
theorem mixed_all (k:Nat) (ns:List Nat) (L:List Pl) (h:ns.length=L.length):mixed k ns L L.length=marksL k ns:=by
 simp only [mixed]
 rw [List.take_of_length_le (by rw [marksL_length,h];exact Nat.le_refl _),List.drop_of_length_le (by simp),List.append_nil]
theorem mixed_at {k:Nat} {ns:List Nat} {L:List Pl} {i:Nat} {l:Pl} (h:ns.length=L.length) (hl:L[i]? = some l):(mixed k ns L i)[i]? = some (plX l):=by
 have hi:=(List.getElem?_eq_some_iff.1 hl).1
 simp only [mixed]
 rw [List.getElem?_append_right (by rw [List.length_take];omega),List.length_take,marksL_length,Nat.min_eq_left (by omega),Nat.sub_self,List.getElem?_drop,List.getElem?_map,Nat.add_zero,hl];rfl
theorem mixed_next {k:Nat} {ns:List Nat} {L:List Pl} {i n:Nat} (h:ns.length=L.length) (hn:ns[i]? = some n) :
 (mixed k ns L i).set i (marksS (markEnd k (ns.take i)) n,marksI (markEnd k (ns.take i)+n) n)=mixed k ns L (i+1):=by
 have hi:=(List.getElem?_eq_some_iff.1 hn).1
 have e1:((marksL k ns).take i).length=i:=by rw [List.length_take,marksL_length];omega
 simp only [mixed]
 rw [List.take_add_one,marksL_at ns k i n hn,Option.toList_some,List.append_assoc]
 have e2:(L.map plX).drop i=(L.map plX)[i]'(by rw [List.length_map];omega)::(L.map plX).drop (i+1):=List.drop_eq_getElem_cons (by rw [List.length_map];omega)
 rw [e2,List.set_append_right _ _ (by omega),e1,Nat.sub_self]
 rfl
def CopyP (l:Pl) (w:World) (en:Ending) (w':World):Prop :=
 ∃ mv pt,en=.returned (.agg #[mv,pt])/\PlayAt w' l mv pt/\Below w.heap.size w w'/\∀ g,mv.ownBlock=some g\/pt.ownBlock=some g->w.heap.size<=g
theorem cells_2 {w:World} {b:Nat} {x y:Value} {T:TypeId} (h:w.heap[b]? = some (.cells #[x,y] T (0,0))):w.cell? ⟨b,0,none⟩=some x/\w.cell? ⟨b,1,none⟩=some y/\w.frozen? ⟨b,0,none⟩=false/\w.frozen? ⟨b,1,none⟩=false :=
 ⟨by simp [World.cell?,h],by simp [World.cell?,h],by simp [World.frozen?,h],by simp [World.frozen?,h]⟩
theorem set_two {w:World} {b:Nat} {x y:Value} {T:TypeId} (h:w.heap[b]? = some (.cells #[x,y] T (0,0))) (u v:Value):((w.setCell ⟨b,0,none⟩ u).setCell ⟨b,1,none⟩ v).heap[b]? = some (.cells #[u,v] T (0,0)):=by
 rw [setCell_at' (setCell_at' h)];rfl
set_option maxRecDepth 100000 in
theorem clone_any (l:Pl) (mv pt:Value) (w:World) (h1:SrcSl 1 mv l.length (logM l) w) (h2:SrcSl 1 pt l.length (logP l) w) (hl:l.length<=100000) :
 Calls Tryd.prog 45 #[.agg #[mv,pt]] w (CopyP l w):=by
 obtain ⟨a1,c1,rfl⟩:=h1.slice
 obtain ⟨a2,c2,rfl⟩:=h2.slice
 obtain ⟨W,hW⟩:∃ W,(w.alloc (.cells #[.slice a1 l.length c1,.slice a2 l.length c2] 39)).alloc (.cells #[.slice none 0 0,.slice none 0 0] 39)=W:=⟨_,rfl⟩
 have hbW:Below w.heap.size w W:=by rw [<- hW];exact ((Below.refl _ _).alloc (Nat.le_refl _) _).alloc (by simp) _
 have hz:W.heap.size=w.heap.size+2:=by rw [<- hW];simp
 have b0:W.heap[w.heap.size]? = some (.cells #[.slice a1 l.length c1,.slice a2 l.length c2] 39 (0,0)):=by rw [<- hW];exact heap_past (heap_new _ _)
 have b1:W.heap[w.heap.size+1]? = some (.cells #[.slice none 0 0,.slice none 0 0] 39 (0,0)):=by
  rw [<- hW]
  have:=heap_new (w.alloc (.cells #[.slice a1 l.length c1,.slice a2 l.length c2] 39)) (.cells #[.slice none 0 0,.slice none 0 0] 39)
  rwa [size_alloc] at this
 have g1:SrcSl 1 (.slice a1 l.length c1) l.length (logM l) W:=h1.below hbW
 have g2:SrcSl 1 (.slice a2 l.length c2) l.length (logP l) W:=h2.below hbW
 have HW:=Lib.hid hW
 have HB:=Lib.hid (And.intro hbW (And.intro hz (And.intro b0 b1)))
 have KEY:Hid (∀ x,Below W.heap.size W x->x.cell? ⟨w.heap.size,0,none⟩=some (.slice a1 l.length c1)/\x.cell? ⟨w.heap.size,1,none⟩=some (.slice a2 l.length c2)):=Lib.hid (fun x hx=>by
  have h:=(hx.block _ (lt_of_heap HB.out.2.2.1)).trans HB.out.2.2.1
  exact ⟨(cells_2 h).1,(cells_2 h).2.1⟩)
 clear hW h1 h2 hbW hz b0 b1
 go_enter Tryd.func45,Tryd.ntmps45
 go_wp2_with fail
 rw [HW.out]
 refine wp_region_noPanic ?_
 refine wp_region_S (fun w'=>Below W.heap.size W w') (fun i=>i == 7) (by kernel_rfl) ?_
 have hSd:(fun w'=>Below W.heap.size W w') W.drew:=Below.drew (Below.refl _ _)
 refine wpAnyS_take 0 (v:=?_) (by kernel_rfl) (by kernel_rfl) (by kernel_rfl) (by kernel_rfl) (fun _ _ _ _ h=>h) hSd ?_ ?_
 rotate_left
 ·(intro oi ho;simp at ho;subst ho;refine Or.inl ⟨by rfl,fun w' hw'=>?_⟩;go_simp;try with_reducible rfl)
 (intro d hd;simp at hd;subst hd;simp only [Act.put,List.setIfInBounds_toArray,List.set_cons_zero,List.set_cons_succ])
 refine wpAnyS_take 1 (v:=?_) (by kernel_rfl) (by kernel_rfl) (by kernel_rfl) (by kernel_rfl) (fun _ _ _ _ h=>h) hSd ?_ ?_
 rotate_left
 ·(intro oi ho;simp at ho;subst ho;refine Or.inl ⟨by rfl,fun w' hw'=>?_⟩;obtain ⟨e0,e1⟩:=KEY.out w' hw';go_simp;try with_reducible rfl)
 (intro d hd;simp at hd;subst hd;simp only [Act.put,List.setIfInBounds_toArray,List.set_cons_zero,List.set_cons_succ])
 refine wpAnyS_take 3 (v:=?_) (by kernel_rfl) (by kernel_rfl) (by kernel_rfl) (by kernel_rfl) (fun _ _ _ _ h=>h) hSd ?_ ?_
 rotate_left
 ·(intro oi ho;simp at ho;subst ho;refine Or.inl ⟨by rfl,fun w' hw'=>?_⟩;go_simp;try with_reducible rfl)
 (intro d hd;simp at hd;subst hd;simp only [Act.put,List.setIfInBounds_toArray,List.set_cons_zero,List.set_cons_succ])
 refine wpAnyS_take 4 (v:=?_) (by kernel_rfl) (by kernel_rfl) (by kernel_rfl) (by kernel_rfl) (fun _ _ _ _ h=>h) hSd ?_ ?_
 rotate_left
 ·(intro oi ho;simp at ho;subst ho;refine Or.inl ⟨by rfl,fun w' hw'=>?_⟩;obtain ⟨e0,e1⟩:=KEY.out w' hw';go_simp;try with_reducible rfl)
 (intro d hd;simp at hd;subst hd;simp only [Act.put,List.setIfInBounds_toArray,List.set_cons_zero,List.set_cons_succ])
 refine wpAnyS_one 2 (by kernel_rfl) ?_
 (intro o2 ho K' hK;simp at ho;subst ho)
 refine step_append_gen (by rfl) _ _ _ (by rfl) 9 (str []) 1 16 Tryd.underlying36 Tryd.infoStr rfl (by decide) (.slice none 0 0) 0 [] (by rfl) (World.ownsRow_nil _ _ _ _) _ l.length (logM l) (by rfl) (g1.drew) (by unfold maxLen;omega) (by omega) ?_
 intro ax cx wx hox hbx hgx
 simp only [Nat.zero_add,List.nil_append] at hox hgx ⊢
 have hBx:Below W.heap.size W wx:=Below.trans hSd (hbx.toBelow (Below.size hSd) fun i hi e=>by simp [Value.ownBlock] at e)
 have hfx:∀ g,(Value.slice ax l.length cx).ownBlock=some g->W.heap.size<=g:=fun g hg=>by rcases hgx g hg with h | h;simp [Value.ownBlock] at h;exact Nat.le_of_eq h.symm
 refine hK.out _ _ ?_ ?_
 ·exact fun _=>hBx
 clear hK K'
 (try simp only [Act.put,List.setIfInBounds_toArray,List.set_cons_zero,List.set_cons_succ])
 refine wpAnyS_one 5 (by kernel_rfl) ?_
 (intro o5 ho K' hK;simp at ho;subst ho)
 refine step_append_gen (by rfl) _ _ _ (by rfl) 3 (.int .i64 0) 1 8 Tryd.underlying37 Tryd.infoInt rfl (by decide) (.slice none 0 0) 0 [] (by rfl) (World.ownsRow_nil _ _ _ _) _ l.length (logP l) (by rfl) (g2.below hBx) (by unfold maxLen;omega) (by omega) ?_
 intro ay cy wy hoy hby hgy
 simp only [Nat.zero_add,List.nil_append] at hoy hgy ⊢
 have hBxy:Below wx.heap.size wx wy:=hby.toBelow (Nat.le_refl _) fun i hi e=>by simp [Value.ownBlock] at e
 have hBy:Below W.heap.size W wy:=hBx.trans (hBxy.mono hBx.size)
 have hfy:∀ g,(Value.slice ay l.length cy).ownBlock=some g->W.heap.size<=g:=fun g hg=>by rcases hgy g hg with h | h;simp [Value.ownBlock] at h;exact Nat.le_trans hBx.size (Nat.le_of_eq h.symm)
 refine hK.out _ _ ?_ ?_
 ·exact fun _=>hBy
 clear hK K'
 (try simp only [Act.put,List.setIfInBounds_toArray,List.set_cons_zero,List.set_cons_succ])
 refine wpAnyS_one 6 (by kernel_rfl) ?_
 (intro o6 ho K' hK;simp at ho;subst ho)
 go_simp
 refine hK.out _ _ ?_ ?_
 ·exact fun _=>hBy
 clear hK K'
 (try simp only [Act.put,List.setIfInBounds_toArray,List.set_cons_zero,List.set_cons_succ])
 refine wpAnyS_one 7 (by kernel_rfl) ?_
 (intro o7 ho K' hK;simp at ho;subst ho)
 have b1:=(hBy.block _ (lt_of_heap HB.out.2.2.2)).trans HB.out.2.2.2
 obtain ⟨z0,z1,z2,z3⟩:=cells_2 b1
 go_simp
 refine hK.out _ _ ?_ ?_
 ·intro h;simp at h
 clear hK K'
 (try simp only [Act.put,List.setIfInBounds_toArray,List.set_cons_zero,List.set_cons_succ])
 refine wpAnyS_done (by kernel_rfl) (NoPanic.normal ?_) _
 go_wp2_with fail
 have hV:=set_two b1 (.slice ax l.length cx) (.slice ay l.length cy)
 obtain ⟨s0,s1,_,_⟩:=cells_2 hV
 have hz:=HB.out.2.1
 have hbF:=((HB.out.1.trans (hBy.mono HB.out.1.size)).setCell (p:=⟨w.heap.size+1,0,none⟩) (Nat.le_succ _) (.slice ax l.length cx)).setCell (p:=⟨w.heap.size+1,1,none⟩) (Nat.le_succ _) (.slice ay l.length cy)
 refine bodyPost_ret (v:=.agg #[.slice ax l.length cx,.slice ay l.length cy]) (by simp [results,Tryd.results45,go_sem,s0,s1]) rfl ?_
 refine ⟨_,_,rfl,⟨?_,?_⟩,hbF,fun g hg=>?_⟩
 ·exact (hox.keep fun g o _ ho=>by rw [hBxy.block g (lt_of_heap ho)];exact ho).keep fun g o hg ho=>by
   have:=hfx g hg
   rw [Below.heap_setCell _ _ _ _ (by show g≠w.heap.size+1;omega),Below.heap_setCell _ _ _ _ (by show g≠w.heap.size+1;omega)];exact ho
 ·exact hoy.keep fun g o hg ho=>by
   have:=hfy g hg
   rw [Below.heap_setCell _ _ _ _ (by show g≠w.heap.size+1;omega),Below.heap_setCell _ _ _ _ (by show g≠w.heap.size+1;omega)];exact ho
 ·rcases hg with hg | hg
  ·have:=hfx g hg;omega
  ·have:=hfy g hg;omega
theorem boxes_2 (w:World) (A B:Obj):∃ W,(w.alloc A).alloc B=W/\Below w.heap.size w W/\W.heap.size=w.heap.size+2/\W.heap[w.heap.size]? = some A/\W.heap[w.heap.size+1]? = some B:=by
 refine ⟨_,rfl,((Below.refl _ _).alloc (Nat.le_refl _) _).alloc (by rw [size_alloc];omega) _,by rw [size_alloc,size_alloc],heap_past (heap_new _ _),?_⟩
 have h:=heap_new (w.alloc A) B
 rwa [size_alloc] at h
theorem box_1 (w:World) (A:Obj):∃ W,w.alloc A=W/\Below w.heap.size w W/\W.heap.size=w.heap.size+1/\W.heap[w.heap.size]? = some A :=
 ⟨_,rfl,(Below.refl _ _).alloc (Nat.le_refl _) _,by rw [size_alloc],heap_new _ _⟩
set_option maxRecDepth 100000 in
theorem with_any (l:Pl) (mv pt:Value) (s:Bs) (p:Int) (w:World) (h1:SrcSl 1 mv l.length (logM l) w) (h2:SrcSl 1 pt l.length (logP l) w) (hl:l.length<=1000) :
 Calls Tryd.prog 31 #[.agg #[mv,pt],str s,.int .i64 p] w (CopyP (l++[(s,p)]) w):=by
 obtain ⟨a1,c1,rfl⟩:=h1.slice
 obtain ⟨a2,c2,rfl⟩:=h2.slice
 obtain ⟨W,hW,hbW,hz,b0,b1⟩:=boxes_2 w (.cells #[.slice a1 l.length c1,.slice a2 l.length c2] 39) (.cells #[.slice none 0 0,.slice none 0 0] 39)
 obtain ⟨e0,e1,_,_⟩:=cells_2 b0
 have C:=Lib.hid (clone_any l _ _ W (h1.below hbW) (h2.below hbW) (by omega))
 have HB:=Lib.hid (And.intro hbW (And.intro hz b1))
 have HW:=Lib.hid hW
 clear hW h1 h2 hbW hz b0 b1
 go_enter Tryd.func31,Tryd.ntmps31
 go_upto_region 1 with (fail)
 rw [HW.out]
 go_wp2_with fail
 (with_reducible refine C.out.mono ?_)
 rintro en w1 ⟨mv1,pt1,rfl,hp1,hb1,hf1⟩
 obtain ⟨a3,c3,e3⟩:=hp1.1.slice
 obtain ⟨a4,c4,e4⟩:=hp1.2.slice
 subst e3;subst e4
 obtain ⟨W1,hW1,hbW1,hz1,bx⟩:=box_1 w1 (.cells #[.slice a3 l.length c3,.slice a4 l.length c4] 39)
 obtain ⟨x0,x1,xf0,xf1⟩:=cells_2 bx
 have hm1:=hp1.1.keep (w':=W1) fun g o _ ho=>by rw [<- hW1];exact heap_past ho
 have hp2:=hp1.2.keep (w':=W1) fun g o _ ho=>by rw [<- hW1];exact heap_past ho
 have hl3:∀ g,(Value.slice a3 l.length c3).ownBlock=some g->g<w1.heap.size:=fun g hg=>hp1.1.lt hg
 have hl4:∀ g,(Value.slice a4 l.length c4).ownBlock=some g->g<w1.heap.size:=fun g hg=>hp1.2.lt hg
 have hun:∀ g,(Value.slice a3 l.length c3).ownBlock=some g->(Value.slice a4 l.length c4).ownBlock≠some g:=fun g hg=>hp1.1.unlike hp1.2 str_int hg
 have H1:=Lib.hid (And.intro hb1 (And.intro hf1 (And.intro hbW1 (And.intro hz1 (And.intro bx (And.intro hm1 hp2))))))
 have HL:=Lib.hid (And.intro hl3 (And.intro hl4 hun))
 have HW1:=Lib.hid hW1
 clear hW1 hbW1 hz1 bx hm1 hp2 hl3 hl4 hun hp1 hb1 hf1 C e0 e1
 go_upto_region 2 with (fail)
 rw [HW1.out]
 go_wp2_with (at_builtin;refine wpList_append_gen rfl _ _ 36 rfl 9 (str []) 1 16 Tryd.underlying36 Tryd.infoStr rfl (by decide) (.slice a3 l.length c3) l.length (logM l) rfl ?c1 _ 1 [str s] rfl ?c2 ?c3 ?c4 ?_)
 case c1=>exact H1.out.2.2.2.2.2.1.alloc _
 case c2=>exact SrcSl.lit rfl
 case c3=>unfold maxLen;omega
 case c4=>omega
 intro a5 c5 w2 ho2 hb2 hg2
 have HO2:=Lib.hid (And.intro ho2 (And.intro hb2 hg2))
 have hzW1:=H1.out.2.2.2.1
 have hzW:=HB.out.2.1
 have hsz1:=H1.out.1.size
 have low2:∀ g,g<W1.heap.size->(Value.slice a3 l.length c3).ownBlock≠some g->w2.heap[g]? = W1.heap[g]?:=fun g hg hn=>by
  rw [hb2.block g (by rw [size_alloc];omega) hn,Below.heap_alloc _ _ _ hg]
 have hsz2:W1.heap.size+1<=w2.heap.size:=by have:=hb2.size;rwa [size_alloc] at this
 have bx2:w2.heap[w1.heap.size]? = some (.cells #[.slice a3 l.length c3,.slice a4 l.length c4] 39 (0,0)):=by
  rw [low2 _ (by omega) (fun e=>by have:=HL.out.1 _ e;omega)];exact H1.out.2.2.2.2.1
 have br2:w2.heap[w.heap.size+1]? = some (.cells #[.slice none 0 0,.slice none 0 0] 39 (0,0)):=by
  rw [low2 _ (by omega) (fun e=>by have:=H1.out.2.1 _ (.inl e);omega),H1.out.2.2.1.block _ (by omega),H1.out.1.block _ (by omega)];exact HB.out.2.2
 have hp2:Own w2 3 1 (.slice a4 l.length c4) l.length (logP l):=H1.out.2.2.2.2.2.2.keep fun g o hg ho=>by
  rw [low2 g (lt_of_heap ho) (fun e=>HL.out.2.2 g e hg)];exact ho
 have hbw2:Below w.heap.size w w2:=by
  have h1:Below w.heap.size w W1:=(HB.out.1.trans (H1.out.1.mono HB.out.1.size)).trans (H1.out.2.2.1.mono (by omega))
  exact (h1.alloc (by omega) _).trans (hb2.toBelow (by rw [size_alloc];omega) fun i hi e=>by have:=H1.out.2.1 _ (.inl e);omega)
 have hfr5:∀ g,(Value.slice a5 (l.length+1) c5).ownBlock=some g->w.heap.size+2<=g/\g≠w1.heap.size:=fun g hg=>by
  rcases hg2 g hg with h | h
  ·have h1:=H1.out.2.1 _ (.inl h);have h2:=HL.out.1 _ h;omega
  ·omega
 obtain ⟨y0,y1,yf0,yf1⟩:=cells_2 bx2
 obtain ⟨W3,hW3⟩:∃ W3,w2.setCell ⟨w1.heap.size,0,none⟩ (.slice a5 (l.length+1) c5)=W3:=⟨_,rfl⟩
 have bx3:W3.heap[w1.heap.size]? = some (.cells #[.slice a5 (l.length+1) c5,.slice a4 l.length c4] 39 (0,0)):=by rw [<- hW3,setCell_at' bx2];rfl
 have oth3:∀ g,g≠w1.heap.size->W3.heap[g]? = w2.heap[g]?:=fun g hg=>by rw [<- hW3];exact Below.heap_setCell _ _ _ _ (by show g≠w1.heap.size;exact hg)
 have hz3:W3.heap.size=w2.heap.size:=by rw [<- hW3];simp [World.setCell]
 have br3:W3.heap[w.heap.size+1]? = some (.cells #[.slice none 0 0,.slice none 0 0] 39 (0,0)):=by rw [oth3 _ (by omega)];exact br2
 have hp3:Own W3 3 1 (.slice a4 l.length c4) l.length (logP l):=hp2.keep fun g o hg ho=>by rw [oth3 g (by have:=HL.out.2.1 g hg;omega)];exact ho
 have hm3:Own W3 9 1 (.slice a5 (l.length+1) c5) (l.length+1) (logM l++[str s]):=HO2.out.1.keep fun g o hg ho=>by rw [oth3 g (hfr5 g hg).2];exact ho
 have hbw3:Below w.heap.size w W3:=by rw [<- hW3];exact hbw2.setCell (p:=⟨w1.heap.size,0,none⟩) (by show w.heap.size<=w1.heap.size;omega) _
 have hfr4:∀ g,(Value.slice a4 l.length c4).ownBlock=some g->w.heap.size+2<=g/\g<w1.heap.size:=fun g hg=>by
  have h1:=H1.out.2.1 _ (.inr hg);have h2:=HL.out.2.1 _ hg;omega
 have hun3:∀ g,(Value.slice a5 (l.length+1) c5).ownBlock=some g->(Value.slice a4 l.length c4).ownBlock≠some g:=fun g hg=>hm3.unlike hp3 str_int hg
 obtain ⟨x0,x1,xf0,xf1⟩:=cells_2 bx3
 have H3:=Lib.hid (And.intro hW3 (And.intro bx3 (And.intro br3 (And.intro hp3 (And.intro hm3 (And.intro hbw3 (And.intro hfr4 (And.intro hfr5 (And.intro hun3 (And.intro hz3 hsz2))))))))))
 have HZ:=Lib.hid (And.intro hzW1 (And.intro hzW hsz1))
 clear hW3 bx3 br3 hp3 hm3 hbw3 hfr4 hfr5 hun3 hz3 hsz2 hzW1 hzW hsz1 low2 bx2 br2 hp2 hbw2 oth3 HO2 hb2 hg2 ho2 y1 yf1
 go_upto_region 3 with (fail)
 rw [H3.out.1]
 clear y0 yf0
 go_wp2_with (at_builtin;refine wpList_append_gen rfl _ _ 37 rfl 3 (.int .i64 0) 1 8 Tryd.underlying37 Tryd.infoInt rfl (by decide) (.slice a4 l.length c4) l.length (logP l) rfl ?c1 _ 1 [.int .i64 p] rfl ?c2 ?c3 ?c4 ?_)
 case c1=>exact H3.out.2.2.2.1.alloc _
 case c2=>exact SrcSl.lit rfl
 case c3=>unfold maxLen;omega
 case c4=>omega
 intro a6 c6 w4 ho4 hb4 hg4
 have hzW1:=HZ.out.1
 have hzW:=HZ.out.2.1
 have hsz1:=HZ.out.2.2
 have hz3:=H3.out.2.2.2.2.2.2.2.2.2.1
 have hsz2:=H3.out.2.2.2.2.2.2.2.2.2.2
 have low4:∀ g,g<W3.heap.size->(Value.slice a4 l.length c4).ownBlock≠some g->w4.heap[g]? = W3.heap[g]?:=fun g hg hn=>by
  rw [hb4.block g (by rw [size_alloc];omega) hn,Below.heap_alloc _ _ _ hg]
 have bx4:w4.heap[w1.heap.size]? = some (.cells #[.slice a5 (l.length+1) c5,.slice a4 l.length c4] 39 (0,0)):=by
  rw [low4 _ (by omega) (fun e=>by have:=H3.out.2.2.2.2.2.2.1 _ e;omega)];exact H3.out.2.1
 have br4:w4.heap[w.heap.size+1]? = some (.cells #[.slice none 0 0,.slice none 0 0] 39 (0,0)):=by
  rw [low4 _ (by omega) (fun e=>by have:=H3.out.2.2.2.2.2.2.1 _ e;omega)];exact H3.out.2.2.1
 have hm4:Own w4 9 1 (.slice a5 (l.length+1) c5) (l.length+1) (logM l++[str s]):=H3.out.2.2.2.2.1.keep fun g o hg ho=>by
  rw [low4 g (lt_of_heap ho) (fun e=>H3.out.2.2.2.2.2.2.2.2.1 g hg e)];exact ho
 have hbw4:Below w.heap.size w w4:=(H3.out.2.2.2.2.2.1.alloc H3.out.2.2.2.2.2.1.size _).trans (hb4.toBelow (by rw [size_alloc];have:=H3.out.2.2.2.2.2.1.size;omega) fun i hi e=>by have:=H3.out.2.2.2.2.2.2.1 _ e;omega)
 have hfr6:∀ g,(Value.slice a6 (l.length+1) c6).ownBlock=some g->w.heap.size+2<=g/\g≠w1.heap.size:=fun g hg=>by
  rcases hg4 g hg with h | h
  ·have h1:=H3.out.2.2.2.2.2.2.1 _ h;omega
  ·omega
 have hfr5:=H3.out.2.2.2.2.2.2.2.1
 obtain ⟨y0,y1,yf0,yf1⟩:=cells_2 bx4
 obtain ⟨W5,hW5⟩:∃ W5,w4.setCell ⟨w1.heap.size,1,none⟩ (.slice a6 (l.length+1) c6)=W5:=⟨_,rfl⟩
 have bx5:W5.heap[w1.heap.size]? = some (.cells #[.slice a5 (l.length+1) c5,.slice a6 (l.length+1) c6] 39 (0,0)):=by rw [<- hW5,setCell_at' bx4];rfl
 have oth5:∀ g,g≠w1.heap.size->W5.heap[g]? = w4.heap[g]?:=fun g hg=>by rw [<- hW5];exact Below.heap_setCell _ _ _ _ (by show g≠w1.heap.size;exact hg)
 have br5:W5.heap[w.heap.size+1]? = some (.cells #[.slice none 0 0,.slice none 0 0] 39 (0,0)):=by rw [oth5 _ (by omega)];exact br4
 have hm5:Own W5 9 1 (.slice a5 (l.length+1) c5) (l.length+1) (logM l++[str s]):=hm4.keep fun g o hg ho=>by rw [oth5 g (hfr5 g hg).2];exact ho
 have hp5:Own W5 3 1 (.slice a6 (l.length+1) c6) (l.length+1) (logP l++[.int .i64 p]):=ho4.keep fun g o hg ho=>by rw [oth5 g (hfr6 g hg).2];exact ho
 have hbw5:Below w.heap.size w W5:=by rw [<- hW5];exact hbw4.setCell (p:=⟨w1.heap.size,1,none⟩) (by show w.heap.size<=w1.heap.size;omega) _
 have H5:=Lib.hid (And.intro hW5 (And.intro hm5 (And.intro hp5 (And.intro hbw5 (And.intro hfr5 (And.intro hfr6 br5))))))
 obtain ⟨z0,z1,zf0,zf1⟩:=cells_2 bx5
 obtain ⟨q0,q1,qf0,qf1⟩:=cells_2 br5
 clear hW5 bx5 br5 hm5 hp5 hbw5 hfr5 hfr6 oth5 hbw4 hm4 br4 bx4 low4 hsz2 hz3 hsz1 hzW hzW1 hg4 hb4 ho4 x0 x1 xf0 xf1 y0 yf0
 have hne:w.heap.size+1≠w1.heap.size:=by have:=HZ.out.2;omega
 go_upto_region 4 with (fail)
 rw [H5.out.1]
 clear y1 yf1
 go_wp2_with fail
 have hV:=set_two H5.out.2.2.2.2.2.2 (.slice a5 (l.length+1) c5) (.slice a6 (l.length+1) c6)
 obtain ⟨s0,s1,_,_⟩:=cells_2 hV
 have hbF:=(H5.out.2.2.2.1.setCell (p:=⟨w.heap.size+1,0,none⟩) (Nat.le_succ _) (.slice a5 (l.length+1) c5)).setCell (p:=⟨w.heap.size+1,1,none⟩) (Nat.le_succ _) (.slice a6 (l.length+1) c6)
 refine bodyPost_ret (v:=.agg #[.slice a5 (l.length+1) c5,.slice a6 (l.length+1) c6]) (by simp [results,Tryd.results31,go_sem,s0,s1]) rfl ?_
 have hlen:(l++[(s,p)]).length=l.length+1:=by simp
 refine ⟨_,_,rfl,⟨?_,?_⟩,hbF,fun g hg=>?_⟩
 ·rw [hlen,logM_snoc]
  exact H5.out.2.1.keep fun g o hg ho=>by
   have:=(H5.out.2.2.2.2.1 g hg).1
   rw [Below.heap_setCell _ _ _ _ (by show g≠w.heap.size+1;omega),Below.heap_setCell _ _ _ _ (by show g≠w.heap.size+1;omega)];exact ho
 ·rw [hlen,logP_snoc]
  exact H5.out.2.2.1.keep fun g o hg ho=>by
   have:=(H5.out.2.2.2.2.2.1 g hg).1
   rw [Below.heap_setCell _ _ _ _ (by show g≠w.heap.size+1;omega),Below.heap_setCell _ _ _ _ (by show g≠w.heap.size+1;omega)];exact ho
 ·rcases hg with hg | hg
  ·have:=H5.out.2.2.2.2.1 g hg;omega
  ·have:=H5.out.2.2.2.2.2.1 g hg;omega
def lvD (lv:List Place):List DV:=lv.flatMap fun p=>[DV.val (.int .i64 (p.1:Nat)),DV.val (str p.2)]
def lvC (lv:List Place):List Value:=lv.flatMap fun p=>[.int .i64 (p.1:Nat),str p.2]
theorem lvC_append (a b:List Place):lvC (a++b)=lvC a++lvC b:=by simp [lvC]
theorem lvD_at:∀ (lv:List Place) (i:Nat) (p:Place),lv[i]? = some p->(lvD lv)[i*2]? = some (.val (.int .i64 (p.1:Nat)))/\(lvD lv)[i*2+1]? = some (.val (str p.2))
 | [],i,p,h=>by simp at h
 | q::lv,0,p,h=>by obtain rfl:q=p:=by simpa using h
                   exact ⟨rfl,rfl⟩
 | q::lv,i+1,p,h=>by
   rw [List.getElem?_cons_succ] at h
   have:=lvD_at lv i p h
   rw [show lvD (q::lv)=[DV.val (.int .i64 (q.1:Nat)),DV.val (str q.2)]++lvD lv from rfl,show (i+1)*2=2+i*2 from by omega]
   rw [List.getElem?_append_right (by simp),List.getElem?_append_right (by simp;omega)]
   simpa [Nat.add_sub_cancel_left,show 2+i*2+1-2=i*2+1 from by omega] using this
def LvRep (F:Nat->Prop) (w:World) (lv:List Place) (v:Value):Prop:=Rep F w (.sl 54 2 lv.length (lvD lv)) v
theorem LvRep.open {F:Nat->Prop} {w:World} {lv:List Place} {v:Value} (h:LvRep F w lv v):∃ a c,v=.slice a lv.length c /\
 ∀ (i:Nat) (p:Place),lv[i]? = some p->∃ b o,a=some ⟨b,o,none⟩/\F b/\b<w.heap.size/\w.cell? ⟨b,o+i*2,none⟩=some (.int .i64 (p.1:Nat))/\w.cell? ⟨b,o+i*2+1,none⟩=some (str p.2):=by
 unfold LvRep at h
 rw [Rep_sl] at h
 obtain ⟨hl,a,cap,hv,hn,hz,h⟩:=h
 refine ⟨a,cap,hv,fun i p hp=>?_⟩
 have hi:=(List.getElem?_eq_some_iff.1 hp).1
 obtain ⟨d1,d2⟩:=lvD_at lv i p hp
 rcases h with h | ⟨b,o,c,fr,ha,hb,hc,hr⟩
 ·omega
 ·obtain ⟨u1,k1,r1⟩:=hr.at d1
  obtain ⟨u2,k2,r2⟩:=hr.at d2
  rw [Rep_val] at r1 r2
  subst r1;subst r2
  rw [List.getElem?_take,if_pos (by omega),List.getElem?_drop] at k1 k2
  exact ⟨b,o,ha,hb,lt_of_heap hc,by simp [World.cell?,hc];simpa using k1,by simp [World.cell?,hc,Nat.add_assoc];simpa using k2⟩
theorem cells_4 {w:World} {b:Nat} {x y z u:Value} {T:TypeId} (h:w.heap[b]? = some (.cells #[x,y,z,u] T (0,0))):w.cell? ⟨b,0,none⟩=some x/\w.cell? ⟨b,1,none⟩=some y/\w.cell? ⟨b,2,none⟩=some z/\w.cell? ⟨b,3,none⟩=some u :=
 ⟨by simp [World.cell?,h],by simp [World.cell?,h],by simp [World.cell?,h],by simp [World.cell?,h]⟩
def TellP (m:Bs) (i:Nat) (w:World) (en:Ending) (w':World):Prop:=en=.returned (.tuple #[str m,.int .i64 (i:Nat)])/\Below w.heap.size w w'
set_option maxRecDepth 100000 in
theorem tells_leaf (F:Nat->Prop) (c:UInt8) (bv lsl:Value) (bg:Place) (w:World) (hb:Rep F w (encB (.leaf c)) bv) (h117:¬ c=117) (hl:bg.2.length<=1000) :
 Calls Tryd.prog 30 #[.agg #[bv,lsl,.int .i64 (bg.1:Nat),str bg.2]] w (TellP (c::bg.2) bg.1 w):=by
 have C:=Lib.hid (fun wz (h:Below w.heap.size w wz)=>isList_leaf F wz c bv (hb.below h (fun _ h=>h)))
 obtain ⟨b,sl,rfl,_,hc,_⟩:=leaf_open hb
 obtain ⟨W,hW,hbW,hz,bx⟩:=box_1 w (.cells #[.pointer (some ⟨b,0,none⟩),lsl,.int .i64 (bg.1:Nat),str bg.2] 56)
 have CW:=Lib.hid (C.out W hbW)
 obtain ⟨e0,e1,e2,e3⟩:=cells_4 bx
 have c1:W.cell? ⟨b,0,none⟩=some (.string ⟨#[c]⟩):=(hbW.cell (by exact lt_of_heap hc)).trans (by simp [World.cell?,hc])
 have q1:(([c]:Bs) == [117])=false:=by rw [beq_eq_false_iff_ne];simpa using h117
 have a1:=fun w0=>add_str (P:=Tryd.prog) [c] bg.2 (by simp;omega) w0
 rw [List.singleton_append] at a1
 generalize hM:c::bg.2=M at *
 have HW:=Lib.hid (And.intro hW hbW)
 clear hW hbW hz bx hc hb C h117 hM e1
 go_enter Tryd.func30,Tryd.ntmps30
 go_upto_region 1 with (fail)
 rw [HW.out.1]
 go_wp2_with fail
 (with_reducible refine CW.out.mono ?_)
 rintro en w1 ⟨rfl,ew⟩
 subst ew
 go_wp2_with fail
 go_quiet (fail)
 go_wp2_with fail
 go_ret2
 exact ⟨rfl,below_dN HW.out.2 _⟩
set_option maxRecDepth 100000 in
theorem tells_ask (F:Nat->Prop) (l:Nat) (ss:List Bd) (y n:Bd) (bv lsl:Value) (lv:List Place) (bg pl:Place) (w:World) (hb:Rep F w (encB (.ask l ss y n)) bv) (hlv:LvRep F w lv lsl) (hpl:lv[l]? = some pl) (hl:pl.2.length<=1000) (hll:lv.length<=100000) :
 Calls Tryd.prog 30 #[.agg #[bv,lsl,.int .i64 (bg.1:Nat),str bg.2]] w (TellP (113::pl.2) pl.1 w):=by
 have C:=Lib.hid (fun wz (h:Below w.heap.size w wz)=>isList_ask F wz l ss y n bv (hb.below h (fun _ h=>h)))
 obtain ⟨b,sl,yv,nv,rfl,_,hc,_⟩:=ask_open hb
 obtain ⟨la,lc,rfl,hat⟩:=hlv.open
 obtain ⟨lb,lo,rfl,_,hlb,t0,t1⟩:=hat l pl hpl
 have hlt:=(List.getElem?_eq_some_iff.1 hpl).1
 have hltI:(l:Int)<(lv.length:Int):=by omega
 obtain ⟨W,hW,hbW,hz,bx⟩:=box_1 w (.cells #[.pointer (some ⟨b,0,none⟩),.slice (some ⟨lb,lo,none⟩) lv.length lc,.int .i64 (bg.1:Nat),str bg.2] 56)
 have CW:=Lib.hid (C.out W hbW)
 have c1:W.cell? ⟨b,1,none⟩=some (.int .i64 (l:Nat)):=(hbW.cell (by exact lt_of_heap hc)).trans (by simp [World.cell?,hc])
 have t0W:=(hbW.cell (p:=⟨lb,lo+l*2,none⟩) hlb).trans t0
 have t1W:=(hbW.cell (p:=⟨lb,lo+l*2+1,none⟩) hlb).trans t1
 have hlbW:lb<W.heap.size:=by omega
 have hbb:b<W.heap.size:=by have:=lt_of_heap hc;omega
 have KEY:Hid (∀ x,Below W.heap.size W x->x.cell? ⟨w.heap.size,0,none⟩=some (.pointer (some ⟨b,0,none⟩))/\x.cell? ⟨w.heap.size,1,none⟩=some (.slice (some ⟨lb,lo,none⟩) lv.length lc)/\x.cell? ⟨b,1,none⟩=some (.int .i64 (l:Nat))/\x.cell? ⟨lb,lo+l*2,none⟩=some (.int .i64 (pl.1:Nat))/\x.cell? ⟨lb,lo+l*2+1,none⟩=some (str pl.2)):=Lib.hid (fun x hx=>by
  obtain ⟨k0,k1,_,_⟩:=cells_4 bx
  exact ⟨(hx.cell (World.block_lt_of_cell? _ _ k0)).trans k0,(hx.cell (World.block_lt_of_cell? _ _ k1)).trans k1,(hx.cell hbb).trans c1,(hx.cell hlbW).trans t0W,(hx.cell hlbW).trans t1W⟩)
 obtain ⟨e0,_,_,_⟩:=cells_4 bx
 have a1:=fun w0=>add_str (P:=Tryd.prog) [113] pl.2 (by simp;omega) w0
 rw [List.singleton_append] at a1
 generalize hM:113::pl.2=M at *
 have HW:=Lib.hid (And.intro hW hbW)
 clear hW hbW hz bx hc hb C hM hat hpl hlv t0 t1 t0W t1W c1 hlb
 go_enter Tryd.func30,Tryd.ntmps30
 go_upto_region 1 with (fail)
 rw [HW.out.1]
 go_wp2_with fail
 (with_reducible refine CW.out.mono ?_)
 rintro en w1 ⟨rfl,ew⟩
 subst ew
 go_wp2_with fail
 refine wp_region_noPanic ?_
 refine wp_region_S (fun w'=>Below w1.heap.size w1 w') (fun i=>i == 10) (by kernel_rfl) ?_
 have hSd:(fun w'=>Below w1.heap.size w1 w') w1.drew:=Below.drew (Below.refl _ _)
 refine wpAnyS_take 0 (v:=?_) (by kernel_rfl) (by kernel_rfl) (by kernel_rfl) (by kernel_rfl) (fun _ _ _ _ h=>h) hSd ?_ ?_
 rotate_left
 ·(intro oi ho;simp at ho;subst ho;refine Or.inl ⟨by rfl,fun w' hw'=>?_⟩;go_simp;try with_reducible rfl)
 (intro d hd;simp at hd;subst hd;simp only [Act.put,List.setIfInBounds_toArray,List.set_cons_zero,List.set_cons_succ])
 refine wpAnyS_take 1 (v:=?_) (by kernel_rfl) (by kernel_rfl) (by kernel_rfl) (by kernel_rfl) (fun _ _ _ _ h=>h) hSd ?_ ?_
 rotate_left
 ·(intro oi ho;simp at ho;subst ho;refine Or.inl ⟨by rfl,fun w' hw'=>?_⟩;obtain ⟨e0,e1,e2,e3,e4⟩:=KEY.out w' hw';go_simp;try with_reducible rfl)
 (intro d hd;simp at hd;subst hd;simp only [Act.put,List.setIfInBounds_toArray,List.set_cons_zero,List.set_cons_succ])
 refine wpAnyS_take 2 (v:=?_) (by kernel_rfl) (by kernel_rfl) (by kernel_rfl) (by kernel_rfl) (fun _ _ _ _ h=>h) hSd ?_ ?_
 rotate_left
 ·(intro oi ho;simp at ho;subst ho;refine Or.inl ⟨by rfl,fun w' hw'=>?_⟩;go_simp;try with_reducible rfl)
 (intro d hd;simp at hd;subst hd;simp only [Act.put,List.setIfInBounds_toArray,List.set_cons_zero,List.set_cons_succ])
 refine wpAnyS_take 3 (v:=?_) (by kernel_rfl) (by kernel_rfl) (by kernel_rfl) (by kernel_rfl) (fun _ _ _ _ h=>h) hSd ?_ ?_
 rotate_left
 ·(intro oi ho;simp at ho;subst ho;refine Or.inl ⟨by rfl,fun w' hw'=>?_⟩;obtain ⟨e0,e1,e2,e3,e4⟩:=KEY.out w' hw';go_simp;try with_reducible rfl)
 (intro d hd;simp at hd;subst hd;simp only [Act.put,List.setIfInBounds_toArray,List.set_cons_zero,List.set_cons_succ])
 refine wpAnyS_take 4 (v:=?_) (by kernel_rfl) (by kernel_rfl) (by kernel_rfl) (by kernel_rfl) (fun _ _ _ _ h=>h) hSd ?_ ?_
 rotate_left
 ·(intro oi ho;simp at ho;subst ho;refine Or.inl ⟨by rfl,fun w' hw'=>?_⟩;go_simp;try with_reducible rfl)
 (intro d hd;simp at hd;subst hd;simp only [Act.put,List.setIfInBounds_toArray,List.set_cons_zero,List.set_cons_succ])
 refine wpAnyS_take 5 (v:=?_) (by kernel_rfl) (by kernel_rfl) (by kernel_rfl) (by kernel_rfl) (fun _ _ _ _ h=>h) hSd ?_ ?_
 rotate_left
 ·(intro oi ho;simp at ho;subst ho;refine Or.inl ⟨by rfl,fun w' hw'=>?_⟩;go_simp;try with_reducible rfl)
 (intro d hd;simp at hd;subst hd;simp only [Act.put,List.setIfInBounds_toArray,List.set_cons_zero,List.set_cons_succ])
 refine wpAnyS_take 6 (v:=?_) (by kernel_rfl) (by kernel_rfl) (by kernel_rfl) (by kernel_rfl) (fun _ _ _ _ h=>h) hSd ?_ ?_
 rotate_left
 ·(intro oi ho;simp at ho;subst ho;refine Or.inl ⟨by rfl,fun w' hw'=>?_⟩;obtain ⟨e0,e1,e2,e3,e4⟩:=KEY.out w' hw';go_simp;try with_reducible rfl)
 (intro d hd;simp at hd;subst hd;simp only [Act.put,List.setIfInBounds_toArray,List.set_cons_zero,List.set_cons_succ])
 refine wpAnyS_take 7 (v:=?_) (by kernel_rfl) (by kernel_rfl) (by kernel_rfl) (by kernel_rfl) (fun _ _ _ _ h=>h) hSd ?_ ?_
 rotate_left
 ·(intro oi ho;simp at ho;subst ho;refine Or.inl ⟨by rfl,fun w' hw'=>?_⟩;go_simp;try with_reducible rfl)
 (intro d hd;simp at hd;subst hd;simp only [Act.put,List.setIfInBounds_toArray,List.set_cons_zero,List.set_cons_succ])
 refine wpAnyS_take 8 (v:=?_) (by kernel_rfl) (by kernel_rfl) (by kernel_rfl) (by kernel_rfl) (fun _ _ _ _ h=>h) hSd ?_ ?_
 rotate_left
 ·(intro oi ho;simp at ho;subst ho;refine Or.inl ⟨by rfl,fun w' hw'=>?_⟩;obtain ⟨e0,e1,e2,e3,e4⟩:=KEY.out w' hw';go_simp;try with_reducible rfl)
 (intro d hd;simp at hd;subst hd;simp only [Act.put,List.setIfInBounds_toArray,List.set_cons_zero,List.set_cons_succ])
 refine wpAnyS_one 9 (by kernel_rfl) ?_
 (intro o9 ho K' hK;simp at ho;subst ho)
 go_simp
 refine hK.out _ _ ?_ ?_
 ·exact fun _=>hSd.alloc (Nat.le_refl _) _
 clear hK K'
 (try simp only [Act.put,List.setIfInBounds_toArray,List.set_cons_zero,List.set_cons_succ])
 refine wpAnyS_one 10 (by kernel_rfl) ?_
 (intro o10 ho K' hK;simp at ho;subst ho)
 go_simp
 refine hK.out _ _ ?_ ?_
 ·intro h;simp at h
 clear hK K'
 (try simp only [Act.put,List.setIfInBounds_toArray,List.set_cons_zero,List.set_cons_succ])
 refine wpAnyS_done (by kernel_rfl) (NoPanic.normal ?_) _
 obtain ⟨V,hV,hbV,_,bV⟩:=box_1 w1 (.cells #[.int .i64 (pl.1:Nat),str pl.2] 54)
 obtain ⟨v0,v1,_,_⟩:=cells_2 bV
 have v0':V.drew.cell? ⟨w1.heap.size,0,none⟩=some (.int .i64 (pl.1:Nat)):=v0
 have v1':V.drew.cell? ⟨w1.heap.size,1,none⟩=some (str pl.2):=v1
 rw [hV]
 have HV:=Lib.hid (HW.out.2.trans (hbV.mono HW.out.2.size))
 clear hV hbV bV hSd v0' v1'
 go_wp2_with fail
 go_quiet (fail)
 go_wp2_with fail
 go_ret2
 exact ⟨rfl,below_dN HV.out.drew _⟩
theorem growP_any (n:Nat) (w:World) (hn:Lim n) :
 Calls Tryd.prog 55 #[.slice none 0 0,.int .i64 n] w fun en w' =>
  ∃ a c,en=.returned (.slice a 0 c)/\Own w' 54 2 (.slice a 0 c) 0 []/\Below w.heap.size w w'/\(∀ g,(Value.slice a 0 c).ownBlock=some g->w.heap.size<=g):=by
 have hl:=hn.le
 by_cases h0:n=0
 ·subst h0
  go_enter Tryd.func55,Tryd.ntmps55
  go_wp2_with fail
  go_ret
  exact ⟨none,0,rfl,World.ownsRow_nil _ _ _ _,Below.refl _ _,fun g h=>by simp [Value.ownBlock] at h⟩
 ·have h1:0<n:=by omega
  clear h0
  go_enter Tryd.func55,Tryd.ntmps55
  go_wp2_with (at_builtin;refine wpList_append_zeros rfl _ _ 52 3 rfl 54 (.agg #[.int .i64 0,str []]) 2 24 Tryd.underlying52 Tryd.underlying3 Tryd.infoPl rfl (by decide) (by decide) rfl n rfl h1 hl ?_)
  intro cap c hc1 hc2 hc3
  go_wp2_with fail
  go_ret
  exact ⟨_,cap,rfl,⟨by simp,.inr ⟨w.heap.size,cap,c,rfl,Nat.zero_le _,heap_new w _,Nat.zero_le _,hc2,by simpa using hc3,by simp⟩⟩,((Below.refl _ _).alloc (Nat.le_refl _) _).drew,fun g h=>by simp [Value.ownBlock] at h;omega⟩
def CatRelP (e:TypeId) (w:World) (n1 n2:Nat) (xs1 xs2:List Value) (v i:Value) (wr:World):Prop :=
 ∃ k m xs a c,i=.int .i64 (k:Nat)/\v=.slice a m c/\Own wr e 2 (.slice a m c) m xs/\Below w.heap.size w wr/\(∀ g,(Value.slice a m c).ownBlock=some g->w.heap.size<=g) /\
   ((k=0/\m=0/\xs=[])\/(k=1/\m=n1/\xs=xs1)\/(k=2/\m=n1+n2/\xs=xs1++xs2))
theorem CatRelP.next {e:TypeId} {w:World} {n1 n2:Nat} {xs1 xs2:List Value} {k m m':Nat} {xs:List Value} {a a':Option Addr} {c c':Nat} {wr w':World}
 (ho:Own w' e 2 (.slice a' m' c') m' xs) (hb:Below w.heap.size w wr) (hbut:But (fun b=>(Value.slice a m c).ownBlock=some b) wr w')
 (hf:∀ g,(Value.slice a m c).ownBlock=some g->w.heap.size<=g) (hg:∀ g,(Value.slice a' m' c').ownBlock=some g->(Value.slice a m c).ownBlock=some g\/g=wr.heap.size)
 (hk:(k=0/\m'=0/\xs=[])\/(k=1/\m'=n1/\xs=xs1)\/(k=2/\m'=n1+n2/\xs=xs1++xs2)):CatRelP e w n1 n2 xs1 xs2 (.slice a' m' c') (.int .i64 (k:Nat)) w' :=
 ⟨k,m',xs,a',c',rfl,rfl,ho,hb.trans (hbut.toBelow hb.size fun i hi h=>by have:=hf i h;omega),fun g h=>by
  rcases hg g h with h | h
  ·exact hf g h
  ·have:=hb.size;omega,hk⟩
theorem concatP_any (b n1 n2:Nat) (s1 s2:Value) (xs1 xs2:List Value) (w:World) (c1:w.cell? ⟨b,0,none⟩=some s1) (c2:w.cell? ⟨b,1,none⟩=some s2)
 (h1:SrcSl 2 s1 n1 xs1 w) (h2:SrcSl 2 s2 n2 xs2 w) (hn1:Lim n1) (hn2:Lim n2) (hn:Lim (n1+n2)) :
 Calls Tryd.prog 46 #[.slice (some ⟨b,0,none⟩) 2 2] w fun en w' =>
  ∃ a c,en=.returned (.slice a (n1+n2) c)/\Own w' 54 2 (.slice a (n1+n2) c) (n1+n2) (xs1++xs2)/\Below w.heap.size w w'/\(∀ g,(Value.slice a (n1+n2) c).ownBlock=some g->w.heap.size<=g):=by
 obtain ⟨a1,k1,rfl⟩:=h1.slice
 obtain ⟨a2,k2,rfl⟩:=h2.slice
 have hl:=hn.le;have hl1:=hn1.le;have hl2:=hn2.le
 have lb:b<w.heap.size:=World.block_lt_of_cell? w _ c1
 go_enter Tryd.func46,Tryd.ntmps46
 go_wp2_with fail
 go_loop [3,11] (fun n i=>(i=.int .i64 0/\n=.int .i64 0)\/(i=.int .i64 1/\n=.int .i64 n1)\/(i=.int .i64 2/\n=.int .i64 ((n1:Int)+(n2:Int)))) (fun _ i=>2-(intOf i).toNat)
 case atStart=>exact .inl ⟨rfl,rfl⟩
 case round =>
  rcases hrel with ⟨rfl,rfl⟩ | ⟨rfl,rfl⟩ | ⟨rfl,rfl⟩
  ·go_wp2_with fail
   go_round
   case rel=>exact .inr (.inl ⟨rfl,rfl⟩)
   case measure=>simp [intOf]
  ·go_wp2_with fail
   go_round
   case rel=>exact .inr (.inr ⟨rfl,rfl⟩)
   case measure=>simp [intOf]
  ·go_wp2_with fail
   rw [show (n1:Int)+(n2:Int)=((n1+n2:Nat):Int) from by omega]
   refine (growP_any (n1+n2) w hn).mono ?_
   rintro en wg ⟨ag,cg,rfl,hog,hbg,hfg⟩
   have hcat:CatRelP 54 w n1 n2 xs1 xs2 (.slice ag 0 cg) (.int .i64 (0:Nat)) wg:=⟨0,0,[],ag,cg,rfl,rfl,hog,hbg,hfg,.inl ⟨rfl,rfl,rfl⟩⟩
   clear hog hbg hfg
   go_wp2_with fail
   go_loopw [6,27] (fun v i wr=>CatRelP 54 w n1 n2 xs1 xs2 v i wr) (fun _ i _=>2-(intOf i).toNat)
   case atStart=>exact hcat
   case round =>
    rename_i wr
    obtain ⟨k,m,xs,a,c,rfl,rfl,ho,hb,hf,hk⟩:=hrel
    have d1:wr.cell? ⟨b,0,none⟩=some (.slice a1 n1 k1):=by rw [hb.cell lb];exact c1
    have d2:wr.cell? ⟨b,1,none⟩=some (.slice a2 n2 k2):=by rw [hb.cell lb];exact c2
    have g1:=h1.below hb;have g2:=h2.below hb
    have HF:=Lib.hid hf;clear hf
    rcases hk with ⟨rfl,rfl,rfl⟩ | ⟨rfl,rfl,rfl⟩ | ⟨rfl,rfl,rfl⟩
    ·go_wp2_with (at_builtin;refine wpList_append_gen rfl _ _ 52 rfl 54 (.agg #[.int .i64 0,str []]) 2 24 Tryd.underlying52 Tryd.infoPl rfl (by decide) _ 0 [] rfl ho _ n1 xs1 rfl g1 ?c3 ?c4 ?_)
     case c3=>unfold maxLen;omega
     case c4=>omega
     intro a' c' w' ho' hb' hg'
     have hcat:=CatRelP.next (n1:=n1) (n2:=n2) (xs1:=xs1) (xs2:=xs2) (k:=1) ho' hb hb' HF.out hg' (.inr (.inl ⟨rfl,rfl,rfl⟩))
     clear hb' hg' ho' HF
     go_wp2_with fail
     go_roundw
     case rel=>exact hcat
     case measure=>simp [intOf]
    ·go_wp2_with (at_builtin;refine wpList_append_gen rfl _ _ 52 rfl 54 (.agg #[.int .i64 0,str []]) 2 24 Tryd.underlying52 Tryd.infoPl rfl (by decide) _ m xs rfl ho _ n2 xs2 rfl g2 ?c3 ?c4 ?_)
     case c3=>unfold maxLen;omega
     case c4=>omega
     intro a' c' w' ho' hb' hg'
     have hcat:=CatRelP.next (n1:=m) (n2:=n2) (xs1:=xs) (xs2:=xs2) (k:=2) ho' hb hb' HF.out hg' (.inr (.inr ⟨rfl,rfl,rfl⟩))
     clear hb' hg' ho' HF
     go_wp2_with fail
     go_roundw
     case rel=>exact hcat
     case measure=>simp [intOf]
    ·go_wp2_with fail
     go_ret
     exact ⟨a,c,rfl,ho,hb,HF.out⟩
theorem Reps_lv (F:Nat->Prop) (w:World):∀ lv:List Place,Reps F w (lvD lv) (lvC lv)
 | []=>Reps_nil.2 rfl
 | p::lv=>by
   rw [show lvD (p::lv)=DV.val (.int .i64 (p.1:Nat))::DV.val (str p.2)::lvD lv from rfl,show lvC (p::lv)=.int .i64 (p.1:Nat)::str p.2::lvC lv from rfl]
   exact Reps_cons.2 ⟨_,_,rfl,Rep_val.2 rfl,Reps_cons.2 ⟨_,_,rfl,Rep_val.2 rfl,Reps_lv F w lv⟩⟩
theorem Reps_lv_eq {F:Nat->Prop} {w:World}:∀ (lv:List Place) (us:List Value),Reps F w (lvD lv) us->us=lvC lv
 | [],us,h=>Reps_nil.1 h
 | p::lv,us,h=>by
   rw [show lvD (p::lv)=DV.val (.int .i64 (p.1:Nat))::DV.val (str p.2)::lvD lv from rfl] at h
   obtain ⟨u,us1,rfl,h1,h2⟩:=Reps_cons.1 h
   obtain ⟨u2,us2,rfl,h3,h4⟩:=Reps_cons.1 h2
   rw [Rep_val] at h1 h3
   subst h1;subst h3
   rw [Reps_lv_eq lv us2 h4];rfl
theorem lvC_one:∀ (lv:List Place),∀ u∈lvC lv,u.oneCell'=true
 | [],u,h=>by simp [lvC] at h
 | p::lv,u,h=>by
   rw [show lvC (p::lv)=.int .i64 (p.1:Nat)::str p.2::lvC lv from rfl] at h
   rcases List.mem_cons.1 h with rfl | h
   ·simp [Value.oneCell']
   ·rcases List.mem_cons.1 h with rfl | h
    ·simp [str,Value.oneCell']
    ·exact lvC_one lv u h
theorem LvRep.src {F:Nat->Prop} {w:World} {lv:List Place} {v:Value} (h:LvRep F w lv v):SrcSl 2 v lv.length (lvC lv) w:=by
 obtain ⟨xs,hx,hs⟩:=SrcSl.ofRep h (fun us hu u hm=>by rw [Reps_lv_eq lv us hu] at hm;exact lvC_one lv u hm)
 rw [Reps_lv_eq lv xs hx] at hs;exact hs
theorem plcs_eq (b:Nat) (p:Bs):∀ n:Nat,plcs b p n=lvC (placesOf n b p)
 | 0=>rfl
 | n+1=>by rw [plcs,plcs_eq b p n,placesOf_succ,lvC_append];rfl
theorem Own.lv {F:Nat->Prop} {w:World} {lv:List Place} {a:Option Addr} {n c:Nat} (h:Own w 54 2 (.slice a n c) n (lvC lv)) (hn:n=lv.length) (hF:∀ g,(Value.slice a n c).ownBlock=some g->F g):LvRep F w lv (.slice a n c):=by
 subst hn
 exact h.rep hF (Reps_lv F w lv)
theorem LvRep.but {F F':Nat->Prop} {m:Nat->Prop} {w w':World} {lv:List Place} {v:Value} (h:LvRep F w lv v) (hb:But m w w') (hF:∀ b,F b->¬ m b/\F' b):LvRep F' w' lv v:=Rep.but hb hF h
theorem LvRep.below {F F':Nat->Prop} {w w':World} {lv:List Place} {v:Value} (h:LvRep F w lv v) (hb:Below w.heap.size w w') (hF:∀ b,F b->F' b):LvRep F' w' lv v:=Rep.below hb hF h
def StandP (bv:Value) (lv:List Place) (bg:Place) (w:World) (en:Ending) (w':World):Prop :=
 ∃ la lc,en=.returned (.agg #[bv,.slice la lv.length lc,.int .i64 (bg.1:Nat),str bg.2])/\Below w.heap.size w w'/\LvRep (w.heap.size<=·) w' lv (.slice la lv.length lc)
theorem set_four {w:World} {b:Nat} {x y z u:Value} {T:TypeId} (h:w.heap[b]? = some (.cells #[x,y,z,u] T (0,0))) (x' y' z' u':Value):((((w.setCell ⟨b,0,none⟩ x').setCell ⟨b,1,none⟩ y').setCell ⟨b,2,none⟩ z').setCell ⟨b,3,none⟩ u').heap[b]? = some (.cells #[x',y',z',u'] T (0,0)):=by
 rw [setCell_at' (setCell_at' (setCell_at' (setCell_at' h)))];rfl
theorem frozen_4 {w:World} {b:Nat} {c:Array Value} {T:TypeId} (h:w.heap[b]? = some (.cells c T (0,0))) (o:Nat):w.frozen? ⟨b,o,none⟩=false:=by simp [World.frozen?,h]
set_option maxRecDepth 100000 in
theorem standOf_any (F:Nat->Prop) (t:Ty) (kv bv:Value) (idx:Nat) (w:World) (hg:Glob w) (hk:Rep F w (encK t) kv) (ht:atomsT t<=15) (hbv:∃ a,bv=.pointer a) :
 Calls Tryd.prog 14 #[kv,bv,.int .i64 (idx:Nat)] w (StandP bv (placesOf t.args.length idx []) (idx,[]) w):=by
 obtain ⟨ba,rfl⟩:=hbv
 obtain ⟨kb,ks,rfl,_,hb,hrs⟩:=encK_open hk
 obtain ⟨sa,sc,rfl,hcap,hlen,hats⟩:=Rep_sl1_open hrs
 have hargs:=args_len t
 obtain ⟨W,hW,hbW,hz,bx⟩:=box_1 w (.cells #[.pointer none,.slice none 0 0,.int .i64 0,str []] 56)
 have c0:W.cell? ⟨kb,0,none⟩=some (.slice sa t.args.length sc):=(hbW.cell (by exact lt_of_heap hb)).trans (by simp [World.cell?,hb])
 have C:=Lib.hid (places_any t.args.length idx [] W (hg.below hbW) (by omega) (by simp))
 have HW:=Lib.hid (And.intro hW (And.intro hbW (And.intro hz bx)))
 clear hW hbW hz bx hk hb hrs hats hlen hcap hg
 go_enter Tryd.func14,Tryd.ntmps14
 go_upto_region 1 with (fail)
 rw [HW.out.1]
 go_wp2_with fail
 (with_reducible refine C.out.mono ?_)
 rintro en w1 ⟨la,lc,rfl,ho,hb1,hf⟩
 rw [plcs_eq] at ho
 have b1:=(hb1.block _ (lt_of_heap HW.out.2.2.2)).trans HW.out.2.2.2
 obtain ⟨z0,z1,z2,z3⟩:=cells_4 b1
 have f0:=frozen_4 b1 0;have f1:=frozen_4 b1 1;have f2:=frozen_4 b1 2;have f3:=frozen_4 b1 3
 have H1:=Lib.hid (And.intro ho (And.intro hb1 (And.intro hf b1)))
 clear ho hb1 hf b1 c0 C
 go_wp2_with fail
 have hV:=set_four H1.out.2.2.2 (.pointer ba) (.slice la t.args.length lc) (.int .i64 (idx:Nat)) (str [])
 obtain ⟨s0,s1,s2,s3⟩:=cells_4 hV
 have hzz:=HW.out.2.2.1
 have hbF:=((((HW.out.2.1.trans (H1.out.2.1.mono HW.out.2.1.size)).setCell (p:=⟨w.heap.size,0,none⟩) (Nat.le_refl _) (.pointer ba)).setCell (p:=⟨w.heap.size,1,none⟩) (Nat.le_refl _) (.slice la t.args.length lc)).setCell (p:=⟨w.heap.size,2,none⟩) (Nat.le_refl _) (.int .i64 (idx:Nat))).setCell (p:=⟨w.heap.size,3,none⟩) (Nat.le_refl _) (str [])
 refine bodyPost_ret (v:=.agg #[.pointer ba,.slice la t.args.length lc,.int .i64 (idx:Nat),str []]) (by simp [results,Tryd.results14,go_sem,s0,s1,s2,s3]) rfl ?_
 refine ⟨la,lc,by rw [placesOf_length],hbF,?_⟩
 rw [placesOf_length]
 refine Own.lv ?_ (by rw [placesOf_length]) (fun g hg=>by have:=H1.out.2.2.1 g hg;omega)
 exact H1.out.1.keep fun g o hg ho=>by
  have:=H1.out.2.2.1 g hg
  rw [Below.heap_setCell _ _ _ _ (by show g≠w.heap.size;omega),Below.heap_setCell _ _ _ _ (by show g≠w.heap.size;omega),Below.heap_setCell _ _ _ _ (by show g≠w.heap.size;omega),Below.heap_setCell _ _ _ _ (by show g≠w.heap.size;omega)];exact ho
def BehT (bv':Bd) (F:Nat->Prop) (lsl:Value) (bg:Place) (w:World) (en:Ending) (w':World):Prop :=
 ∃ a,en=.returned (.agg #[.pointer (some ⟨a,0,none⟩),lsl,.int .i64 (bg.1:Nat),str bg.2])/\Below w.heap.size w w'/\Rep F w (encB bv') (.pointer (some ⟨a,0,none⟩))
set_option maxRecDepth 100000 in
theorem behind_ans (c:UInt8) (hc:c=116\/c=102) (F:Nat->Prop) (l:Nat) (ss:List Bd) (y n:Bd) (bv kv:Value) (la:Option Addr) (ln lc:Nat) (bg:Place) (M:Bs) (idx:Nat) (w:World) (hb:Rep F w (encB (.ask l ss y n)) bv) (hM:0<M.length) (hM0:M[0]=c) (hkv:∃ a,kv=.pointer a) :
 Calls Tryd.prog 32 #[.agg #[bv,.slice la ln lc,.int .i64 (bg.1:Nat),str bg.2],kv,str M,.int .i64 (idx:Nat)] w (BehT (if c=116 then y else n) F (.slice la ln lc) bg w):=by
 obtain ⟨ka,rfl⟩:=hkv
 obtain ⟨b,sl,yv,nv,rfl,_,hbc,hs,hy,hn⟩:=ask_open hb
 obtain ⟨ya,rfl⟩:=encB_ptr hy
 obtain ⟨na,rfl⟩:=encB_ptr hn
 obtain ⟨W,hW,hbW,hz,b0,b1⟩:=boxes_2 w (.cells #[.pointer (some ⟨b,0,none⟩),.slice la ln lc,.int .i64 (bg.1:Nat),str bg.2] 56) (.cells #[.pointer none,.slice none 0 0,.int .i64 0,str []] 56)
 have hbW':W.heap[b]? = w.heap[b]?:=hbW.block _ (lt_of_heap hbc)
 have cY:W.cell? ⟨b,3,none⟩=some (.pointer (some ⟨ya,0,none⟩)):=by simp [World.cell?,hbW',hbc]
 have cN:W.cell? ⟨b,4,none⟩=some (.pointer (some ⟨na,0,none⟩)):=by simp [World.cell?,hbW',hbc]
 obtain ⟨e0,e1,e2,e3⟩:=cells_4 b0
 have f0:=frozen_4 b0 0
 have Q:=Lib.hid (And.intro hy hn)
 have HW:=Lib.hid (And.intro hW (And.intro hbW (And.intro hz (And.intro b0 b1))))
 clear hW hbW hz b0 b1 hbW' hbc hs hy hn hb e1 e2 e3
 rcases hc with rfl | rfl
 ·have q1:=byte_yes hM (c:=116) (n:=116) rfl hM0
  clear hM0
  go_enter Tryd.func32,Tryd.ntmps32
  go_upto_region 1 with (fail)
  rw [HW.out.1]
  go_upto_region 10 with (fail)
  obtain ⟨W2,hW2⟩:∃ W2,W.setCell ⟨w.heap.size,0,none⟩ (.pointer (some ⟨ya,0,none⟩))=W2:=⟨_,rfl⟩
  have x0:W2.heap[w.heap.size]? = some (.cells #[.pointer (some ⟨ya,0,none⟩),.slice la ln lc,.int .i64 (bg.1:Nat),str bg.2] 56 (0,0)):=by rw [<- hW2,setCell_at' HW.out.2.2.2.1];rfl
  have x1:W2.heap[w.heap.size+1]? = some (.cells #[.pointer none,.slice none 0 0,.int .i64 0,str []] 56 (0,0)):=by rw [<- hW2,Below.heap_setCell _ _ _ _ (by show w.heap.size+1≠w.heap.size;omega)];exact HW.out.2.2.2.2
  have hb2:Below w.heap.size w W2:=by rw [<- hW2];exact HW.out.2.1.setCell (p:=⟨w.heap.size,0,none⟩) (Nat.le_refl _) _
  rw [hW2]
  obtain ⟨y0,y1,y2,y3⟩:=cells_4 x0
  obtain ⟨z0,z1,z2,z3⟩:=cells_4 x1
  have g0:=frozen_4 x1 0;have g1:=frozen_4 x1 1;have g2:=frozen_4 x1 2;have g3:=frozen_4 x1 3
  have H2:=Lib.hid (And.intro hb2 x1)
  clear hb2 x0 x1 hW2 e0 f0 cY cN
  go_wp2_with fail
  have hV:=set_four H2.out.2 (.pointer (some ⟨ya,0,none⟩)) (.slice la ln lc) (.int .i64 (bg.1:Nat)) (str bg.2)
  obtain ⟨s0,s1,s2,s3⟩:=cells_4 hV
  have hbF:=(((H2.out.1.setCell (p:=⟨w.heap.size+1,0,none⟩) (Nat.le_succ _) (.pointer (some ⟨ya,0,none⟩))).setCell (p:=⟨w.heap.size+1,1,none⟩) (Nat.le_succ _) (.slice la ln lc)).setCell (p:=⟨w.heap.size+1,2,none⟩) (Nat.le_succ _) (.int .i64 (bg.1:Nat))).setCell (p:=⟨w.heap.size+1,3,none⟩) (Nat.le_succ _) (str bg.2)
  refine bodyPost_ret (v:=.agg #[.pointer (some ⟨ya,0,none⟩),.slice la ln lc,.int .i64 (bg.1:Nat),str bg.2]) (by simp [results,Tryd.results32,go_sem,s0,s1,s2,s3]) rfl ?_
  exact ⟨_,rfl,hbF,Q.out.1⟩
 ·have q0:=byte_no hM (c:=116) (n:=116) rfl (by rw [hM0];decide)
  have q1:=byte_yes hM (c:=102) (n:=102) rfl hM0
  clear hM0
  go_enter Tryd.func32,Tryd.ntmps32
  go_upto_region 1 with (fail)
  rw [HW.out.1]
  go_upto_region 10 with (fail)
  obtain ⟨W2,hW2⟩:∃ W2,W.setCell ⟨w.heap.size,0,none⟩ (.pointer (some ⟨na,0,none⟩))=W2:=⟨_,rfl⟩
  have x0:W2.heap[w.heap.size]? = some (.cells #[.pointer (some ⟨na,0,none⟩),.slice la ln lc,.int .i64 (bg.1:Nat),str bg.2] 56 (0,0)):=by rw [<- hW2,setCell_at' HW.out.2.2.2.1];rfl
  have x1:W2.heap[w.heap.size+1]? = some (.cells #[.pointer none,.slice none 0 0,.int .i64 0,str []] 56 (0,0)):=by rw [<- hW2,Below.heap_setCell _ _ _ _ (by show w.heap.size+1≠w.heap.size;omega)];exact HW.out.2.2.2.2
  have hb2:Below w.heap.size w W2:=by rw [<- hW2];exact HW.out.2.1.setCell (p:=⟨w.heap.size,0,none⟩) (Nat.le_refl _) _
  rw [hW2]
  obtain ⟨y0,y1,y2,y3⟩:=cells_4 x0
  obtain ⟨z0,z1,z2,z3⟩:=cells_4 x1
  have g0:=frozen_4 x1 0;have g1:=frozen_4 x1 1;have g2:=frozen_4 x1 2;have g3:=frozen_4 x1 3
  have H2:=Lib.hid (And.intro hb2 x1)
  clear hb2 x0 x1 hW2 e0 f0 cY cN
  go_wp2_with fail
  have hV:=set_four H2.out.2 (.pointer (some ⟨na,0,none⟩)) (.slice la ln lc) (.int .i64 (bg.1:Nat)) (str bg.2)
  obtain ⟨s0,s1,s2,s3⟩:=cells_4 hV
  have hbF:=(((H2.out.1.setCell (p:=⟨w.heap.size+1,0,none⟩) (Nat.le_succ _) (.pointer (some ⟨na,0,none⟩))).setCell (p:=⟨w.heap.size+1,1,none⟩) (Nat.le_succ _) (.slice la ln lc)).setCell (p:=⟨w.heap.size+1,2,none⟩) (Nat.le_succ _) (.int .i64 (bg.1:Nat))).setCell (p:=⟨w.heap.size+1,3,none⟩) (Nat.le_succ _) (str bg.2)
  refine bodyPost_ret (v:=.agg #[.pointer (some ⟨na,0,none⟩),.slice la ln lc,.int .i64 (bg.1:Nat),str bg.2]) (by simp [results,Tryd.results32,go_sem,s0,s1,s2,s3]) rfl ?_
  exact ⟨_,rfl,hbF,Q.out.2⟩
end Go.Proofs.YthoimoenbccflaaDoor

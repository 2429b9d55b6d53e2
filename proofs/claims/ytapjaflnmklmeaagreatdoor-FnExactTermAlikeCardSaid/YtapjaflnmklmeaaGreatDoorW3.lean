import Derived.Test.YtapjaflnmklmeaaGreatDoorRows
import Derived.Test.YtapjaflnmklmeaaGreatDoorShelf
import Derived.Test.YtapjaflnmklmeaaGreatDoorApp
import Derived.Test.YtapjaflnmklmeaaGreatDoorP1
/- The walks of impl's scanner and of what reads types. -/
namespace Go.Proofs.YtapjaflnmklmeaaGreatDoor
open Go.RowKit
def Scan (sc:Nat) (c:List Value) (e:TypeId) (r:Bs) (w:World):Prop:=w.heap[sc]? = some (.cells (str r::c).toArray e (0,0))
theorem Scan.cell {sc:Nat} {c:List Value} {e:TypeId} {r:Bs} {w:World} (h:Scan sc c e r w):w.cell? ⟨sc,0,none⟩=some (str r):=by
 simp [World.cell?,Scan] at *;simp [h]
theorem Scan.free {sc:Nat} {c:List Value} {e:TypeId} {r:Bs} {w:World} (h:Scan sc c e r w) (o:Nat):w.frozen? ⟨sc,o,none⟩=false:=by
 simp [World.frozen?,Scan] at *;simp [h]
theorem Scan.put {sc:Nat} {c:List Value} {e:TypeId} {r r':Bs} {w:World} (h:Scan sc c e r w):Scan sc c e r' (w.setCell ⟨sc,0,none⟩ (str r')):=by
 unfold Scan at *
 have hlt:=lt_of_heap h
 have h':w.heap[sc]=.cells (str r::c).toArray e (0,0):=by simpa [Array.getElem?_eq_getElem hlt] using h
 show (w.heap.modify sc _)[sc]? = _
 rw [Array.getElem?_eq_getElem (by simpa using hlt),Array.getElem_modify_self,h']
 simp
theorem trim_of_cut {p r:Bs}:Lib.hasPrefix r p=(cut p r).isSome∧Lib.trimPrefix r p=(cut p r).getD r:=by
 unfold Lib.hasPrefix Lib.trimPrefix cut Lib.hasPrefix
 cases h:p.isPrefixOf r <;> simp
set_option maxHeartbeats 400000 in
theorem take_any (sc:Nat) (c:List Value) (e:TypeId) (r p:Bs) (w:World) (h:Scan sc c e r w) :
 Calls Tryz.prog 66 #[.pointer (some ⟨sc,0,none⟩),.string ⟨p.toArray⟩] w fun en w' =>
  en=.returned (.bool (cut p r).isSome)∧But (· = sc) w w'∧Scan sc c e ((cut p r).getD r) w':=by
 have h1:=h.cell
 have h2:=h.free 0
 have h3:=Lib.hid h;clear h
 go_enter Tryz.func66,Tryz.ntmps66
 go_wp2_with (go_at_call 83;refine (Tryz.strings_CutPrefix _ _ _).mono ?_;rintro e w' ⟨rfl,rfl⟩)
 go_ret
 refine ⟨?_,(But.refl (· = sc) _).setCell (p:=⟨sc,0,none⟩) (.inl rfl) _,?_⟩
 ·rw [← trim_of_cut.1];rfl
 ·rw [← trim_of_cut.2];exact h3.out.put
theorem encK_open {F:Nat→Prop} {w:World} {t:Ty} {v:Value} (h:Rep F w (encK t) v) :
 ∃ b s,v=.pointer (some ⟨b,0,none⟩)∧F b∧w.heap[b]? = some (.cells #[s] 108 (0,0))∧Rep F w (.sl 43 1 t.args.length (encKs t.args)) s:=by
 cases t with
 | mk ts =>
   rw [encK,Rep_ptr] at h
   obtain ⟨b,c,hv,hb,hc,hr⟩:=h
   rw [Reps_cons] at hr
   obtain ⟨s,vs',e1,h1,h2⟩:=hr
   rw [Reps_nil] at h2;subst h2
   have:c=#[s]:=by apply Array.ext';simpa using e1
   subst this
   exact ⟨b,s,hv,hb,hc,h1⟩
theorem encK_shut {F:Nat→Prop} {w:World} {t:Ty} {b:Nat} {s:Value} (hb:F b) (hc:w.heap[b]? = some (.cells #[s] 108 (0,0)))
 (h:Rep F w (.sl 43 1 t.args.length (encKs t.args)) s):Rep F w (encK t) (.pointer (some ⟨b,0,none⟩)):=by
 cases t with
 | mk ts =>
   rw [encK,Rep_ptr]
   exact ⟨b,#[s],rfl,hb,hc,Reps.one h⟩
theorem Tryz.infoK:(Tryz.prog.info? 43).map (fun i=>(i.zero,i.size,i.bytes))=some (some (.pointer none),1,8):=by kernel_rfl
theorem oneCell_encKs {F:Nat→Prop} {w:World} (ts:List Ty):∀ us,Reps F w (encKs ts) us→∀ u∈us,u.oneCell'=true:=by
 induction ts with
 | nil=>intro us h;rw [encKs,Reps_nil] at h;subst h;simp
 | cons t ts ih =>
   intro us h u hu
   rw [encKs,Reps_cons] at h
   obtain ⟨v,vs',rfl,h1,h2⟩:=h
   rcases List.mem_cons.1 hu with rfl | hu
   ·obtain ⟨b,s,rfl,_⟩:=encK_open h1;rfl
   ·exact ih _ h2 u hu
set_option maxHeartbeats 400000 in
theorem arrow_any (F:Nat→Prop) (a b:Ty) (va vb:Value) (w:World) (ha:Rep F w (encK a) va) (hb:Rep F w (encK b) vb) (hl:Lim b.args.length) :
 Calls Tryz.prog 51 #[va,vb] w fun en w' =>
  ∃ v,en=.returned v∧Below w.heap.size w w'∧Rep (fun k=>F k∨w.heap.size≤k) w' (encK (arrowT a b)) v:=by
 obtain ⟨bb,sb,rfl,hFb,hcb,hrb⟩:=encK_open hb
 obtain ⟨ba,eva⟩:∃ ba,va=.pointer (some ⟨ba,0,none⟩):=by obtain ⟨ba,_,h,_⟩:=encK_open ha;exact ⟨ba,h⟩
 subst eva
 obtain ⟨news,hnews,hsrc⟩:=SrcSl.ofRep hrb (oneCell_encKs _)
 have c1:w.cell? ⟨bb,0,none⟩=some sb:=by simp [World.cell?,hcb]
 have l1:=lt_of_heap hcb
 have H1:=Lib.hid hsrc;have H2:=Lib.hid hnews;have H3:=Lib.hid ha
 clear hsrc hnews ha hb hrb hcb
 go_enter Tryz.func51,Tryz.ntmps51
 go_wp2_with (at_builtin;refine wpList_append_gen rfl _ _ 106 rfl 43 (.pointer none) 1 8 Tryz.underlying106 Tryz.infoK rfl (by decide) _ 1 [.pointer (some ⟨ba,0,none⟩)] rfl ?c1 _ b.args.length news rfl ?c2 ?c3 ?c4 ?_)
 case c1=>exact Own.lit #[.pointer (some ⟨ba,0,none⟩)] 1 (by decide) rfl
 case c2=>exact H1.out.keep fun _ _ h=>cell_alloc h
 case c3=>have:=hl.le;unfold maxLen;omega
 case c4=>have:=hl.le;omega
 intro a' c' w' ho hb hg
 have H4:=Lib.hid ho;have H5:=Lib.hid hb;have H6:=Lib.hid hg;clear ho hb hg
 go_wp2
 go_ret
 have hb:=H5.out
 have b1:Below w.heap.size w w':=((Below.refl w.heap.size w).alloc (Nat.le_refl _) _).trans (hb.toBelow (by simp) (fun i hi e=>by simp [Value.ownBlock] at e;omega))
 refine ⟨_,rfl,b1.alloc b1.size _,?_⟩
 refine encK_shut (F:=fun k=>F k∨w.heap.size≤k) (.inr b1.size) (heap_new _ _) ?_
 refine Rep.below (F:=fun k=>F k∨w.heap.size≤k) ((Below.refl _ _).alloc (Nat.le_refl _) _) (fun _ h=>h) ?_
 rw [show (arrowT a b).args.length=1+b.args.length from by simp [arrowT,Ty.args,Nat.add_comm]]
 refine H4.out.rep ?_ ?_
 ·intro g hg
  rcases H6.out g hg with h | h
  ·simp [Value.ownBlock] at h;exact .inr (by omega)
  ·exact .inr (by subst h;simp)
 ·show Reps _ _ (encK a::encKs b.args) _
  exact Reps_cons.2 ⟨_,_,rfl,Rep.below b1 (fun _ h=>.inl h) H3.out,Reps.below b1 (fun _ h=>.inl h) H2.out⟩
theorem take_yes {sc:Nat} {c:List Value} {e:TypeId} {r p r':Bs} {w:World} (h:Scan sc c e r w) (hc:Cut p r r') :
 Calls Tryz.prog 66 #[.pointer (some ⟨sc,0,none⟩),.string ⟨p.toArray⟩] w fun en w' =>
  en=.returned (.bool true)∧But (· = sc) w w'∧Scan sc c e r' w':=by
 refine (take_any sc c e r p w h).mono ?_
 rw [hc.out];exact fun _ _ h=>h
theorem take_no {sc:Nat} {c:List Value} {e:TypeId} {r p:Bs} {w:World} (h:Scan sc c e r w) (hc:NoCut p r) :
 Calls Tryz.prog 66 #[.pointer (some ⟨sc,0,none⟩),.string ⟨p.toArray⟩] w fun en w' =>
  en=.returned (.bool false)∧But (· = sc) w w'∧Scan sc c e r w':=by
 refine (take_any sc c e r p w h).mono ?_
 rw [hc.out];exact fun _ _ h=>h
def KPost (sc:Nat) (c:List Value) (e:TypeId) (w:World) (o:Option (Ty×Bs)) (en:Ending) (w':World):Prop :=
 ∃ v r',en=.returned v∧But (· = sc) w w'∧Scan sc c e r' w'∧(o=none→v=.pointer none)∧(∀ t rest,o=some (t,rest)→r'=rest∧Rep (w.heap.size≤·) w' (encK t) v)
theorem KPost.no {sc:Nat} {c:List Value} {e:TypeId} {w:World} {r:Bs} {w':World} {o:Option (Ty×Bs)} (ho:o=none) (hb:But (· = sc) w w') (hs:Scan sc c e r w'):KPost sc c e w o (.returned (.pointer none)) w' :=
 ⟨_,r,rfl,hb,hs,fun _=>rfl,fun _ _ h=>by rw [ho] at h;simp at h⟩
theorem KPost.yes {sc:Nat} {c:List Value} {e:TypeId} {w:World} {r:Bs} {w':World} {o:Option (Ty×Bs)} {t:Ty} {v:Value} (ho:o=some (t,r)) (hb:But (· = sc) w w') (hs:Scan sc c e r w')
 (hv:Rep (w.heap.size≤·) w' (encK t) v):KPost sc c e w o (.returned v) w' :=
 ⟨_,r,rfl,hb,hs,fun h=>by rw [ho] at h;simp at h,fun _ _ h=>by rw [ho] at h;simp at h;obtain ⟨rfl,rfl⟩:=h;exact ⟨rfl,hv⟩⟩
theorem scan_lt {sc:Nat} {c:List Value} {e:TypeId} {r:Bs} {w:World} (h:Scan sc c e r w):sc<w.heap.size:=lt_of_heap h
theorem Scan.alloc {sc:Nat} {c:List Value} {e:TypeId} {r:Bs} {w:World} (h:Scan sc c e r w) (o:Obj):Scan sc c e r (w.alloc o):=heap_past h
def KindSaid (sc:Nat) (c:List Value) (e:TypeId) (d:Nat):Prop:=∀ (r:Bs) (w:World),Scan sc c e r w→Lim r.length →
    Calls Tryz.prog 69 #[.pointer (some ⟨sc,0,none⟩),.int .i64 d] w (KPost sc c e w (rdK d r))
set_option maxHeartbeats 1000000 in
theorem kind_step (sc:Nat) (c:List Value) (e:TypeId) (d:Nat) (hd:d≤1000) (ih:∀ d',d=d'+1→KindSaid sc c e d'):KindSaid sc c e d:=by
 intro r w hs hr
 have IH:=Lib.hid ih;clear ih
 go_enter Tryz.func69,Tryz.ntmps69
 go_wp2_with fail
 rcases cut_cases [98] r with h1 | ⟨r1,h1⟩
 ·refine (take_no hs h1).mono ?_
  rintro en w1 ⟨rfl,hb1,hs1⟩
  by_cases h0:d=0
  ·have H0:=Lib.hid h0;clear h0
   have h0:((d:Int) == 0)=true:=by rw [beq_iff_eq];have:=H0.out;omega
   go_wp2_with fail
   go_ret
   exact KPost.no (by have:=H0.out;subst this;exact rdK_zero h1) hb1 hs1
  ·obtain ⟨d',hd'⟩:∃ d',d=d'+1:=⟨d-1,by omega⟩
   subst hd'
   clear h0
   have h0:(((d'+1:Nat):Int) == 0)=false:=by rw [beq_eq_false_iff_ne];omega
   have IH':=Lib.hid (IH.out d' rfl);clear IH
   go_wp2_with fail
   rcases cut_cases [40,62,32] r with h2 | ⟨r2,h2⟩
   ·refine (take_no hs1 h2).mono ?_
    rintro en w2 ⟨rfl,hb2,hs2⟩
    go_wp2_with fail
    go_ret
    exact KPost.no (by rw [rdK_succ h1,h2.out];rfl) (hb1.trans hb2) hs2
   refine (take_yes hs1 h2).mono ?_
   rintro en w2 ⟨rfl,hb2,hs2⟩
   go_wp2_with fail
   have r2l:=h2.le
   refine (IH'.out r2 w2 hs2 (hr.mono r2l)).mono ?_
   rintro en w3 ⟨va,r3,rfl,hb3,hs3,hn3,hy3⟩
   rcases ha:rdK d' r2 with _ | ⟨ta,r3'⟩
   ·obtain rfl:=hn3 ha
    have Ha:=Lib.hid ha;clear ha hn3 hy3
    go_wp2_with fail
    go_ret
    exact KPost.no (by rw [rdK_succ h1,h2.out];simp [Ha.out]) ((hb1.trans hb2).trans hb3) hs3
   obtain ⟨rfl,hra⟩:=hy3 _ _ ha
   obtain ⟨ba,rfl⟩:∃ ba,va=.pointer (some ⟨ba,0,none⟩):=by obtain ⟨ba,_,h,_⟩:=encK_open hra;exact ⟨ba,h⟩
   have r3l:=(rdK_le _ ha).1
   have Ha:=Lib.hid ha;clear ha hn3 hy3
   have hb:=(hb1.trans hb2).trans hb3;have hb2z:=(hb1.trans hb2).size;clear hb1 hb2
   go_wp2_with fail
   rcases cut_cases [32] r3 with h4 | ⟨r4,h4⟩
   ·refine (take_no hs3 h4).mono ?_
    rintro en w4 ⟨rfl,hb4,hs4⟩
    go_wp2_with fail
    go_ret
    exact KPost.no (by rw [rdK_succ h1,h2.out];simp [Ha.out,h4.out]) (hb.trans hb4) hs4
   refine (take_yes hs3 h4).mono ?_
   rintro en w4 ⟨rfl,hb4,hs4⟩
   go_wp2_with fail
   have r4l:=h4.le
   refine (IH'.out r4 w4 hs4 (hr.mono (by omega))).mono ?_
   rintro en w5 ⟨vb,r5,rfl,hb5,hs5,hn5,hy5⟩
   rcases hbb:rdK d' r4 with _ | ⟨tb,r5'⟩
   ·obtain rfl:=hn5 hbb
    have Hb:=Lib.hid hbb;clear hbb hn5 hy5
    go_wp2_with fail
    go_ret
    exact KPost.no (by rw [rdK_succ h1,h2.out];simp [Ha.out,h4.out,Hb.out]) ((hb.trans hb4).trans hb5) hs5
   obtain ⟨rfl,hrb⟩:=hy5 _ _ hbb
   obtain ⟨bb,rfl⟩:∃ ba,vb=.pointer (some ⟨ba,0,none⟩):=by obtain ⟨ba,_,h,_⟩:=encK_open hrb;exact ⟨ba,h⟩
   have r5l:=rdK_le _ hbb
   have Hb:=Lib.hid hbb;clear hbb hn5 hy5
   go_wp2_with fail
   rcases cut_cases [41] r5 with h6 | ⟨r6,h6⟩
   ·refine (take_no hs5 h6).mono ?_
    rintro en w6 ⟨rfl,hb6,hs6⟩
    go_wp2_with fail
    go_ret
    exact KPost.no (by rw [rdK_succ h1,h2.out];simp [Ha.out,h4.out,Hb.out,h6.out]) (((hb.trans hb4).trans hb5).trans hb6) hs6
   refine (take_yes hs5 h6).mono ?_
   rintro en w6 ⟨rfl,hb6,hs6⟩
   have hsc:=scan_lt hs
   have z1:=hb.size;have z3:=hb3.size;have z4:=hb4.size;have z5:=hb5.size;have z6:=hb6.size;have z2:=hb3.size
   have w2z:w.heap.size≤w2.heap.size:=by have:=hb2z;omega
   have ra:Rep (w.heap.size≤·) w6 (encK ta) (.pointer (some ⟨ba,0,none⟩)):=Rep.but ((hb4.trans hb5).trans hb6) (fun b h=>⟨by omega,by omega⟩) hra
   have rb:Rep (w.heap.size≤·) w6 (encK tb) (.pointer (some ⟨bb,0,none⟩)):=Rep.but hb6 (fun b h=>⟨by omega,by omega⟩) hrb
   go_wp2_with fail
   refine (arrow_any _ ta tb _ _ w6 ra rb (hr.mono (by omega))).mono ?_
   rintro en w7 ⟨v,rfl,hb7,hv⟩
   obtain ⟨bv,rfl⟩:∃ ba,v=.pointer (some ⟨ba,0,none⟩):=by obtain ⟨ba,_,h,_⟩:=encK_open hv;exact ⟨ba,h⟩
   go_wp2_with fail
   go_ret
   refine KPost.yes (t:=arrowT ta tb) (r:=r6) (by rw [rdK_succ h1,h2.out];simp [Ha.out,h4.out,Hb.out,h6.out]) ((((hb.trans hb4).trans hb5).trans hb6).trans (But.ofBelow hb7)) ?_ ?_
   ·exact (hb7.block sc (by omega)).trans hs6
   ·exact (Rep.keep fun b o h ho=>⟨by rcases h with h | h <;> omega,ho⟩).1 _ _ hv
 ·refine (take_yes hs h1).mono ?_
  rintro en w1 ⟨rfl,hb1,hs1⟩
  go_wp2_with fail
  go_ret
  refine KPost.yes (t:=.mk []) (r:=r1) (rdK_b h1) (hb1.alloc _) (hs1.alloc _) ?_
  refine encK_shut (F:=(w.heap.size≤·)) hb1.size (heap_new _ _) ?_
  exact (Rep_sl.2 ⟨rfl,none,0,rfl,Nat.le_refl _,fun _=>rfl,.inl rfl⟩)
theorem kind_any (sc:Nat) (c:List Value) (e:TypeId) (d:Nat) (hd:d≤1000):KindSaid sc c e d:=by
 induction d with
 | zero=>exact kind_step sc c e 0 hd (fun d' h=>by omega)
 | succ d ih=>exact kind_step sc c e (d+1) hd (fun d' h=>by obtain rfl:d=d':=by omega
                                                            exact ih (by omega))
end Go.Proofs.YtapjaflnmklmeaaGreatDoor
namespace Go.Proofs.YtapjaflnmklmeaaGreatDoor
open Go.RowKit
def AtomsSaid (F:Nat→Prop) (w:World) (t:Ty):Prop:=∀ v,Rep F w (encK t) v →
 Calls Tryz.prog 50 #[v] w fun en w'=>en=.returned (.int .i64 (atomsT t))∧w'=w
set_option maxHeartbeats 400000 in
theorem atoms_step (F:Nat→Prop) (w:World) (t:Ty) (hl:Lim (atomsT t)) (ih:∀ t',atomsT t'<atomsT t→AtomsSaid F w t'):AtomsSaid F w t:=by
 intro v hv
 obtain ⟨b,s,rfl,hb,hc,hs⟩:=encK_open hv
 have c1:w.cell? ⟨b,0,none⟩=some s:=by simp [World.cell?,hc]
 obtain ⟨a,cap,rfl,hn,hlen,hat⟩:=Rep_sl1_open hs
 have IH:=Lib.hid ih;clear ih hc hv hs
 have e1:=atomsT_mk t
 have E1:=Lib.hid e1;clear e1
 have hl':=hl.le
 have hlb:t.args.length≤16777216:=by
  have h:∀ ts:List Ty,ts.length≤atomsTs ts:=by intro ts;induction ts with
   | nil=>simp
   | cons t ts ih=>simp [atomsTs];omega
  have:=h t.args;have:=E1.out;omega
 have HL:=Lib.hid hlen;clear hlen
 have AT:=Lib.hid hat;clear hat
 go_enter Tryz.func50,Tryz.ntmps50
 go_wp2_with fail
 go_loop [3,11] (fun n i=>∃ k:Nat,k≤t.args.length∧i=.int .i64 k∧n=.int .i64 ((1+atomsTs (t.args.take k):Nat):Int)) (fun _ i=>t.args.length-(intOf i).toNat)
 case atStart=>exact ⟨0,Nat.zero_le _,rfl,by simp [atomsTs]⟩
 case round =>
  obtain ⟨k,hk,rfl,rfl⟩:=hrel
  by_cases hlt:k<t.args.length
  ·obtain ⟨b',o,u,d,rfl,_,hb',hd,hu,hr⟩:=AT.out k hlt
   rw [encKs_at,Option.map_eq_some_iff] at hd
   obtain ⟨t',ht',rfl⟩:=hd
   have hs:=atomsTs_take ht'
   have hle:=atomsTs_take_le t.args (k+1)
   have hat':=E1.out
   have IH':=Lib.hid (IH.out t' (by omega))
   have HS:=Lib.hid hs
   have b1:1+atomsTs (t.args.take k)+(1+atomsT t')≤16777216:=by omega
   have HT:=Lib.hid ht';clear hs ht' hat'
   obtain ⟨bu,eu⟩:∃ bu,u=.pointer (some ⟨bu,0,none⟩):=by obtain ⟨ba,_,h,_⟩:=encK_open hr;exact ⟨ba,h⟩
   subst eu
   go_wp2_with fail
   refine (IH'.out _ hr).mono ?_
   rintro en w' ⟨rfl,ew⟩
   subst ew
   go_wp2_with fail
   go_round
   case rel=>exact ⟨k+1,by omega,by go_num,by rw [HS.out];go_num⟩
   case measure=>simp [intOf];omega
  ·go_wp2_with fail
   go_ret
   have:k=t.args.length:=by omega
   subst this
   exact ⟨ret_i64 (by rw [E1.out,List.take_length];simp),rfl⟩
theorem atoms_any (F:Nat→Prop) (w:World) (n:Nat):∀ t,atomsT t≤n→Lim n→AtomsSaid F w t:=by
 induction n with
 | zero=>intro t h _;have:=atomsT_pos t;omega
 | succ n ih=>exact fun t h hn=>atoms_step F w t (hn.mono h) (fun t' h'=>ih t' (by omega) (hn.mono (by omega)))
end Go.Proofs.YtapjaflnmklmeaaGreatDoor
namespace Go.Proofs.YtapjaflnmklmeaaGreatDoor
open Go.RowKit
theorem SrcSl.slice {size:Nat} {x:Value} {m:Nat} {news:List Value} {w:World} (h:SrcSl size x m news w):∃ a c,x=.slice a m c:=by
 obtain ⟨_,_,⟨a,c,rfl,_⟩ | ⟨rfl,rfl⟩⟩:=h
 ·exact ⟨_,_,rfl⟩
 ·exact ⟨_,_,rfl⟩
theorem SrcSl.below {w w':World} {size:Nat} {x:Value} {m:Nat} {news:List Value} (hb:Below w.heap.size w w') (h:SrcSl size x m news w):SrcSl size x m news w' :=
 h.keep fun a v hv=>by rw [hb.cell (World.block_lt_of_cell? w a hv)];exact hv
def CatRel (e:TypeId) (w:World) (n1 n2:Nat) (xs1 xs2:List Value) (v i:Value) (wr:World):Prop :=
 ∃ k m xs a c,i=.int .i64 (k:Nat)∧v=.slice a m c∧Own wr e 1 (.slice a m c) m xs∧Below w.heap.size w wr∧(∀ g,(Value.slice a m c).ownBlock=some g→w.heap.size≤g) ∧
   ((k=0∧m=0∧xs=[])∨(k=1∧m=n1∧xs=xs1)∨(k=2∧m=n1+n2∧xs=xs1++xs2))
theorem CatRel.next {e:TypeId} {w:World} {n1 n2:Nat} {xs1 xs2:List Value} {k m m':Nat} {xs:List Value} {a a':Option Addr} {c c':Nat} {wr w':World}
 (ho:Own w' e 1 (.slice a' m' c') m' xs) (hb:Below w.heap.size w wr) (hbut:But (fun b=>(Value.slice a m c).ownBlock=some b) wr w')
 (hf:∀ g,(Value.slice a m c).ownBlock=some g→w.heap.size≤g) (hg:∀ g,(Value.slice a' m' c').ownBlock=some g→(Value.slice a m c).ownBlock=some g∨g=wr.heap.size)
 (hk:(k=0∧m'=0∧xs=[])∨(k=1∧m'=n1∧xs=xs1)∨(k=2∧m'=n1+n2∧xs=xs1++xs2)):CatRel e w n1 n2 xs1 xs2 (.slice a' m' c') (.int .i64 (k:Nat)) w' :=
 ⟨k,m',xs,a',c',rfl,rfl,ho,hb.trans (hbut.toBelow hb.size fun i hi h=>by have:=hf i h;omega),fun g h=>by
  rcases hg g h with h | h
  ·exact hf g h
  ·have:=hb.size;omega,hk⟩
end Go.Proofs.YtapjaflnmklmeaaGreatDoor

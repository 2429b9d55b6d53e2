import Derived.Test.YtapjaflnmklmeaaGreatDoorW9a
import Derived.Test.YtapjaflnmklmeaaGreatDoorP34
import Derived.Maps.Own
/- The walks of impl's reader of terms. -/
namespace Go.Proofs.YtapjaflnmklmeaaGreatDoor
open Go.RowKit
set_option maxRecDepth 20000 in
set_option maxHeartbeats 1000000 in
theorem isName_any (s:Bs) (w:World) (hl:Lim s.length) :
 Calls Tryz.prog 68 #[str s] w fun en w'=>en=.returned (.bool (nameB s))∧w'=w:=by
 have hl':=hl.le
 by_cases h0:s.length=0
 ·obtain rfl:s=[]:=List.eq_nil_of_length_eq_zero h0
  clear h0
  go_enter Tryz.func68,Tryz.ntmps68
  go_wp2_with fail
  go_ret
  exact ⟨rfl,rfl⟩
 have hne:(s == [])=false:=by rw [beq_eq_false_iff_ne];rintro rfl;exact h0 rfl
 have hne2:s.isEmpty=false:=by rw [List.isEmpty_eq_false_iff];rintro rfl;exact h0 rfl
 have hpos:0<s.length:=by omega
 clear h0
 by_cases h3:3<s.length
 ·have HN:=Lib.hid (name_no1 h3)
  go_enter Tryz.func68,Tryz.ntmps68
  go_wp2_with fail
  go_ret
  exact ⟨by rw [HN.out];rfl,rfl⟩
 have B:=byte_int hpos
 by_cases hA:s[0].toNat<120
 ·have HN:=Lib.hid (name_no2 hpos (.inl hA))
  have b1:((((⟨s.toArray⟩:ByteArray)[0]'(lt_str hpos)).toNat:Int))<120:=by rw [B];omega
  clear B hA
  go_enter Tryz.func68,Tryz.ntmps68
  go_wp2_with fail
  go_ret
  exact ⟨by rw [HN.out];rfl,rfl⟩
 by_cases hB:122<s[0].toNat
 ·have HN:=Lib.hid (name_no2 hpos (.inr hB))
  have b1:(122:Int)<((((⟨s.toArray⟩:ByteArray)[0]'(lt_str hpos)).toNat:Int)):=by rw [B];omega
  have b2:¬ ((((⟨s.toArray⟩:ByteArray)[0]'(lt_str hpos)).toNat:Int))<120:=by omega
  clear B hA hB
  go_enter Tryz.func68,Tryz.ntmps68
  go_wp2_with fail
  go_ret
  exact ⟨by rw [HN.out];rfl,rfl⟩
 have b1:¬ (122:Int)<((((⟨s.toArray⟩:ByteArray)[0]'(lt_str hpos)).toNat:Int)):=by rw [B];omega
 have b2:¬ ((((⟨s.toArray⟩:ByteArray)[0]'(lt_str hpos)).toNat:Int))<120:=by rw [B];omega
 have HA:=Lib.hid (And.intro hA hB)
 clear B hA hB
 go_enter Tryz.func68,Tryz.ntmps68
 go_wp2_with fail
 clear b1 b2
 go_loop [3] (fun i=>∃ k:Nat,1≤k∧k≤s.length∧i=.int .i64 k∧∀ j,1≤j→j<k→∀ (hj:j<s.length),48≤s[j].toNat∧s[j].toNat≤57) (fun i=>s.length-(intOf i).toNat)
 case atStart=>exact ⟨1,Nat.le_refl _,hpos,rfl,fun j h1 h2=>by omega⟩
 case round =>
  obtain ⟨k,hk1,hk,rfl,hall⟩:=hrel
  have HR:=Lib.hid hall;clear hall
  by_cases hlt:k<s.length
  ·have B:=byte_int hlt
   by_cases hA:s[k].toNat<48
   ·have HN:=Lib.hid (name_no3 hk1 hlt (.inl hA))
    have b1:((((⟨s.toArray⟩:ByteArray)[k]'(lt_str hlt)).toNat:Int))<48:=by rw [B];omega
    clear B hA
    go_wp2_with fail
    go_ret
    exact ⟨by rw [HN.out];rfl,rfl⟩
   by_cases hB:57<s[k].toNat
   ·have HN:=Lib.hid (name_no3 hk1 hlt (.inr hB))
    have b1:(57:Int)<((((⟨s.toArray⟩:ByteArray)[k]'(lt_str hlt)).toNat:Int)):=by rw [B];omega
    have b2:¬ ((((⟨s.toArray⟩:ByteArray)[k]'(lt_str hlt)).toNat:Int))<48:=by omega
    clear B hA hB
    go_wp2_with fail
    go_ret
    exact ⟨by rw [HN.out];rfl,rfl⟩
   have b1:¬ (57:Int)<((((⟨s.toArray⟩:ByteArray)[k]'(lt_str hlt)).toNat:Int)):=by rw [B];omega
   have b2:¬ ((((⟨s.toArray⟩:ByteArray)[k]'(lt_str hlt)).toNat:Int))<48:=by rw [B];omega
   have HB:=Lib.hid (And.intro hA hB)
   clear B hA hB
   go_wp2_with fail
   go_round
   case rel=>exact ⟨k+1,by omega,by omega,by go_num,fun j h1 h2 hj=>by
    by_cases e:j=k
    ·subst e;have:=HB.out;omega
    ·exact HR.out j h1 (by omega) hj⟩
   case measure=>simp [intOf];omega
  ·go_wp2_with fail
   go_ret
   have HA':=HA.out
   exact ⟨by rw [name_yes hpos (by omega) (by omega) (fun j h1 hj=>HR.out j h1 (by omega) hj)];rfl,rfl⟩
def encTm:Tm→DV
 | .nm x=>.ptr 102 [.val (str []),.val (str x),.val (.pointer none),.sl 65 1 0 []]
 | .wd w=>.ptr 102 [.val (str w),.val (str []),.val (.pointer none),.sl 65 1 0 []]
 | .lam x k t=>.ptr 102 [.val (str lamW),.val (str x),encK k,.sl 65 1 1 [encTm t]]
 | .app m n=>.ptr 102 [.val (str appW),.val (str []),.val (.pointer none),.sl 65 1 2 [encTm m,encTm n]]
 | .ite l m n=>.ptr 102 [.val (str ifW),.val (str []),.val (.pointer none),.sl 65 1 3 [encTm l,encTm m,encTm n]]
theorem encTm_ptr {F:Nat→Prop} {w:World} {t:Tm} {v:Value} (h:Rep F w (encTm t) v):∃ a,v=.pointer (some ⟨a,0,none⟩):=by
 cases t <;> (rw [encTm,Rep_ptr] at h;obtain ⟨a,c,h,_⟩:=h;exact ⟨a,h⟩)
def TPost (sc:Nat) (c:List Value) (e:TypeId) (w:World) (o:Option (Tm×Bs)) (en:Ending) (w':World):Prop :=
 ∃ v r',en=.returned v∧But (· = sc) w w'∧Scan sc c e r' w'∧(o=none→v=.pointer none)∧(∀ t rest,o=some (t,rest)→r'=rest∧Rep (w.heap.size≤·) w' (encTm t) v)
theorem TPost.no {sc:Nat} {c:List Value} {e:TypeId} {w:World} {r:Bs} {w':World} {o:Option (Tm×Bs)} (ho:o=none) (hb:But (· = sc) w w') (hs:Scan sc c e r w'):TPost sc c e w o (.returned (.pointer none)) w' :=
 ⟨_,r,rfl,hb,hs,fun _=>rfl,fun _ _ h=>by rw [ho] at h;simp at h⟩
theorem TPost.yes {sc:Nat} {c:List Value} {e:TypeId} {w:World} {r:Bs} {w':World} {o:Option (Tm×Bs)} {t:Tm} {v:Value} (ho:o=some (t,r)) (hb:But (· = sc) w w') (hs:Scan sc c e r w')
 (hv:Rep (w.heap.size≤·) w' (encTm t) v):TPost sc c e w o (.returned v) w' :=
 ⟨_,r,rfl,hb,hs,fun h=>by rw [ho] at h;simp at h,fun _ _ h=>by rw [ho] at h;simp at h;obtain ⟨rfl,rfl⟩:=h;exact ⟨rfl,hv⟩⟩
def TermSaid (sc:Nat) (c:List Value) (e:TypeId) (d:Nat):Prop:=∀ (r:Bs) (w:World),Scan sc c e r w→Lim r.length →
    Calls Tryz.prog 47 #[.pointer (some ⟨sc,0,none⟩),.int .i64 d] w (TPost sc c e w (rdTm d r))
theorem wpList_insert_own {H:Type} {P:Program} (w:World) {ops:Array Oper} {rest:List Oper} {o:Oper} {a:Act} {Q:Exit→Act→World→Prop}
 (hg:o.guard=none) (m x v:Operand) (t:TypeId) (hop:o.op=Op.insert t m x v)
 (k e:TypeId) (K:Maps.Keyed P k) (ht:P.underlying t=some (.map k e)) (R:Value→Option (DataW H×List MemPlace)) (b n:Nat) (D:DataW H)
 (hm:a.eval m=.map (some b)) (hown:w.ownsMap P k R b n D) (hn:n<maxLen) (key val:Value) (kl:Lit) (hx:a.eval x=key) (hv:a.eval v=val) (hkey:keyOf P k key=some kl)
 (d:DataW H) (ps:List MemPlace) (hval:R val=some (d,ps))
 (hK:∀ w',w'.ownsMap P k R b (n+1) (D.put kl d)→w.grownBy w' (some b)→wpList P ops Q rest (a.put o.dst undef) w') :
 wpList P ops Q (o::rest) a w:=by
 refine wpList_plain hg fun K' hK'=>?_
 obtain ⟨w',hrun,r1,r2⟩:=hown.update K ht hn hkey hval
 unfold Oper.wp
 simp [execOp,hop,hm,hx,hv,hrun,Result.andThen]
 exact hK' _ _ (hK w' r1 r2)
theorem many_at (s:Bs) {H:Type}:((((DataW.map []:DataW H).put (.string lamW) (.lit (.int .i64 1))).put (.string appW) (.lit (.int .i64 2))).put (.string ifW) (.lit (.int .i64 3))).atKey (.string s) (.lit (.int .i64 0))=.lit (.int .i64 (manyW s:Nat)):=by
 have i0:Maps.IsMap (DataW.map []:DataW H):=Maps.isMap_empty
 unfold manyW
 by_cases h3:s=ifW
 ·subst h3
  rw [Maps.atKey_put_same ((i0.put _ _).put _ _) (by simp [WideAt.IsKeyLit]),if_neg (by decide),if_neg (by decide),if_pos rfl];rfl
 rw [Maps.atKey_put_other (by simpa using h3)]
 by_cases h2:s=appW
 ·subst h2
  rw [Maps.atKey_put_same (i0.put _ _) (by simp [WideAt.IsKeyLit]),if_neg (by decide),if_pos rfl];rfl
 rw [Maps.atKey_put_other (by simpa using h2)]
 by_cases h1:s=lamW
 ·subst h1
  rw [Maps.atKey_put_same i0 (by simp [WideAt.IsKeyLit]),if_pos rfl];rfl
 rw [Maps.atKey_put_other (by simpa using h1),if_neg h1,if_neg h2,if_neg h3]
 rfl
theorem Tryz.lawS:Maps.Keyed Tryz.prog 9:=Maps.string_keyed Tryz.underlying9
theorem Tryz.zeroI (w:World):(zeroValue 3).run Tryz.prog w=.ok (.int .i64 0) w:=by kernel_rfl
theorem keyS {s:Bs} (h:Lim s.length):keyOf Tryz.prog 9 (str s)=some (.string s):=by
 have:=WideMaps.keyOf_string_mk (P:=Tryz.prog) Tryz.underlying9 (s:=⟨s.toArray⟩) (by rw [size_str];have:=h.le;unfold maxLen;omega)
 simpa using this
def NewT (ob:Nat) (wd nm:Bs) (kv slv:Value) (w:World):Prop:=w.heap[ob]? = some (.cells #[str wd,str nm,kv,slv] 102 (0,0))
theorem NewT.cells {ob:Nat} {wd nm:Bs} {kv slv:Value} {w:World} (h:NewT ob wd nm kv slv w):w.cell? ⟨ob,0,none⟩=some (str wd)∧w.cell? ⟨ob,1,none⟩=some (str nm)∧w.cell? ⟨ob,2,none⟩=some kv∧w.cell? ⟨ob,3,none⟩=some slv∧ob<w.heap.size∧(∀ o,w.frozen? ⟨ob,o,none⟩=false):=by
 have hl:=lt_of_heap h
 unfold NewT at h
 exact ⟨by simp [World.cell?,h],by simp [World.cell?,h],by simp [World.cell?,h],by simp [World.cell?,h],hl,fun o=>by simp [World.frozen?,h]⟩
theorem NewT.put1 {ob:Nat} {wd nm u:Bs} {kv slv:Value} {w:World} (h:NewT ob wd nm kv slv w):NewT ob wd u kv slv (w.setCell ⟨ob,1,none⟩ (str u)):=by
 unfold NewT;rw [setCell_at h];rfl
theorem NewT.put2 {ob:Nat} {wd nm:Bs} {kv slv u:Value} {w:World} (h:NewT ob wd nm kv slv w):NewT ob wd nm u slv (w.setCell ⟨ob,2,none⟩ u):=by
 unfold NewT;rw [setCell_at h];rfl
theorem NewT.put3 {ob:Nat} {wd nm:Bs} {kv slv u:Value} {w:World} (h:NewT ob wd nm kv slv w):NewT ob wd nm kv u (w.setCell ⟨ob,3,none⟩ u):=by
 unfold NewT;rw [setCell_at h];rfl
set_option maxRecDepth 20000 in
set_option maxHeartbeats 2000000 in
theorem term_word (sc:Nat) (c:List Value) (e:TypeId) (d:Nat) (hd:d≤1000) (r:Bs) (w:World) (hs:Scan sc c e r w) (hr:Lim r.length) (h1:NoCut [40] r) :
 Calls Tryz.prog 47 #[.pointer (some ⟨sc,0,none⟩),.int .i64 d] w (TPost sc c e w (rdTm d r)):=by
 have hm:rdTm d r=if nameB (wordOf r) then some (.nm (wordOf r),wordRest r) else if leafW (wordOf r) then some (.wd (wordOf r),wordRest r) else none:=by rw [rdTm.eq_def];simp only [h1.out]
 have HM:=Lib.hid hm;clear hm
 have hwl:Lim (wordOf r).length:=hr.mono (by have:=word_le r;omega)
 go_enter Tryz.func47,Tryz.ntmps47
 go_wp2_with fail
 refine (take_no hs h1).mono ?_
 rintro en w1 ⟨rfl,hb1,hs1⟩
 go_wp2_with fail
 refine (word_any _ _ _ _ _ hs1 hr).mono ?_
 rintro en w2 ⟨rfl,hb2,hs2⟩
 have hb:=hb1.trans hb2
 clear hb1 hb2 hs1 hs h1
 obtain ⟨wd,hwd⟩:∃ x,x=wordOf r:=⟨_,rfl⟩
 rw [← hwd] at HM hwl ⊢
 clear hwd
 go_wp2_with fail
 (with_reducible refine (isName_any wd w2 hwl).mono ?_)
 rintro en w3 ⟨rfl,e3⟩
 subst w3
 cases hn:nameB wd with
 | true =>
   have HN:=Lib.hid hn;clear hn
   go_wp2_with fail
   go_ret
   refine TPost.yes (t:=.nm wd) (r:=wordRest r) (by rw [HM.out,if_pos HN.out]) (hb.alloc _) (hs2.alloc _) ?_
   rw [encTm,Rep_ptr]
   exact ⟨_,_,rfl,hb.size,heap_new _ _,Reps_cons.2 ⟨_,_,rfl,Rep_val.2 rfl,Reps_cons.2 ⟨_,_,rfl,Rep_val.2 rfl,Reps_cons.2 ⟨_,_,rfl,Rep_val.2 rfl,Reps_cons.2 ⟨_,_,rfl,Rep_sl.2 ⟨rfl,none,0,rfl,Nat.le_refl _,fun _=>rfl,.inl rfl⟩,Reps_nil.2 rfl⟩⟩⟩⟩⟩
 | false =>
   have HN:=Lib.hid hn;clear hn
   have leaf:∀ x:UInt8,wd=[x]→leafW [x]=true→∀ W,W=w2.alloc (.cells #[str [x],str [],.pointer none,.slice none 0 0] 102)→TPost sc c e w (rdTm d r) (.returned (.pointer (some ⟨w2.heap.size,0,none⟩))) W:=by
    intro x hx hlf W hW
    subst hW
    refine TPost.yes (t:=.wd wd) (r:=wordRest r) (by rw [HM.out,if_neg (by rw [HN.out];decide),if_pos (by rw [hx];exact hlf)]) (hb.alloc _) (hs2.alloc _) ?_
    rw [encTm,Rep_ptr,hx]
    exact ⟨_,_,rfl,hb.size,heap_new _ _,Reps_cons.2 ⟨_,_,rfl,Rep_val.2 rfl,Reps_cons.2 ⟨_,_,rfl,Rep_val.2 rfl,Reps_cons.2 ⟨_,_,rfl,Rep_val.2 rfl,Reps_cons.2 ⟨_,_,rfl,Rep_sl.2 ⟨rfl,none,0,rfl,Nat.le_refl _,fun _=>rfl,.inl rfl⟩,Reps_nil.2 rfl⟩⟩⟩⟩⟩
   have LEAF:=Lib.hid leaf;clear leaf
   by_cases c1:wd=[116]
   ·have HC:=Lib.hid c1
    rw [c1]
    clear c1 hwl
    go_wp2_with fail
    go_ret
    exact LEAF.out _ HC.out (by decide) _ rfl
   by_cases c2:wd=[102]
   ·have HC:=Lib.hid c2
    rw [c2]
    clear c1 c2 hwl
    go_wp2_with fail
    go_ret
    exact LEAF.out _ HC.out (by decide) _ rfl
   by_cases c3:wd=[117]
   ·have HC:=Lib.hid c3
    rw [c3]
    clear c1 c2 c3 hwl
    go_wp2_with fail
    go_ret
    exact LEAF.out _ HC.out (by decide) _ rfl
   have n1:(wd == [116])=false:=by rw [beq_eq_false_iff_ne];exact c1
   have n2:(wd == [102])=false:=by rw [beq_eq_false_iff_ne];exact c2
   have n3:(wd == [117])=false:=by rw [beq_eq_false_iff_ne];exact c3
   have HL:=Lib.hid (show leafW wd=false by simp [leafW,n1,n2,n3])
   clear c1 c2 c3 hwl LEAF
   go_wp2_with fail
   go_ret
   exact TPost.no (by rw [HM.out,if_neg (by rw [HN.out];decide),if_neg (by rw [HL.out];decide)]) hb hs2
def TermRel (sc:Nat) (c:List Value) (e:TypeId) (ob d m:Nat) (wd nm:Bs) (kv:Value) (r0:Bs) (wz:World) (k:Nat) (wr:World):Prop :=
 ∃ ts lk slv vs,ts.length=k∧(rdParTm d m r0=(rdParTm d (m-k) lk).map fun y=>(ts++y.1,y.2))∧lk.length≤r0.length∧But (fun i=>i=sc∨i=ob) wz wr∧Scan sc c e lk wr∧NewT ob wd nm kv slv wr ∧
   Own wr 65 1 slv k vs∧(∀ g,slv.ownBlock=some g→wz.heap.size≤g)∧Reps (fun b=>wz.heap.size≤b∧slv.ownBlock≠some b) wr (ts.map encTm) vs
theorem Tryz.infoTm:(Tryz.prog.info? 65).map (fun i=>(i.zero,i.size,i.bytes))=some (some (.pointer none),1,8):=by kernel_rfl
theorem TermRel.next {sc:Nat} {c:List Value} {e:TypeId} {ob d m:Nat} {wd nm:Bs} {kv:Value} {r0:Bs} {wz:World} {k:Nat} {wr w2 w3:World} {ts:List Tm} {lk:Bs} {slv:Value} {vs:List Value} {t:Tm} {l1 rest:Bs} {vt:Value} {o:Obj} {a':Option Addr} {c':Nat}
 (hlt:k<m) (hts:ts.length=k) (hp:rdParTm d m r0=(rdParTm d (m-k) lk).map fun y=>(ts++y.1,y.2)) (hle:lk.length≤r0.length) (hb:But (fun i=>i=sc∨i=ob) wz wr) (hnt:NewT ob wd nm kv slv wr)
 (hown:Own wr 65 1 slv k vs) (hZ:∀ g,slv.ownBlock=some g→wz.heap.size≤g) (hr:Reps (fun b=>wz.heap.size≤b∧slv.ownBlock≠some b) wr (ts.map encTm) vs)
 (hc:cut [32] lk=some l1) (ht:rdTm d l1=some (t,rest)) (hb2:But (· = sc) wr w2) (hs2:Scan sc c e rest w2) (hv:Rep (wr.heap.size≤·) w2 (encTm t) vt)
 (hown':Own w3 65 1 (.slice a' (k+1) c') (k+1) (vs++[vt])) (hb3:But (fun b=>slv.ownBlock=some b) (w2.alloc o) w3) (hg:∀ g,(Value.slice a' (k+1) c').ownBlock=some g→slv.ownBlock=some g∨g=(w2.alloc o).heap.size)
 (hsc:sc<ob) (hob:ob<wz.heap.size):TermRel sc c e ob d m wd nm kv r0 wz (k+1) (w3.setCell ⟨ob,3,none⟩ (.slice a' (k+1) c')):=by
 have z0:=hb.size;have z2:=hb2.size;have z3:=hb3.size
 rw [size_alloc] at hg z3
 have keep:∀ i x,w2.heap[i]? = some x→slv.ownBlock≠some i→i≠ob→(w3.setCell ⟨ob,3,none⟩ (.slice a' (k+1) c')).heap[i]? = some x:=by
  intro i x hi hne ho
  rw [Below.heap_setCell _ _ _ _ (by simpa using ho),hb3.block i (by rw [size_alloc];have:=lt_of_heap hi;omega) hne]
  exact heap_past hi
 have hlt':∀ g,slv.ownBlock=some g→g<wr.heap.size:=fun g h=>hown.lt h
 have hnt2:NewT ob wd nm kv slv w2:=(hb2.block ob (lt_of_heap hnt) (by omega)).trans hnt
 have hnt3:NewT ob wd nm kv slv w3:=by
  unfold NewT;rw [hb3.block ob (by rw [size_alloc];have:=lt_of_heap hnt2;omega) (fun e=>by have:=hZ ob e;omega)]
  exact heap_past hnt2
 refine ⟨ts++[t],rest,_,vs++[vt],by simp [hts],?_,?_,?_,?_,hnt3.put3,?_,?_,?_⟩
 ·rw [show m-k=(m-(k+1))+1 from by omega] at hp
  exact rdParTm_step hp hc ht
 ·have k1:=congrArg List.length (cut_eq hc)
  have k2:=rdTm_le ht
  simp only [List.length_append,List.length_cons,List.length_nil] at k1
  omega
 ·refine ((hb.trans (hb2.weak fun i _ e=>.inl e)).trans' ((But.refl (fun b=>slv.ownBlock=some b) w2).alloc o |>.trans hb3) fun i hi e=>?_).setCell (p:=⟨ob,3,none⟩) (.inl (.inr rfl)) _
  have:=hZ i e;omega
 ·exact keep sc _ hs2 (fun e=>by have:=hZ sc e;omega) (by omega)
 ·refine hown'.keep fun g x hg' hx'=>?_
  rw [Below.heap_setCell _ _ _ _ (by
   rcases hg g hg' with h | h
   ·have:=hZ g h;simp;omega
   ·simp;omega)]
  exact hx'
 ·intro g h
  rcases hg g h with h | h
  ·exact hZ g h
  ·omega
 ·rw [List.map_append]
  refine Reps.append ?_ (Reps.one ?_)
  ·refine (Rep.keep fun i x hi hx'=>⟨⟨hi.1,fun e=>?_⟩,?_⟩).2 _ _ hr
   ·have hi1:=hi.1
    exact keep i x (by rw [hb2.block i (lt_of_heap hx') (by omega)];exact hx') hi.2 (by omega)
   ·rcases hg i e with h | h
    ·exact hi.2 h
    ·have:=lt_of_heap hx';omega
  ·refine (Rep.keep fun i x hi hx'=>⟨⟨by have:=hi;omega,fun e=>?_⟩,?_⟩).1 _ _ hv
   ·exact keep i x hx' (fun e=>by have:=hlt' i e;have:=hi;omega) (by have:=hi;omega)
   ·rcases hg i e with h | h
    ·have:=hlt' i h;have:=hi;omega
    ·have:=lt_of_heap hx';omega
theorem enc_mk {F:Nat→Prop} {w:World} {ob n:Nat} {wd nm:Bs} {kv slv:Value} {kd:DV} {ds:List DV} (hF:F ob) (h:NewT ob wd nm kv slv w) (hk:Rep F w kd kv) (hs:Rep F w (.sl 65 1 n ds) slv) :
 Rep F w (.ptr 102 [.val (str wd),.val (str nm),kd,.sl 65 1 n ds]) (.pointer (some ⟨ob,0,none⟩)):=by
 rw [Rep_ptr]
 exact ⟨_,_,rfl,hF,h,Reps_cons.2 ⟨_,_,rfl,Rep_val.2 rfl,Reps_cons.2 ⟨_,_,rfl,Rep_val.2 rfl,Reps_cons.2 ⟨_,_,rfl,hk,Reps_cons.2 ⟨_,_,rfl,hs,Reps_nil.2 rfl⟩⟩⟩⟩⟩
theorem enc_lam (x:Bs) (k:Ty) (ts:List Tm) (h:ts.length=1):encTm (mkTm lamW x k ts)=.ptr 102 [.val (str lamW),.val (str x),encK k,.sl 65 1 ts.length (ts.map encTm)]:=by
 match ts,h with
 | [t],_=>rw [mkTm,encTm];rfl
theorem enc_app (k:Ty) (ts:List Tm) (h:ts.length=2):encTm (mkTm appW [] k ts)=.ptr 102 [.val (str appW),.val (str []),.val (.pointer none),.sl 65 1 ts.length (ts.map encTm)]:=by
 match ts,h with
 | [t,u],_=>rw [mkTm,encTm];rfl
theorem enc_ite (k:Ty) (ts:List Tm) (h:ts.length=3):encTm (mkTm ifW [] k ts)=.ptr 102 [.val (str ifW),.val (str []),.val (.pointer none),.sl 65 1 ts.length (ts.map encTm)]:=by
 match ts,h with
 | [t,u,v],_=>rw [mkTm,encTm];rfl
set_option maxRecDepth 20000 in
set_option maxHeartbeats 8000000 in
theorem term_open (sc:Nat) (c:List Value) (e:TypeId) (d0:Nat) (hd:d0≤1000) (ih:∀ d',d0=d'+1→TermSaid sc c e d') (r r1:Bs) (w:World) (hs:Scan sc c e r w) (hr:Lim r.length) (h1:Cut [40] r r1) :
 Calls Tryz.prog 47 #[.pointer (some ⟨sc,0,none⟩),.int .i64 d0] w (TPost sc c e w (rdTm d0 r)):=by
 have er:r=40::r1:=by have:=cut_eq h1.out;simpa using this
 have HR:=Lib.hid er;clear er
 have IH:=Lib.hid ih;clear ih
 have hr1:=hr.mono h1.le
 have hwl:Lim (wordOf r1).length:=hr1.mono (by have:=word_le r1;omega)
 have hwr:Lim (wordRest r1).length:=hr1.mono (by have:=word_le r1;omega)
 have hmm:=@run_makeMap Tryz.prog
 go_enter Tryz.func47,Tryz.ntmps47
 go_wp2_with fail
 refine (take_yes hs h1).mono ?_
 rintro en w1 ⟨rfl,hb1,hs1⟩
 go_wp2_with fail
 refine (word_any _ _ _ _ _ hs1 hr1).mono ?_
 rintro en w2 ⟨rfl,hb2,hs2⟩
 have hb:=hb1.trans hb2
 clear hb1 hb2 hs1 h1
 obtain ⟨wd,hwd⟩:∃ x,x=wordOf r1:=⟨_,rfl⟩
 rw [← hwd] at hwl ⊢
 have HW:=Lib.hid hwd.symm;clear hwd
 have kS:=Lib.hid (keyS hwl)
 have k1:keyOf Tryz.prog 9 (str lamW)=some (.string lamW):=keyS (s:=lamW) (by unfold Lim;decide)
 have k2:keyOf Tryz.prog 9 (str appW)=some (.string appW):=keyS (s:=appW) (by unfold Lim;decide)
 have k3:keyOf Tryz.prog 9 (str ifW)=some (.string ifW):=keyS (s:=ifW) (by unfold Lim;decide)
 have K1:=Lib.hid (And.intro k1 (And.intro k2 k3));clear k1 k2 k3 hwl
 have hsz:=hb.size
 have made:((w2.alloc (.cells #[str wd,str [],.pointer none,.slice none 0 0] 102)).alloc (.map #[] 0)).ownsMap Tryz.prog 9 (plainElem (H:=Unit) Tryz.prog 3) (w2.heap.size+1) 0 (.map []):=by
  have:=World.ownsMap_made (H:=Unit) (w2.alloc (.cells #[str wd,str [],.pointer none,.slice none 0 0] 102)) Tryz.prog 9 (plainElem (H:=Unit) Tryz.prog 3)
  rwa [size_alloc] at this
 have MADE:=Lib.hid made;clear made
 go_wp2_with (refine wpList_insert_own (H:=Unit) _ rfl _ _ _ 129 rfl 9 3 Tryz.lawS Tryz.underlying129 (plainElem Tryz.prog 3) (w2.heap.size+1) 0 _ rfl MADE.out (by unfold maxLen;omega) _ _ _ rfl rfl K1.out.1 _ [] (plainElem_int Tryz.underlying3 (by decide)) ?_)
 intro wa hA gA
 go_wp2_with (refine wpList_insert_own (H:=Unit) _ rfl _ _ _ 129 rfl 9 3 Tryz.lawS Tryz.underlying129 (plainElem Tryz.prog 3) (w2.heap.size+1) 1 _ rfl hA (by unfold maxLen;omega) _ _ _ rfl rfl K1.out.2.1 _ [] (plainElem_int Tryz.underlying3 (by decide)) ?_)
 intro wb hB gB
 go_wp2_with (refine wpList_insert_own (H:=Unit) _ rfl _ _ _ 129 rfl 9 3 Tryz.lawS Tryz.underlying129 (plainElem Tryz.prog 3) (w2.heap.size+1) 2 _ rfl hB (by unfold maxLen;omega) _ _ _ rfl rfl K1.out.2.2 _ [] (plainElem_int Tryz.underlying3 (by decide)) ?_)
 intro w3 hC gC
 have hb3:But (fun i=>i=w2.heap.size+1) ((w2.alloc (.cells #[str wd,str [],.pointer none,.slice none 0 0] 102)).alloc (.map #[] 0)) w3 :=
  ((But.ofGrown gA).weak (m':=fun i=>i=w2.heap.size+1) (fun i _ h=>by simpa using h)).trans (((But.ofGrown gB).weak (m':=fun i=>i=w2.heap.size+1) (fun i _ h=>by simpa using h)).trans ((But.ofGrown gC).weak (m':=fun i=>i=w2.heap.size+1) (fun i _ h=>by simpa using h)))
 obtain ⟨M,hrun,hat,_⟩:=hC.lookup_int Tryz.lawS Tryz.underlying129 Tryz.underlying3 (Tryz.zeroI _) kS.out
 rw [many_at] at hat
 obtain rfl:(manyW wd:Int)=M:=by simpa using hat
 have z3:=hb3.size
 simp only [size_alloc] at z3
 have hb3':But (· = sc) w w3:=hb.trans' (m':=fun i=>i=w2.heap.size+1) (((But.refl (fun i=>i=w2.heap.size+1) w2).alloc _ |>.alloc _).trans hb3) (fun i hi e=>by omega)
 have hk3:∀ i x,w2.heap[i]? = some x→w3.heap[i]? = some x:=fun i x h=>by
  have hl:=lt_of_heap h
  rw [hb3.block i (by simp;omega) (by omega)];exact heap_past (heap_past h)
 have hs3:Scan sc c e (wordRest r1) w3:=hk3 _ _ hs2
 have hnt3:NewT w2.heap.size wd [] (.pointer none) (.slice none 0 0) w3:=by
  unfold NewT
  rw [hb3.block w2.heap.size (by simp;omega) (by omega)]
  exact heap_past (heap_new _ _)
 have hwob:w.heap.size≤w2.heap.size:=hsz
 have hscw:=scan_lt hs
 clear hA hB hC gA gB gC hb3 hat MADE K1 kS hs2 hk3
 obtain ⟨q0,_,_,_,q4,_⟩:=hnt3.cells
 obtain ⟨M,hM⟩:∃ x,x=manyW wd:=⟨_,rfl⟩
 rw [← hM] at hrun
 have HMW:=Lib.hid hM;clear hM
 generalize hO:w2.heap.size=ob at *
 clear hO z3
 have HN3:=Lib.hid (And.intro hs3 (And.intro hnt3 hb3'))
 clear hs3 hnt3 hb3' hb
 by_cases hm0:M=0
 ·have HX:=Lib.hid (show rdTm d0 r=none by rw [HR.out];exact rdTm_none (by rw [HW.out,← HMW.out,hm0]))
  subst hm0
  go_wp2_with fail
  go_ret
  exact TPost.no HX.out HN3.out.2.2 HN3.out.1
 have m0:((M:Int) == 0)=false:=by rw [beq_eq_false_iff_ne];omega
 by_cases hd0:d0=0
 ·have HX:=Lib.hid (show rdTm d0 r=none by rw [HR.out,hd0];exact rdTm_zero)
  subst hd0
  go_wp2_with fail
  go_ret
  exact TPost.no HX.out HN3.out.2.2 HN3.out.1
 obtain ⟨d,rfl⟩:∃ d',d0=d'+1:=⟨d0-1,by omega⟩
 have ecast:((d+1:Nat):Int)=(d:Int)+1:=by omega
 rw [ecast]
 clear ecast
 have d00:((d:Int)+1 == 0)=false:=by rw [beq_eq_false_iff_ne];omega
 have IH':=Lib.hid (IH.out d rfl)
 clear IH hd0
 by_cases hlam:wd=lamW
 ·have hq:(wd == [108,97,109])=true:=by rw [beq_iff_eq];exact hlam
  have HL:=Lib.hid hlam;clear hlam
  go_wp2_with fail
  rcases cut_cases [32] (wordRest r1) with h4 | ⟨l3,h4⟩
  ·refine (take_no HN3.out.1 h4).mono ?_
   rintro en w4 ⟨rfl,hb4,hs4⟩
   go_wp2_with fail
   go_ret
   exact TPost.no (by rw [HR.out];exact rdTm_lamNo1 (by rw [HW.out,HL.out]) h4.out) (HN3.out.2.2.trans hb4) hs4
  refine (take_yes HN3.out.1 h4).mono ?_
  rintro en w4 ⟨rfl,hb4,hs4⟩
  have hl3:=hwr.mono h4.le
  clear q0 q4 hrun
  go_wp2_with fail
  refine (word_any _ _ _ _ _ hs4 hl3).mono ?_
  rintro en w5 ⟨rfl,hb5,hs5⟩
  have hbb:=hb4.trans hb5
  have hnt5:NewT ob wd [] (.pointer none) (.slice none 0 0) w5:=(hbb.block ob (lt_of_heap HN3.out.2.1) (by omega)).trans HN3.out.2.1
  have hb05:=HN3.out.2.2.trans hbb
  obtain ⟨nm,hnm⟩:∃ x,x=wordOf l3:=⟨_,rfl⟩
  have hlnm:Lim (wordOf l3).length:=hl3.mono (by have:=word_le l3;omega)
  have hl3r:Lim (wordRest l3).length:=hl3.mono (by have:=word_le l3;omega)
  rw [← hnm] at hlnm ⊢
  have HNM:=Lib.hid hnm.symm;clear hnm
  obtain ⟨_,q1,_,_,q4,q5⟩:=hnt5.cells
  have q6:=q5 1
  have hnt6:=hnt5.put1 (u:=nm)
  have hb06:=hb05.setCell (p:=⟨ob,1,none⟩) (.inr (by simpa using hwob)) (str nm)
  have hs6:Scan sc c e (wordRest l3) (w5.setCell ⟨ob,1,none⟩ (str nm)):=by unfold Scan;rw [Below.heap_setCell _ _ _ _ (by simp;omega)];exact hs5
  have HN6:=Lib.hid (And.intro hs6 (And.intro hnt6 hb06))
  clear q5 hs4 hs5 hb4 hb5 hbb hb05 hnt5 hs6 hnt6 hb06
  go_wp2_with fail
  obtain ⟨w6,hw6⟩:∃ x,x=w5.setCell ⟨ob,1,none⟩ (str nm):=⟨_,rfl⟩
  rw [← hw6] at HN6 ⊢
  clear hw6 q1 q4 q6
  (with_reducible refine (isName_any nm w6 hlnm).mono ?_)
  rintro en w7 ⟨rfl,e7⟩
  subst w7
  cases hn:nameB nm with
  | false =>
    have HN:=Lib.hid hn;clear hn
    go_wp2_with fail
    go_ret
    exact TPost.no (by rw [HR.out];exact rdTm_lamNo2 (by rw [HW.out,HL.out]) h4.out (by rw [HNM.out,HN.out])) HN6.out.2.2 HN6.out.1
  | true =>
    have HN:=Lib.hid hn;clear hn
    go_wp2_with fail
    rcases cut_cases [32] (wordRest l3) with h5 | ⟨l4,h5⟩
    ·refine (take_no HN6.out.1 h5).mono ?_
     rintro en w7 ⟨rfl,hb7,hs7⟩
     go_wp2_with fail
     go_ret
     exact TPost.no (by rw [HR.out];exact rdTm_lamNo3 (by rw [HW.out,HL.out]) h4.out h5.out) (HN6.out.2.2.trans hb7) hs7
    refine (take_yes HN6.out.1 h5).mono ?_
    rintro en w7 ⟨rfl,hb7,hs7⟩
    have hl4:=hl3r.mono h5.le
    go_wp2_with fail
    refine (kind_any _ _ _ 60 (by omega) l4 w7 hs7 hl4).mono ?_
    rintro en w8 ⟨kv,r8,rfl,hb8,hs8,hn8,hy8⟩
    have hb78:=hb7.trans hb8
    have hnt8:NewT ob wd nm (.pointer none) (.slice none 0 0) w8:=(hb78.block ob (lt_of_heap HN6.out.2.1) (by omega)).trans HN6.out.2.1
    have hb08:=HN6.out.2.2.trans hb78
    have z7:=HN6.out.2.2.size
    have z78:=hb7.size
    have hl7:ob<w7.heap.size:=by have:=lt_of_heap HN6.out.2.1;omega
    obtain ⟨_,_,q2,_,q4,q5⟩:=hnt8.cells
    have q6:=q5 2
    have hnt9:=hnt8.put2 (u:=kv)
    have hb09:=hb08.setCell (p:=⟨ob,2,none⟩) (.inr (by simpa using hwob)) kv
    have hs9:Scan sc c e r8 (w8.setCell ⟨ob,2,none⟩ kv):=by unfold Scan;rw [Below.heap_setCell _ _ _ _ (by simp;omega)];exact hs8
    rcases hk:rdK 60 l4 with _ | ⟨kk,l6⟩
    ·obtain rfl:=hn8 hk
     have HK:=Lib.hid hk;clear hk hn8 hy8
     have HN9:=Lib.hid (And.intro hs9 (And.intro hnt9 hb09))
     clear hs9 hnt9 hb09 hb08 hnt8 hb78 hb8 hs8 hb7 hs7 q5
     go_wp2_with fail
     go_ret
     exact TPost.no (by rw [HR.out];exact rdTm_lamNo4 (by rw [HW.out,HL.out]) h4.out (by exact h5.out) HK.out) HN9.out.2.2 HN9.out.1
    obtain ⟨rfl,hkr⟩:=hy8 _ _ hk
    have HKV:Rep (fun b=>w.heap.size≤b∧b≠ob∧b≠sc) (w8.setCell ⟨ob,2,none⟩ kv) (encK kk) kv:=(Rep.keep fun b o h ho=>⟨by have:=h;omega,by rw [Below.heap_setCell _ _ _ _ (by have:=h;simp;omega)];exact ho⟩).1 _ _ hkr
    obtain ⟨kb,rfl⟩:∃ ba,kv=.pointer (some ⟨ba,0,none⟩):=by obtain ⟨ba,_,h,_⟩:=encK_open hkr;exact ⟨ba,h⟩
    have hM1:M=1:=by rw [HMW.out,HL.out];decide
    have hr0:=hl4.mono (rdK_le _ hk).1
    have HM:rdTm (d+1) r=(rdParTm d M r8).bind fun y=>(cut [41] y.2).map fun r'=>(mkTm wd nm kk y.1,r'):=by rw [HR.out,rdTm_lam (by rw [HW.out,HL.out]) h4.out (by rw [HNM.out];exact HN.out) h5.out hk,hM1,HL.out,HNM.out]
    have HE:∀ ts:List Tm,ts.length=M→encTm (mkTm wd nm kk ts)=.ptr 102 [.val (str wd),.val (str nm),encK kk,.sl 65 1 ts.length (ts.map encTm)]:=fun ts h=>by rw [HL.out];exact enc_lam nm kk ts (by rw [h,hM1])
    have HN9:=Lib.hid (And.intro hs9 (And.intro hnt9 (And.intro hb09 (And.intro HKV (And.intro HE HM)))))
    clear hs9 hnt9 hb09 hb08 hnt8 hb78 hb8 hs8 hb7 hs7 q5 hkr hk hn8 hy8 HE HM HKV
    have HM1:=Lib.hid hM1;clear hM1
    have M20:M≤3:=by have:=HM1.out;omega
    go_wp2_with fail
    obtain ⟨wz,hwz⟩:∃ x,x=w8.setCell ⟨ob,2,none⟩ (.pointer (some ⟨kb,0,none⟩)):=⟨_,rfl⟩
    rw [← hwz] at HN9 ⊢
    clear hwz q2 q4 q6
    obtain ⟨hsz,hntz,hbz,HKV,HE,HM⟩:=HN9.out
    obtain ⟨r0,hr0e⟩:∃ x,x=r8:=⟨_,rfl⟩
    rw [← hr0e] at hr0 hsz HM
    clear hr0e HN9 HN6 HN3
    obtain ⟨kv,hkv⟩:∃ x,x=Value.pointer (some ⟨kb,0,none⟩):=⟨_,rfl⟩
    rw [← hkv] at hntz HKV
    clear hkv
    clear hmm
    have hscob:sc<ob:=by omega
    have hobz:ob<wz.heap.size:=lt_of_heap hntz
    have hrel0:TermRel sc c e ob d M wd nm kv r0 wz 0 wz:=⟨[],r0,.slice none 0 0,[],rfl,by simp,Nat.le_refl _,But.refl _ _,hsz,hntz,World.ownsRow_nil _ _ _ _,fun g h=>by simp [Value.ownBlock] at h,Reps_nil.2 rfl⟩
    have HZ:=Lib.hid (And.intro hbz (And.intro HKV (And.intro HE HM)))
    clear hbz hsz hntz HKV HE HM
    go_loopw [84] (fun i wr=>∃ k:Nat,k≤M∧i=.int .i64 k∧TermRel sc c e ob d M wd nm kv r0 wz k wr) (fun i _=>M-(intOf i).toNat)
    case atStart=>exact ⟨0,Nat.zero_le _,rfl,hrel0⟩
    case round =>
     clear hrel0
     rename_i wr
     obtain ⟨k,hk,rfl,ts,lk,slv,vs,hts,hp,hle,hb,hsk,hnt,hown,hZ,hrs⟩:=hrel
     have hlk:=hr0.mono hle
     have hbw:But (· = sc) w wr:=HZ.out.1.trans' hb (fun i hi e=>by rcases e with e | e;exact e;omega)
     have HP:=Lib.hid (And.intro hp (And.intro hb (And.intro hown (And.intro hZ (And.intro hrs (And.intro hts hle))))))
     clear hp hb hown hZ hrs hts hle
     have HBW:=Lib.hid hbw;clear hbw
     by_cases hlt:k<M
     ·have hltI:(k:Int)<(M:Int):=by omega
      have hkm:M-k=(M-k-1)+1:=by omega
      have HKM:=Lib.hid hkm;clear hkm
      go_wp2_with fail
      rcases cut_cases [32] lk with h4 | ⟨l4,h4⟩
      ·refine (take_no hsk h4).mono ?_
       rintro en w4 ⟨rfl,hb4,hs4⟩
       go_wp2_with fail
       go_ret
       refine TPost.no ?_ (HBW.out.trans hb4) hs4
       have hp:=HP.out.1
       rw [HKM.out] at hp
       rw [HZ.out.2.2.2,rdParTm_no1 hp h4.out];rfl
      refine (take_yes hsk h4).mono ?_
      rintro en w4 ⟨rfl,hb4,hs4⟩
      have h4l:=h4.le
      go_wp2_with fail
      refine (IH'.out l4 w4 hs4 (hlk.mono h4l)).mono ?_
      rintro en w5 ⟨vt,r5,rfl,hb5,hs5,hn5,hy5⟩
      have hb45:=hb4.trans hb5
      have z4:=hb4.size
      rcases ht:rdTm d l4 with _ | ⟨t,r5'⟩
      ·obtain rfl:=hn5 ht
       have HT:=Lib.hid ht;clear ht hn5 hy5
       go_wp2_with fail
       go_ret
       refine TPost.no ?_ (HBW.out.trans hb45) hs5
       have hp:=HP.out.1
       rw [HKM.out] at hp
       rw [HZ.out.2.2.2,rdParTm_no2 hp h4.out HT.out];rfl
      obtain ⟨rfl,hv5⟩:=hy5 _ _ ht
      have HT:=Lib.hid ht;clear ht hn5 hy5
      obtain ⟨at5,rfl⟩:=encTm_ptr hv5
      have hnt5:NewT ob wd nm kv slv w5:=(hb45.block ob (lt_of_heap hnt) (by omega)).trans hnt
      obtain ⟨_,_,_,q3,q4,q5⟩:=hnt5.cells
      have q6:=q5 3
      have hown5:Own w5 65 1 slv k vs:=HP.out.2.2.1.keep fun g o hg' ho=>by rw [hb45.block g (lt_of_heap ho) (by have:=HP.out.2.2.2.1 g hg';omega)];exact ho
      have HV5:=Lib.hid (And.intro hown5 (And.intro hv5 (And.intro hb45 hs5)))
      clear q5 hown5 hv5 hb45 hb4 hb5 hs4 hs5 hsk
      go_wp2_with (at_builtin;refine wpList_append_gen rfl _ _ 100 rfl 65 (.pointer none) 1 8 Tryz.underlying100 Tryz.infoTm rfl (by decide) slv k vs rfl ?c1 _ 1 [.pointer (some ⟨at5,0,none⟩)] rfl ?c2 ?c3 ?c4 ?_)
      case c1=>exact HV5.out.1.keep fun g o hg' ho=>heap_past ho
      case c2=>exact SrcSl.lit rfl
      case c3=>unfold maxLen;omega
      case c4=>omega
      intro a' c' w6 hown' hb6 hg'
      have hnt6:NewT ob wd nm kv slv w6:=by
       unfold NewT;rw [hb6.block ob (by simp;omega) (fun e=>by have:=HP.out.2.2.2.1 ob e;omega)]
       exact heap_past hnt5
      have hnext:=TermRel.next hlt HP.out.2.2.2.2.2.1 HP.out.1 HP.out.2.2.2.2.2.2 HP.out.2.1 hnt HP.out.2.2.1 HP.out.2.2.2.1 HP.out.2.2.2.2.1 h4.out HT.out HV5.out.2.2.1 HV5.out.2.2.2 ((Rep.keep fun b o h ho=>⟨by have:=h;omega,ho⟩).1 _ _ HV5.out.2.1) hown' hb6 (fun g h=>(hg' g h).imp_right fun e=>e.trans (by simp)) hscob hobz
      obtain ⟨_,_,_,p3,p4,p5⟩:=hnt6.cells
      have p6:=p5 3
      clear hg' p5 hb6 hown' hnt5 hnt6 hnt q3 q4 q6
      go_wp2_with fail
      go_roundw
      case rel=>exact ⟨k+1,by omega,by go_num,hnext⟩
      case measure=>simp [intOf];omega
     ·obtain rfl:k=M:=by omega
      go_wp2_with fail
      rcases cut_cases [41] lk with h4 | ⟨l4,h4⟩
      ·refine (take_no hsk h4).mono ?_
       rintro en w4 ⟨rfl,hb4,hs4⟩
       go_wp2_with fail
       go_ret
       refine TPost.no ?_ (HBW.out.trans hb4) hs4
       have hp:=HP.out.1
       rw [Nat.sub_self,rdParTm_zero] at hp
       rw [HZ.out.2.2.2,hp]
       simp [h4.out]
      refine (take_yes hsk h4).mono ?_
      rintro en w4 ⟨rfl,hb4,hs4⟩
      go_wp2_with fail
      go_ret
      have hp:=HP.out.1
      rw [Nat.sub_self,rdParTm_zero] at hp
      have hbz4:But (fun i=>i=sc∨i=ob) wz w4:=HP.out.2.1.trans (hb4.weak fun i _ e=>.inl e)
      have hz0:=HZ.out.1.size
      have hsw:=scan_lt hs
      refine TPost.yes (t:=mkTm wd nm kk ts) (r:=l4) ?_ (HBW.out.trans hb4) hs4 ?_
      ·rw [HZ.out.2.2.2,hp]
       simp [h4.out]
      ·rw [HZ.out.2.2.1 ts HP.out.2.2.2.2.2.1]
       have hnt4:NewT ob wd nm kv slv w4:=(hb4.block ob (lt_of_heap hnt) (by omega)).trans hnt
       refine enc_mk hwob hnt4 (Rep.but hbz4 (fun b hb=>⟨by rintro (e | e) <;> omega,hb.1⟩) HZ.out.2.1) ?_
       rw [HP.out.2.2.2.2.2.1]
       have hz:=HP.out.2.2.2.1
       refine (HP.out.2.2.1.keep (w':=w4) fun g o hg' ho=>?_).rep (fun g hg=>?_) ?_
       ·rw [hb4.block g (lt_of_heap ho) (by have:=hz g hg';omega)];exact ho
       ·have:=hz g hg;show w.heap.size≤g;omega
       ·exact Reps.but hb4 (fun b hb=>⟨by have:=hb.1;omega,by have:=hb.1;show w.heap.size≤b;omega⟩) HP.out.2.2.2.2.1
 ·have hq:(wd == [108,97,109])=false:=by rw [beq_eq_false_iff_ne];exact hlam
  have hbz:=HN3.out.2.2;have hsz:=HN3.out.1;have hntz:=HN3.out.2.1
  obtain ⟨nm,hnm⟩:∃ x:Bs,x=[]:=⟨_,rfl⟩
  rw [← hnm] at hntz
  have hHM:∀ kk:Ty,(M=2∨M=3)∧(rdTm (d+1) r=(rdParTm d M (wordRest r1)).bind fun y=>(cut [41] y.2).map fun r'=>(mkTm wd nm kk y.1,r')) ∧
   (∀ ts:List Tm,ts.length=M→encTm (mkTm wd nm kk ts)=.ptr 102 [.val (str wd),.val (str nm),.val (.pointer none),.sl 65 1 ts.length (ts.map encTm)]):=by
   intro kk
   have hM:=HMW.out
   unfold manyW at hM
   rw [if_neg hlam] at hM
   by_cases h2:wd=appW
   ·rw [if_pos h2] at hM
    refine ⟨.inl hM,?_,fun ts h=>?_⟩
    ·rw [HR.out,rdTm_app nm kk (by rw [HW.out,h2]),hM,h2]
    ·rw [h2,hnm];exact enc_app kk ts (by rw [h,hM])
   rw [if_neg h2] at hM
   by_cases h3:wd=ifW
   ·rw [if_pos h3] at hM
    refine ⟨.inr hM,?_,fun ts h=>?_⟩
    ·rw [HR.out,rdTm_ite nm kk (by rw [HW.out,h3]),hM,h3]
    ·rw [h3,hnm];exact enc_ite kk ts (by rw [h,hM])
   rw [if_neg h3] at hM
   exact absurd hM hm0
  obtain ⟨kk,hkk⟩:∃ k:Ty,k=.mk []:=⟨_,rfl⟩
  obtain ⟨hM23,HM,HE⟩:=hHM kk
  have HN9:=Lib.hid (And.intro hsz (And.intro hntz (And.intro hbz (And.intro HE HM))))
  have M20:M≤3:=by omega
  clear hHM hsz hntz hbz HE HM hM23 hkk hlam hnm
  go_wp2_with fail
  clear hrun q0 q4
  obtain ⟨hsz,hntz,hbz,HE,HM⟩:=HN9.out
  obtain ⟨wz,hwz⟩:∃ x,x=w3:=⟨_,rfl⟩
  rw [← hwz] at hsz hntz hbz ⊢
  clear hwz HN9 HN3
  obtain ⟨r0,hr0e⟩:∃ x,x=wordRest r1:=⟨_,rfl⟩
  rw [← hr0e] at hwr hsz HM
  have hr0:=hwr
  clear hr0e hwr
  obtain ⟨kv,hkv⟩:∃ x,x=Value.pointer none:=⟨_,rfl⟩
  have HKV:Rep (fun b=>w.heap.size≤b∧b≠ob∧b≠sc) wz (.val (.pointer none)) kv:=Rep_val.2 hkv
  rw [← hkv] at hntz
  clear hkv
  clear hmm
  have hscob:sc<ob:=by omega
  have hobz:ob<wz.heap.size:=lt_of_heap hntz
  have hrel0:TermRel sc c e ob d M wd nm kv r0 wz 0 wz:=⟨[],r0,.slice none 0 0,[],rfl,by simp,Nat.le_refl _,But.refl _ _,hsz,hntz,World.ownsRow_nil _ _ _ _,fun g h=>by simp [Value.ownBlock] at h,Reps_nil.2 rfl⟩
  have HZ:=Lib.hid (And.intro hbz (And.intro HKV (And.intro HE HM)))
  clear hbz hsz hntz HKV HE HM
  go_loopw [84] (fun i wr=>∃ k:Nat,k≤M∧i=.int .i64 k∧TermRel sc c e ob d M wd nm kv r0 wz k wr) (fun i _=>M-(intOf i).toNat)
  case atStart=>exact ⟨0,Nat.zero_le _,rfl,hrel0⟩
  case round =>
   clear hrel0
   rename_i wr
   obtain ⟨k,hk,rfl,ts,lk,slv,vs,hts,hp,hle,hb,hsk,hnt,hown,hZ,hrs⟩:=hrel
   have hlk:=hr0.mono hle
   have hbw:But (· = sc) w wr:=HZ.out.1.trans' hb (fun i hi e=>by rcases e with e | e;exact e;omega)
   have HP:=Lib.hid (And.intro hp (And.intro hb (And.intro hown (And.intro hZ (And.intro hrs (And.intro hts hle))))))
   clear hp hb hown hZ hrs hts hle
   have HBW:=Lib.hid hbw;clear hbw
   by_cases hlt:k<M
   ·have hltI:(k:Int)<(M:Int):=by omega
    have hkm:M-k=(M-k-1)+1:=by omega
    have HKM:=Lib.hid hkm;clear hkm
    go_wp2_with fail
    rcases cut_cases [32] lk with h4 | ⟨l4,h4⟩
    ·refine (take_no hsk h4).mono ?_
     rintro en w4 ⟨rfl,hb4,hs4⟩
     go_wp2_with fail
     go_ret
     refine TPost.no ?_ (HBW.out.trans hb4) hs4
     have hp:=HP.out.1
     rw [HKM.out] at hp
     rw [HZ.out.2.2.2,rdParTm_no1 hp h4.out];rfl
    refine (take_yes hsk h4).mono ?_
    rintro en w4 ⟨rfl,hb4,hs4⟩
    have h4l:=h4.le
    go_wp2_with fail
    refine (IH'.out l4 w4 hs4 (hlk.mono h4l)).mono ?_
    rintro en w5 ⟨vt,r5,rfl,hb5,hs5,hn5,hy5⟩
    have hb45:=hb4.trans hb5
    have z4:=hb4.size
    rcases ht:rdTm d l4 with _ | ⟨t,r5'⟩
    ·obtain rfl:=hn5 ht
     have HT:=Lib.hid ht;clear ht hn5 hy5
     go_wp2_with fail
     go_ret
     refine TPost.no ?_ (HBW.out.trans hb45) hs5
     have hp:=HP.out.1
     rw [HKM.out] at hp
     rw [HZ.out.2.2.2,rdParTm_no2 hp h4.out HT.out];rfl
    obtain ⟨rfl,hv5⟩:=hy5 _ _ ht
    have HT:=Lib.hid ht;clear ht hn5 hy5
    obtain ⟨at5,rfl⟩:=encTm_ptr hv5
    have hnt5:NewT ob wd nm kv slv w5:=(hb45.block ob (lt_of_heap hnt) (by omega)).trans hnt
    obtain ⟨_,_,_,q3,q4,q5⟩:=hnt5.cells
    have q6:=q5 3
    have hown5:Own w5 65 1 slv k vs:=HP.out.2.2.1.keep fun g o hg' ho=>by rw [hb45.block g (lt_of_heap ho) (by have:=HP.out.2.2.2.1 g hg';omega)];exact ho
    have HV5:=Lib.hid (And.intro hown5 (And.intro hv5 (And.intro hb45 hs5)))
    clear q5 hown5 hv5 hb45 hb4 hb5 hs4 hs5 hsk
    go_wp2_with (at_builtin;refine wpList_append_gen rfl _ _ 100 rfl 65 (.pointer none) 1 8 Tryz.underlying100 Tryz.infoTm rfl (by decide) slv k vs rfl ?c1 _ 1 [.pointer (some ⟨at5,0,none⟩)] rfl ?c2 ?c3 ?c4 ?_)
    case c1=>exact HV5.out.1.keep fun g o hg' ho=>heap_past ho
    case c2=>exact SrcSl.lit rfl
    case c3=>unfold maxLen;omega
    case c4=>omega
    intro a' c' w6 hown' hb6 hg'
    have hnt6:NewT ob wd nm kv slv w6:=by
     unfold NewT;rw [hb6.block ob (by simp;omega) (fun e=>by have:=HP.out.2.2.2.1 ob e;omega)]
     exact heap_past hnt5
    have hnext:=TermRel.next hlt HP.out.2.2.2.2.2.1 HP.out.1 HP.out.2.2.2.2.2.2 HP.out.2.1 hnt HP.out.2.2.1 HP.out.2.2.2.1 HP.out.2.2.2.2.1 h4.out HT.out HV5.out.2.2.1 HV5.out.2.2.2 ((Rep.keep fun b o h ho=>⟨by have:=h;omega,ho⟩).1 _ _ HV5.out.2.1) hown' hb6 (fun g h=>(hg' g h).imp_right fun e=>e.trans (by simp)) hscob hobz
    obtain ⟨_,_,_,p3,p4,p5⟩:=hnt6.cells
    have p6:=p5 3
    clear hg' p5 hb6 hown' hnt5 hnt6 hnt q3 q4 q6
    go_wp2_with fail
    go_roundw
    case rel=>exact ⟨k+1,by omega,by go_num,hnext⟩
    case measure=>simp [intOf];omega
   ·obtain rfl:k=M:=by omega
    go_wp2_with fail
    rcases cut_cases [41] lk with h4 | ⟨l4,h4⟩
    ·refine (take_no hsk h4).mono ?_
     rintro en w4 ⟨rfl,hb4,hs4⟩
     go_wp2_with fail
     go_ret
     refine TPost.no ?_ (HBW.out.trans hb4) hs4
     have hp:=HP.out.1
     rw [Nat.sub_self,rdParTm_zero] at hp
     rw [HZ.out.2.2.2,hp]
     simp [h4.out]
    refine (take_yes hsk h4).mono ?_
    rintro en w4 ⟨rfl,hb4,hs4⟩
    go_wp2_with fail
    go_ret
    have hp:=HP.out.1
    rw [Nat.sub_self,rdParTm_zero] at hp
    have hbz4:But (fun i=>i=sc∨i=ob) wz w4:=HP.out.2.1.trans (hb4.weak fun i _ e=>.inl e)
    have hz0:=HZ.out.1.size
    have hsw:=scan_lt hs
    refine TPost.yes (t:=mkTm wd nm kk ts) (r:=l4) ?_ (HBW.out.trans hb4) hs4 ?_
    ·rw [HZ.out.2.2.2,hp]
     simp [h4.out]
    ·rw [HZ.out.2.2.1 ts HP.out.2.2.2.2.2.1]
     have hnt4:NewT ob wd nm kv slv w4:=(hb4.block ob (lt_of_heap hnt) (by omega)).trans hnt
     refine enc_mk hwob hnt4 (Rep.but hbz4 (fun b hb=>⟨by rintro (e | e) <;> omega,hb.1⟩) HZ.out.2.1) ?_
     rw [HP.out.2.2.2.2.2.1]
     have hz:=HP.out.2.2.2.1
     refine (HP.out.2.2.1.keep (w':=w4) fun g o hg' ho=>?_).rep (fun g hg=>?_) ?_
     ·rw [hb4.block g (lt_of_heap ho) (by have:=hz g hg';omega)];exact ho
     ·have:=hz g hg;show w.heap.size≤g;omega
     ·exact Reps.but hb4 (fun b hb=>⟨by have:=hb.1;omega,by have:=hb.1;show w.heap.size≤b;omega⟩) HP.out.2.2.2.2.1
theorem term_step (sc:Nat) (c:List Value) (e:TypeId) (d:Nat) (hd:d≤1000) (ih:∀ d',d=d'+1→TermSaid sc c e d'):TermSaid sc c e d:=by
 intro r w hs hr
 rcases cut_cases [40] r with h1 | ⟨r1,h1⟩
 ·exact term_word sc c e d hd r w hs hr h1
 ·exact term_open sc c e d hd ih r r1 w hs hr h1
theorem term_any (sc:Nat) (c:List Value) (e:TypeId):∀ (d:Nat),d≤1000→TermSaid sc c e d
 | 0,h=>term_step sc c e 0 h (fun d' e=>by omega)
 | d+1,h=>term_step sc c e (d+1) h (fun d' e=>by obtain rfl:d=d':=by omega
                                                 exact term_any _ _ _ d (by omega))
end Go.Proofs.YtapjaflnmklmeaaGreatDoor
namespace Go.Proofs.YtapjaflnmklmeaaGreatDoor
open Go.RowKit
def tmWord:Tm→Bs
 | .nm _=>[]
 | .wd w=>w
 | .lam _ _ _=>lamW
 | .app _ _=>appW
 | .ite _ _ _=>ifW
def tmName:Tm→Bs
 | .nm x=>x
 | .lam x _ _=>x
 | _=>[]
def tmKind:Tm→Option Ty
 | .lam _ k _=>some k
 | _=>none
def tmParts:Tm→List Tm
 | .nm _=>[]
 | .wd _=>[]
 | .lam _ _ t=>[t]
 | .app m n=>[m,n]
 | .ite l m n=>[l,m,n]
def sumTm (ts:List Tm):Nat:=(ts.map sizeTm).sum
def kindN:Option Ty→Nat
 | some k=>1+atomsT k
 | none=>0
theorem sizeTm_mk (t:Tm):sizeTm t=1+kindN (tmKind t)+sumTm (tmParts t):=by
 cases t <;> simp [sizeTm,tmKind,tmParts,kindN,sumTm] <;> omega
theorem sumTm_take {ts:List Tm} {k:Nat} {t:Tm} (h:ts[k]? = some t):sumTm (ts.take (k+1))=sumTm (ts.take k)+sizeTm t:=by
 unfold sumTm
 rw [List.take_add_one,h]
 simp
theorem sumTm_take_le (ts:List Tm) (k:Nat):sumTm (ts.take k)≤sumTm ts:=by
 unfold sumTm
 conv=>rhs;rw [← List.take_append_drop k ts,List.map_append,List.sum_append]
 omega
theorem sumTm_mem {ts:List Tm} {t:Tm} (h:t∈ts):sizeTm t≤sumTm ts:=by
 induction ts with
 | nil=>simp at h
 | cons x xs ih =>
   unfold sumTm at *
   simp only [List.map_cons,List.sum_cons]
   rcases List.mem_cons.1 h with rfl | h
   ·omega
   ·have:=ih h;omega
theorem tmParts_len (t:Tm):(tmParts t).length≤3:=by cases t <;> simp [tmParts]
theorem encTm_open {F:Nat→Prop} {w:World} {t:Tm} {v:Value} (h:Rep F w (encTm t) v) :
 ∃ b kv slv,v=.pointer (some ⟨b,0,none⟩)∧F b∧w.heap[b]? = some (.cells #[str (tmWord t),str (tmName t),kv,slv] 102 (0,0))∧(tmKind t=none→kv=.pointer none)∧(∀ k,tmKind t=some k→Rep F w (encK k) kv) ∧
   Rep F w (.sl 65 1 (tmParts t).length ((tmParts t).map encTm)) slv:=by
 have key:∀ (wd nm:Bs) (kd:DV) (n:Nat) (ds:List DV),Rep F w (.ptr 102 [.val (str wd),.val (str nm),kd,.sl 65 1 n ds]) v →
  ∃ b kv slv,v=.pointer (some ⟨b,0,none⟩)∧F b∧w.heap[b]? = some (.cells #[str wd,str nm,kv,slv] 102 (0,0))∧Rep F w kd kv∧Rep F w (.sl 65 1 n ds) slv:=by
  intro wd nm kd n ds h
  rw [Rep_ptr] at h
  obtain ⟨b,c,rfl,hb,hc,hr⟩:=h
  simp only [Reps_cons,Reps_nil,Rep_val] at hr
  obtain ⟨_,_,e1,rfl,_,_,rfl,rfl,kv,_,rfl,h1,slv,_,rfl,h2,rfl⟩:=hr
  have:c=#[str wd,str nm,kv,slv]:=by apply Array.ext';simpa using e1
  subst this
  exact ⟨b,kv,slv,rfl,hb,hc,h1,h2⟩
 cases t with
 | nm x =>
   obtain ⟨b,kv,slv,h1,h2,h3,h4,h5⟩:=key _ _ _ _ _ h
   exact ⟨b,kv,slv,h1,h2,h3,fun _=>Rep_val.1 h4,fun k e=>by simp [tmKind] at e,h5⟩
 | wd x =>
   obtain ⟨b,kv,slv,h1,h2,h3,h4,h5⟩:=key _ _ _ _ _ h
   exact ⟨b,kv,slv,h1,h2,h3,fun _=>Rep_val.1 h4,fun k e=>by simp [tmKind] at e,h5⟩
 | lam x k t =>
   obtain ⟨b,kv,slv,h1,h2,h3,h4,h5⟩:=key _ _ _ _ _ h
   exact ⟨b,kv,slv,h1,h2,h3,fun e=>by simp [tmKind] at e,fun k e=>by simp [tmKind] at e;subst e;exact h4,h5⟩
 | app m n =>
   obtain ⟨b,kv,slv,h1,h2,h3,h4,h5⟩:=key _ _ _ _ _ h
   exact ⟨b,kv,slv,h1,h2,h3,fun _=>Rep_val.1 h4,fun k e=>by simp [tmKind] at e,h5⟩
 | ite l m n =>
   obtain ⟨b,kv,slv,h1,h2,h3,h4,h5⟩:=key _ _ _ _ _ h
   exact ⟨b,kv,slv,h1,h2,h3,fun _=>Rep_val.1 h4,fun k e=>by simp [tmKind] at e,h5⟩
def TmAtoms (F:Nat→Prop) (w:World) (t:Tm):Prop:=∀ v,Rep F w (encTm t) v →
 Calls Tryz.prog 48 #[v] w fun en w'=>en=.returned (.int .i64 (sizeTm t))∧w'=w
set_option maxRecDepth 20000 in
set_option maxHeartbeats 1000000 in
theorem tmAtoms_step (F:Nat→Prop) (w:World) (t:Tm) (hl:Lim (sizeTm t)) (ih:∀ t',sizeTm t'<sizeTm t→TmAtoms F w t'):TmAtoms F w t:=by
 intro v hv
 obtain ⟨b,kv,slv,rfl,hb,hc,hkn,hks,hs⟩:=encTm_open hv
 have c1:w.cell? ⟨b,2,none⟩=some kv:=by simp [World.cell?,hc]
 have c2:w.cell? ⟨b,3,none⟩=some slv:=by simp [World.cell?,hc]
 obtain ⟨a,cap,rfl,hn,hlen,hat⟩:=Rep_sl1_open hs
 have e1:=sizeTm_mk t
 have IH:=Lib.hid ih;clear ih hc hv hs
 have E1:=Lib.hid e1;clear e1
 have hl':=hl.le
 have hp3:=tmParts_len t
 have HL:=Lib.hid hlen;clear hlen
 have AT:=Lib.hid hat;clear hat
 have base:Calls Tryz.prog 48 #[.pointer (some ⟨b,0,none⟩)] w fun en w'=>en=.returned (.int .i64 (1+kindN (tmKind t)+sumTm (tmParts t):Nat))∧w'=w:=by
  have hbd:1+kindN (tmKind t)+sumTm (tmParts t)≤16777216:=by have:=E1.out;omega
  cases hk:tmKind t with
  | none =>
    obtain rfl:=hkn hk
    rw [hk] at hbd
    clear hk hkn hks
    simp only [kindN] at hbd ⊢
    go_enter Tryz.func48,Tryz.ntmps48
    go_wp2_with fail
    go_loop [3,24] (fun n i=>∃ k:Nat,k≤(tmParts t).length∧i=.int .i64 k∧n=.int .i64 ((1+sumTm ((tmParts t).take k):Nat):Int)) (fun _ i=>(tmParts t).length-(intOf i).toNat)
    case atStart=>exact ⟨0,Nat.zero_le _,rfl,by simp [sumTm]⟩
    case round =>
     obtain ⟨k,hk,rfl,rfl⟩:=hrel
     by_cases hlt:k<(tmParts t).length
     ·obtain ⟨b',o,u,d,rfl,_,hb',hd,hu,hr⟩:=AT.out k hlt
      rw [List.getElem?_map,Option.map_eq_some_iff] at hd
      obtain ⟨t',ht',rfl⟩:=hd
      have hs:=sumTm_take ht'
      have hle:=sumTm_take_le (tmParts t) (k+1)
      have hat':=E1.out
      have hmem:=sumTm_mem (List.mem_of_getElem? ht')
      have IH':=Lib.hid (IH.out t' (by omega))
      have HS:=Lib.hid hs
      have b1:1+sumTm ((tmParts t).take k)+sizeTm t'≤16777216:=by omega
      clear hs ht' hat' hle hmem
      obtain ⟨bu,eu⟩:=encTm_ptr hr
      subst eu
      go_wp2_with fail
      refine (IH'.out _ hr).mono ?_
      rintro en w' ⟨rfl,ew⟩
      subst ew
      go_wp2_with fail
      go_round
      case rel=>exact ⟨k+1,by omega,by go_num,by rw [HS.out];go_num⟩
      case measure=>simp [intOf];omega
     ·go_wp2_with fail
      go_ret
      have:k=(tmParts t).length:=by omega
      subst this
      exact ⟨ret_i64 (by rw [List.take_length]),rfl⟩
  | some kk =>
    have hkr:=hks kk hk
    rw [hk] at hbd
    clear hk hkn hks
    simp only [kindN] at hbd ⊢
    obtain ⟨kb,ek⟩:∃ ba,kv=.pointer (some ⟨ba,0,none⟩):=by obtain ⟨ba,_,h,_⟩:=encK_open hkr;exact ⟨ba,h⟩
    subst ek
    have CK:=Lib.hid (atoms_any F w (atomsT kk) kk (Nat.le_refl _) (show _≤_ by omega) _ hkr)
    clear hkr
    go_enter Tryz.func48,Tryz.ntmps48
    go_wp2_with fail
    refine CK.out.mono ?_
    rintro en w' ⟨rfl,ew⟩
    subst w'
    go_wp2_with fail
    go_loop [3,24] (fun n i=>∃ k:Nat,k≤(tmParts t).length∧i=.int .i64 k∧n=.int .i64 ((1+(1+atomsT kk)+sumTm ((tmParts t).take k):Nat):Int)) (fun _ i=>(tmParts t).length-(intOf i).toNat)
    case atStart=>exact ⟨0,Nat.zero_le _,rfl,by simp [sumTm]⟩
    case round =>
     obtain ⟨k,hk,rfl,rfl⟩:=hrel
     by_cases hlt:k<(tmParts t).length
     ·obtain ⟨b',o,u,d,rfl,_,hb',hd,hu,hr⟩:=AT.out k hlt
      rw [List.getElem?_map,Option.map_eq_some_iff] at hd
      obtain ⟨t',ht',rfl⟩:=hd
      have hs:=sumTm_take ht'
      have hle:=sumTm_take_le (tmParts t) (k+1)
      have hat':=E1.out
      have hmem:=sumTm_mem (List.mem_of_getElem? ht')
      have IH':=Lib.hid (IH.out t' (by omega))
      have HS:=Lib.hid hs
      have b1:1+(1+atomsT kk)+sumTm ((tmParts t).take k)+sizeTm t'≤16777216:=by omega
      clear hs ht' hat' hle hmem
      obtain ⟨bu,eu⟩:=encTm_ptr hr
      subst eu
      go_wp2_with fail
      refine (IH'.out _ hr).mono ?_
      rintro en w' ⟨rfl,ew⟩
      subst ew
      go_wp2_with fail
      go_round
      case rel=>exact ⟨k+1,by omega,by go_num,by rw [HS.out];go_num⟩
      case measure=>simp [intOf];omega
     ·go_wp2_with fail
      go_ret
      have:k=(tmParts t).length:=by omega
      subst this
      exact ⟨ret_i64 (by rw [List.take_length]),rfl⟩
 rw [E1.out]
 exact base
theorem tmAtoms_any (F:Nat→Prop) (w:World) (n:Nat):∀ t,sizeTm t≤n→Lim n→TmAtoms F w t:=by
 induction n with
 | zero=>intro t h _;have:=sizeTm_mk t;omega
 | succ n ih=>exact fun t h hn=>tmAtoms_step F w t (hn.mono h) (fun t' h'=>ih t' (by omega) (hn.mono (by omega)))
theorem textT_atoms (k:Ty):atomsT k≤(textT k).length:=by
 have h1:=rdK_text (atomsT k) k [] (by omega)
 have h2:=rdK_atoms _ h1
 simpa using h2
theorem sizeTm_len:∀ t:Tm,okTm t→sizeTm t≤(textTm t).length
 | .nm x,h=>by
   rw [show textTm (.nm x)=x from by unfold textTm;rw [trTm,textTr],sizeTm]
   exact List.length_pos_iff.2 (name_sep h).1
 | .wd x,h=>by
   rw [show textTm (.wd x)=x from by unfold textTm;rw [trTm,textTr],sizeTm]
   exact List.length_pos_iff.2 (leaf_sep h).1
 | .lam x k t,h=>by
   have h1:=sizeTm_len t h.2
   have h2:=textT_atoms k
   rw [textTm_lam,sizeTm];simp;omega
 | .app m n,h=>by
   have h1:=sizeTm_len m h.1
   have h2:=sizeTm_len n h.2
   rw [textTm_app,sizeTm];simp;omega
 | .ite l m n,h=>by
   have h0:=sizeTm_len l h.1
   have h1:=sizeTm_len m h.2.1
   have h2:=sizeTm_len n h.2.2
   rw [textTm_ite,sizeTm];simp;omega
def RTPost (w:World) (o:Option Tm) (en:Ending) (w':World):Prop :=
 ∃ v,en=.returned v∧Below w.heap.size w w'∧(o=none→v=.pointer none)∧(∀ t,o=some t→Rep (w.heap.size≤·) w' (encTm t) v)
set_option maxRecDepth 20000 in
set_option maxHeartbeats 1000000 in
theorem readTerm_any (l:Bs) (w:World) (hl:Lim l.length) :
 Calls Tryz.prog 30 #[str l] w (RTPost w (implTerm l)):=by
 have hl':=hl.le
 go_enter Tryz.func30,Tryz.ntmps30
 go_wp2_with fail
 have hs0:Scan w.heap.size [] 96 l (w.alloc (.cells #[str l] 96)):=heap_new _ _
 refine (term_any _ _ _ 60 (by omega) l _ hs0 hl).mono ?_
 rintro en w1 ⟨v,r1,rfl,hb1,hs1,hn1,hy1⟩
 have hb:Below w.heap.size w w1:=((Below.refl w.heap.size w).alloc (Nat.le_refl _) _).trans (hb1.toBelow (by simp) (fun i hi e=>by omega))
 rcases ha:rdTm 60 l with _ | ⟨t,r1'⟩
 ·obtain rfl:=hn1 ha
  have Ha:=Lib.hid ha;clear ha hn1 hy1
  go_wp2_with fail
  go_ret
  exact ⟨_,rfl,hb,fun _=>rfl,fun t h=>by simp [implTerm,Ha.out] at h⟩
 obtain ⟨rfl,hra⟩:=hy1 _ _ ha
 obtain ⟨ba,rfl⟩:=encTm_ptr hra
 obtain ⟨etx,hok,_⟩:=rdTm_canon _ _ _ _ ha
 have hsz:=sizeTm_len t hok
 have hlen:=congrArg List.length etx
 rw [List.length_append] at hlen
 have hst:sizeTm t≤l.length:=by omega
 have Ha:=Lib.hid ha;clear ha hn1 hy1 etx hok hsz hlen
 have hc1:=hs1.cell
 have hz:w.heap.size<w1.heap.size:=scan_lt hs1
 cases r1 with
 | cons x xs =>
   have hne:(!(x::xs).isEmpty)=true:=rfl
   go_wp2_with fail
   go_ret
   exact ⟨_,rfl,hb,fun _=>rfl,fun t h=>by simp [implTerm,Ha.out] at h⟩
 | nil =>
   go_wp2_with fail
   refine (tmAtoms_any _ w1 (sizeTm t) t (Nat.le_refl _) (hl.mono hst) _ hra).mono ?_
   rintro en w2 ⟨rfl,e2⟩
   subst e2
   by_cases h60:sizeTm t≤60
   ·go_wp2_with fail
    go_ret
    have HM:implTerm l=some t:=by simp [implTerm,Ha.out,h60]
    exact ⟨_,rfl,hb,fun h=>by simp [HM] at h,fun t' h=>by rw [HM] at h;simp at h;subst h;exact (Rep.keep fun b o h ho=>⟨by have:=h;simp at this;omega,ho⟩).1 _ _ hra⟩
   ·go_wp2_with fail
    go_ret
    have HM:implTerm l=none:=by simp [implTerm,Ha.out,h60]
    exact ⟨_,rfl,hb,fun _=>rfl,fun t' h=>by rw [HM] at h;simp at h⟩
end Go.Proofs.YtapjaflnmklmeaaGreatDoor

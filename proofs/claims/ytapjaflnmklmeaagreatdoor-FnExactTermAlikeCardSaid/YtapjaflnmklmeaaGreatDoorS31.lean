import Derived.Test.YtapjaflnmklmeaaGreatDoorS7
import Derived.Test.YtapjaflnmklmeaaGreatDoorP34
/- The walks of the reference's trees: names, sizes, texts, terms. -/
set_option linter.unusedVariables false
set_option linter.unusedSimpArgs false
namespace Go.Proofs.YtapjaflnmklmeaaGreatDoor
open Go.RowKit
theorem l6In_any (n lo hi:Int) (w:World):Calls Tryz.prog 81 #[.int .i64 n,.int .i64 lo,.int .i64 hi] w fun en w'=>en=.returned (.bool (decide (lo≤n) && decide (n≤hi)))∧w'=w:=by
 by_cases h1:lo≤n
 ·by_cases h2:n≤hi
  ·go_enter Tryz.func81,Tryz.ntmps81
   go_wp2_with fail
   go_ret
   exact ⟨by simp [h1,h2],rfl⟩
  ·go_enter Tryz.func81,Tryz.ntmps81
   go_wp2_with fail
   go_ret
   exact ⟨by simp [h1,h2],rfl⟩
 ·go_enter Tryz.func81,Tryz.ntmps81
  go_wp2_with fail
  go_ret
  exact ⟨by simp [h1];omega,rfl⟩
set_option maxRecDepth 20000 in
set_option maxHeartbeats 1000000 in
theorem l5Name_any (s:Bs) (w:World) (hl:Lim s.length) :
 Calls Tryz.prog 60 #[str s] w fun en w'=>en=.returned (.bool (nameB s))∧w'=w:=by
 have hl':=hl.le
 by_cases h0:s.length=0
 ·obtain rfl:s=[]:=List.eq_nil_of_length_eq_zero h0
  clear h0
  go_enter Tryz.func60,Tryz.ntmps60
  go_wp2_with fail
  (with_reducible refine (l6In_any 0 1 3 w).mono ?_)
  rintro en w1 ⟨rfl,e⟩
  subst w1
  have q1:(decide ((1:Int)≤0) && decide ((0:Int)≤3))=false:=by decide
  rw [q1]
  clear q1
  go_wp2_with fail
  go_ret
  exact ⟨rfl,rfl⟩
 have hne:(s == [])=false:=by rw [beq_eq_false_iff_ne];rintro rfl;exact h0 rfl
 have hne2:s.isEmpty=false:=by rw [List.isEmpty_eq_false_iff];rintro rfl;exact h0 rfl
 have hpos:0<s.length:=by omega
 clear h0
 by_cases h3:3<s.length
 ·have HN:=Lib.hid (name_no1 h3)
  go_enter Tryz.func60,Tryz.ntmps60
  have q1:(decide ((1:Int)≤(s.length:Int)) && decide ((s.length:Int)≤3))=false:=by rw [decide_eq_false (show ¬ (s.length:Int)≤3 by omega),Bool.and_false]
  go_wp2_with fail
  (with_reducible refine (l6In_any (s.length:Int) 1 3 w).mono ?_)
  rintro en w1 ⟨rfl,e⟩
  subst w1
  rw [q1]
  clear q1
  go_wp2_with fail
  go_ret
  exact ⟨by rw [HN.out];rfl,rfl⟩
 have q1:(decide ((1:Int)≤(s.length:Int)) && decide ((s.length:Int)≤3))=true:=by rw [decide_eq_true (show (1:Int)≤(s.length:Int) by omega),decide_eq_true (show (s.length:Int)≤3 by omega)];rfl
 have Q1:=Lib.hid q1;clear q1
 have B:=byte_int hpos
 by_cases hA:s[0].toNat<120
 ·have HN:=Lib.hid (name_no2 hpos (.inl hA))
  have b1:((((⟨s.toArray⟩:ByteArray)[0]'(lt_str hpos)).toNat:Int))<120:=by rw [B];omega
  clear B hA
  go_enter Tryz.func60,Tryz.ntmps60
  go_wp2_with fail
  (with_reducible refine (l6In_any (s.length:Int) 1 3 w).mono ?_)
  rintro en w1 ⟨rfl,e⟩
  subst w1
  rw [Q1.out]
  go_wp2_with fail
  go_ret
  exact ⟨by rw [HN.out];rfl,rfl⟩
 by_cases hB:122<s[0].toNat
 ·have HN:=Lib.hid (name_no2 hpos (.inr hB))
  have b1:(122:Int)<((((⟨s.toArray⟩:ByteArray)[0]'(lt_str hpos)).toNat:Int)):=by rw [B];omega
  have b2:¬ ((((⟨s.toArray⟩:ByteArray)[0]'(lt_str hpos)).toNat:Int))<120:=by omega
  clear B hA hB
  go_enter Tryz.func60,Tryz.ntmps60
  go_wp2_with fail
  (with_reducible refine (l6In_any (s.length:Int) 1 3 w).mono ?_)
  rintro en w1 ⟨rfl,e⟩
  subst w1
  rw [Q1.out]
  go_wp2_with fail
  go_ret
  exact ⟨by rw [HN.out];rfl,rfl⟩
 have b1:¬ (122:Int)<((((⟨s.toArray⟩:ByteArray)[0]'(lt_str hpos)).toNat:Int)):=by rw [B];omega
 have b2:¬ ((((⟨s.toArray⟩:ByteArray)[0]'(lt_str hpos)).toNat:Int))<120:=by rw [B];omega
 have HA:=Lib.hid (And.intro hA hB)
 clear B hA hB
 go_enter Tryz.func60,Tryz.ntmps60
 go_wp2_with fail
 (with_reducible refine (l6In_any (s.length:Int) 1 3 w).mono ?_)
 rintro en w1 ⟨rfl,e⟩
 subst w1
 rw [Q1.out]
 go_wp2_with fail
 clear b1 b2
 go_loop [3] (fun i=>∃ k:Nat,1≤k∧k≤s.length∧i=.int .i64 k∧∀ j,1≤j→j<k→∀ (hj:j<s.length),48≤s[j].toNat∧s[j].toNat≤57) (fun i=>s.length-(intOf i).toNat)
 case atStart=>exact ⟨1,Nat.le_refl _,hpos,rfl,fun j h1 h2=>by omega⟩
 case round =>
  obtain ⟨k,hk1,hk,rfl,hall⟩:=hrel
  have HR:=Lib.hid hall;clear hall
  by_cases hlt:k<s.length
  ·have B:=byte_int hlt
   by_cases hA:s[k].toNat<48
   ·have HN:=Lib.hid (name_no3 hk1 hlt (.inl hA))
    have b1:((((⟨s.toArray⟩:ByteArray)[k]'(lt_str hlt)).toNat:Int))<48:=by rw [B];omega
    clear B hA
    go_wp2_with fail
    go_ret
    exact ⟨by rw [HN.out];rfl,rfl⟩
   by_cases hB:57<s[k].toNat
   ·have HN:=Lib.hid (name_no3 hk1 hlt (.inr hB))
    have b1:(57:Int)<((((⟨s.toArray⟩:ByteArray)[k]'(lt_str hlt)).toNat:Int)):=by rw [B];omega
    have b2:¬ ((((⟨s.toArray⟩:ByteArray)[k]'(lt_str hlt)).toNat:Int))<48:=by omega
    clear B hA hB
    go_wp2_with fail
    go_ret
    exact ⟨by rw [HN.out];rfl,rfl⟩
   have b1:¬ (57:Int)<((((⟨s.toArray⟩:ByteArray)[k]'(lt_str hlt)).toNat:Int)):=by rw [B];omega
   have b2:¬ ((((⟨s.toArray⟩:ByteArray)[k]'(lt_str hlt)).toNat:Int))<48:=by rw [B];omega
   have HB:=Lib.hid (And.intro hA hB)
   clear B hA hB
   go_wp2_with fail
   go_round
   case rel=>exact ⟨k+1,by omega,by omega,by go_num,fun j h1 h2 hj=>by
    by_cases e:j=k
    ·subst e;have:=HB.out;omega
    ·exact HR.out j h1 (by omega) hj⟩
   case measure=>simp [intOf];omega
  ·go_wp2_with fail
   go_ret
   have HA':=HA.out
   exact ⟨by rw [name_yes hpos (by omega) (by omega) (fun j h1 hj=>HR.out j h1 (by omega) hj)];rfl,rfl⟩
mutual
def encTr:Tr→List DV
 | .am a=>[.val (str a),.sl 28 2 0 []]
 | .ls ps=>[.val (str []),.sl 28 2 ps.length (encTrs ps)]
def encTrs:List Tr→List DV
 | []=>[]
 | p::ps=>encTr p++encTrs ps
end
theorem encTr_length (b:Tr):(encTr b).length=2:=by cases b <;> simp [encTr]
theorem encTrs_length (bs:List Tr):(encTrs bs).length=bs.length*2:=by
 induction bs with
 | nil=>simp [encTrs]
 | cons b bs ih=>simp [encTrs,encTr_length,ih];omega
theorem encTrs_append (a b:List Tr):encTrs (a++b)=encTrs a++encTrs b:=by
 induction a with
 | nil=>simp [encTrs]
 | cons t ts ih=>simp [encTrs,ih,List.append_assoc]
theorem Tryz.infoTr:(Tryz.prog.info? 28).map (fun i=>(i.zero,i.size,i.bytes))=some (some (.agg #[str [],.slice none 0 0]),2,40):=by kernel_rfl
def kidsTr:Tr→List Tr
 | .am _=>[]
 | .ls ps=>ps
theorem encTr_open {F:Nat→Prop} {w:World} {b:Tr} {vs:List Value} (h:Reps F w (encTr b) vs) :
 ∃ a c,vs=[str (atomTr b),.slice a (kidsTr b).length c]∧Rep F w (.sl 28 2 (kidsTr b).length (encTrs (kidsTr b))) (.slice a (kidsTr b).length c):=by
 have key:∀ (s:Bs) (n:Nat) (ds:List DV),Reps F w [.val (str s),.sl 28 2 n ds] vs→∃ a c,vs=[str s,.slice a n c]∧Rep F w (.sl 28 2 n ds) (.slice a n c):=by
  intro s n ds h
  obtain ⟨_,_,rfl,h0,h⟩:=Reps_cons.1 h
  obtain ⟨_,_,rfl,h1,h⟩:=Reps_cons.1 h
  rw [Reps_nil] at h;subst h
  rw [Rep_val] at h0
  subst h0
  have h1':=h1
  obtain ⟨_,a2,c2,e2',_⟩:=Rep_sl.1 h1'
  subst e2'
  exact ⟨a2,c2,rfl,h1⟩
 cases b with
 | am a=>rw [encTr] at h;exact key _ _ _ h
 | ls ps=>rw [encTr] at h;exact key _ _ _ h
def AtTr (F:Nat→Prop) (w:World) (bs:List Tr) (a:Option Addr) (k:Nat):Prop :=
 ∃ b o s a2 n2 c2 d,a=some ⟨b,o,none⟩∧b<w.heap.size∧bs[k]? = some d∧w.cell? ⟨b,o+k*2,none⟩=some (str s)∧w.cell? ⟨b,o+k*2+1,none⟩=some (.slice a2 n2 c2)∧Reps F w (encTr d) [str s,.slice a2 n2 c2]∧s=atomTr d∧n2=(kidsTr d).length
def AtTrs (F:Nat→Prop) (w:World) (bs:List Tr) (a:Option Addr):Prop:=∀ k,k<bs.length→AtTr F w bs a k
theorem AtTrs.of {F:Nat→Prop} {w:World} {bs:List Tr} {v:Value} (h:Rep F w (.sl 28 2 bs.length (encTrs bs)) v):∃ a c,v=.slice a bs.length c∧AtTrs F w bs a:=by
 obtain ⟨hl,a,c,rfl,hn,hz,h⟩:=Rep_sl.1 h
 refine ⟨a,c,rfl,fun k hk=>?_⟩
 rcases h with h | ⟨b,o,cs,fr,rfl,hb,hc,hr⟩
 ·omega
 ·have hs:encTrs bs=encTrs (bs.take k)++(encTr bs[k]++encTrs (bs.drop (k+1))):=by
   have e1:encTr bs[k]=encTrs [bs[k]]:=by simp [encTrs]
   rw [e1,← encTrs_append,← encTrs_append]
   congr 1
   simp
  rw [hs] at hr
  obtain ⟨h1,h2⟩:=hr.split
  obtain ⟨h3,h4⟩:=h2.split
  have hkl:(encTrs (bs.take k)).length=k*2:=by rw [encTrs_length];simp;omega
  rw [hkl,encTr_length] at h3
  obtain ⟨a2,c2,e,_⟩:=encTr_open h3
  have hat:∀ j u,([str (atomTr bs[k]),.slice a2 (kidsTr bs[k]).length c2]:List Value)[j]? = some u→w.cell? ⟨b,o+k*2+j,none⟩=some u:=by
   intro j u hu
   rw [← e] at hu
   have hj:j<2:=by
    have:=(List.getElem?_eq_some_iff.1 hu).1
    simp at this;omega
   rw [List.getElem?_take,if_pos hj,List.getElem?_drop,List.getElem?_take] at hu
   split at hu
   ·rw [List.getElem?_drop] at hu
    simp only [World.cell?,hc]
    rw [Nat.add_assoc]
    simpa using hu
   ·simp at hu
  refine ⟨b,o,_,a2,_,c2,bs[k],rfl,lt_of_heap hc,by simp [hk],hat 0 _ rfl,hat 1 _ rfl,?_,rfl,rfl⟩
  rw [← e];exact h3
theorem okTrs_at:∀ (ps:List Tr),okTrs ps→∀ (k:Nat) (t:Tr),ps[k]? = some t→okTr t
 | [],_,k,t,h=>by simp at h
 | p::ps,ho,0,t,h=>by simp at h;subst h;exact (by rw [okTrs] at ho;exact ho.1)
 | p::ps,ho,k+1,t,h=>by rw [okTrs] at ho;exact okTrs_at ps ho.2 k t (by simpa using h)
def joinTr:List Tr→Bs
 | []=>[]
 | [p]=>textTr p
 | p::q::ps=>textTr p++32::joinTr (q::ps)
theorem tail_join:∀ ps:List Tr,ps≠[]→tailTrs ps=32::(joinTr ps++[41])
 | [],h=>absurd rfl h
 | [p],_=>by rw [tailTrs,tailTrs,joinTr]
 | p::q::ps,_=>by rw [tailTrs,tail_join (q::ps) (by simp),joinTr];simp
theorem text_join:∀ ps:List Tr,textTr (.ls ps)=[40]++joinTr ps++[41]
 | []=>by rw [textTr,textTrs,joinTr];rfl
 | [p]=>by rw [textTr,textTrs,tailTrs,joinTr];simp
 | p::q::ps=>by rw [textTr,textTrs,tail_join (q::ps) (by simp),joinTr];simp
theorem join_snoc:∀ (ps:List Tr) (t:Tr),ps≠[]→joinTr (ps++[t])=joinTr ps++[32]++textTr t
 | [],t,h=>absurd rfl h
 | [p],t,_=>by rw [List.singleton_append,joinTr,joinTr,joinTr];simp
 | p::q::ps,t,_=>by rw [List.cons_append,List.cons_append,joinTr,← List.cons_append,join_snoc (q::ps) t (by simp),joinTr];simp
theorem join_one (t:Tr):joinTr [t]=textTr t:=by rw [joinTr]
theorem join_take_len (ps:List Tr) (k:Nat):(joinTr (ps.take k)).length≤(joinTr ps).length:=by
 induction ps generalizing k with
 | nil=>simp
 | cons p ps ih =>
   cases k with
   | zero=>simp [joinTr]
   | succ k =>
     cases ps with
     | nil=>simp [joinTr]
     | cons q ps =>
       have:=ih k
       cases k with
       | zero=>simp [joinTr]
       | succ k=>simp only [List.take_succ_cons,joinTr,List.length_append,List.length_cons] at this ⊢;omega
theorem part_len:∀ (ps:List Tr) (t:Tr),t∈ps→(textTr t).length≤(joinTr ps).length
 | [],t,h=>by simp at h
 | [p],t,h=>by simp at h;subst h;rw [joinTr];exact Nat.le_refl _
 | p::q::ps,t,h=>by
   rw [joinTr]
   rcases List.mem_cons.1 h with rfl | h
   ·simp
   ·have:=part_len (q::ps) t h
    simp only [List.length_append,List.length_cons] at this ⊢;omega
theorem text_ls_len (ps:List Tr):(textTr (.ls ps)).length=(joinTr ps).length+2:=by rw [text_join];simp
theorem text_pos (t:Tr) (h:okTr t):1≤(textTr t).length:=by
 cases t with
 | am a=>rw [okTr] at h;rw [textTr];exact List.length_pos_iff.2 h.1
 | ls ps=>rw [text_ls_len];omega
mutual
theorem size_text:∀ t:Tr,okTr t→sizeTr t≤(textTr t).length
 | .am a,h=>by
   rw [okTr] at h
   rw [sizeTr,textTr]
   exact List.length_pos_iff.2 h.1
 | .ls ps,h=>by
   rw [okTr] at h
   rw [sizeTr,text_ls_len]
   have:=sizes_text ps h.2
   omega
theorem sizes_text:∀ ps:List Tr,okTrs ps→sizeTrs ps≤(joinTr ps).length
 | [],h=>by rw [sizeTrs];omega
 | [p],h=>by
   rw [okTrs] at h
   rw [sizeTrs,sizeTrs,joinTr]
   exact size_text p h.1
 | p::q::ps,h=>by
   rw [okTrs] at h
   have h1:=size_text p h.1
   have h2:=sizes_text (q::ps) h.2
   rw [sizeTrs,joinTr,List.length_append,List.length_cons]
   omega
end
theorem kids_len:∀ ps:List Tr,okTrs ps→ps.length≤(joinTr ps).length
 | [],_=>by simp
 | [p],h=>by
   rw [okTrs] at h
   have hp:=text_pos p h.1
   rw [joinTr];simpa using hp
 | p::q::ps,h=>by
   rw [okTrs] at h
   have hp:=text_pos p h.1
   have:=kids_len (q::ps) h.2
   rw [joinTr];simp only [List.length_cons,List.length_append] at this ⊢;omega
theorem sizeTrs_take {ps:List Tr} {k:Nat} {t:Tr} (h:ps[k]? = some t):sizeTrs (ps.take (k+1))=sizeTrs (ps.take k)+sizeTr t:=by
 induction ps generalizing k with
 | nil=>simp at h
 | cons p ps ih =>
   cases k with
   | zero=>simp at h;subst h;simp [sizeTrs]
   | succ k =>
     simp only [List.getElem?_cons_succ] at h
     have:=ih h
     simp only [List.take_succ_cons,sizeTrs] at this ⊢
     omega
theorem sizeTrs_take_le (ps:List Tr) (k:Nat):sizeTrs (ps.take k)≤sizeTrs ps:=by
 induction ps generalizing k with
 | nil=>simp
 | cons p ps ih =>
   cases k with
   | zero=>simp [sizeTrs]
   | succ k=>have:=ih k;simp only [List.take_succ_cons,sizeTrs];omega
theorem am_ne {a:Bs} (h:okTr (.am a)):(a == [])=false:=by
 rw [okTr] at h
 rw [beq_eq_false_iff_ne];exact h.1
def BoxT (g:Nat) (s:Bs) (k:Value) (w:World):Prop:=w.cell? ⟨g,0,none⟩=some (str s)∧w.cell? ⟨g,1,none⟩=some k
theorem BoxT.below {g:Nat} {s:Bs} {k:Value} {w w':World} (h:BoxT g s k w) (hb:Below w.heap.size w w'):BoxT g s k w':=by
 obtain ⟨h1,h2⟩:=h
 have:=World.block_lt_of_cell? w _ h1
 exact ⟨by rw [hb.cell (by exact this)];exact h1,by rw [hb.cell (by exact this)];exact h2⟩
def SizeTrSaid (b:Tr):Prop:=∀ (F:Nat→Prop) (w:World) (s v:Value),Reps F w (encTr b) [s,v] →
 Calls Tryz.prog 40 #[.agg #[s,v]] w fun en w'=>en=.returned (.int .i64 (sizeTr b))∧Below w.heap.size w w'
set_option maxRecDepth 100000 in
set_option maxHeartbeats 2000000 in
theorem l5Size_step (b:Tr) (ho:okTr b) (hl:Lim (textTr b).length) (ih:∀ b',(textTr b').length<(textTr b).length→okTr b'→SizeTrSaid b'):SizeTrSaid b:=by
 intro F w s v hv
 obtain ⟨a2,c2,e,hk⟩:=encTr_open hv
 simp only [List.cons.injEq,and_true] at e
 obtain ⟨rfl,rfl⟩:=e
 cases b with
 | am a =>
   have ha:=am_ne ho
   clear hv hk ih hl
   simp only [atomTr,kidsTr]
   go_enter Tryz.func40,Tryz.ntmps40
   go_wp2_with fail
   go_ret
   exact ⟨by rw [sizeTr];rfl,(Below.refl _ _).alloc (Nat.le_refl _) _⟩
 | ls kids =>
   simp only [atomTr,kidsTr] at hk ⊢
   obtain ⟨_,_,ek,hatk⟩:=AtTrs.of hk
   simp only [Value.slice.injEq,true_and] at ek
   obtain ⟨rfl,rfl⟩:=ek
   rw [okTr] at ho
   have IH:=Lib.hid ih;clear ih
   have hsz:=sizes_text kids ho.2
   have htl:=text_ls_len kids
   have hll:=hl.le
   have hkl:kids.length≤sizeTrs kids+kids.length:=by omega
   have nk:kids.length≤16777216:=by have:=kids_len kids ho.2;omega
   have E1:=Lib.hid hsz
   have HO:=Lib.hid ho
   have HT:=Lib.hid htl
   have ATK:=Lib.hid hatk
   clear hatk hk hv hsz htl hkl ho
   go_enter Tryz.func40,Tryz.ntmps40
   go_wp2_with fail
   go_loopw [3,4] (fun n i wr=>∃ k:Nat,k≤kids.length∧i=.int .i64 k∧n=.int .i64 ((sizeTrs (kids.take k):Nat):Int)∧Below w.heap.size w wr∧BoxT w.heap.size [] (.slice a2 kids.length c2) wr) (fun _ i _=>kids.length-(intOf i).toNat)
   case atStart=>exact ⟨0,Nat.zero_le _,rfl,by simp [sizeTrs],(Below.refl _ _).alloc (Nat.le_refl _) _,by simp,by simp⟩
   case round =>
    rename_i wr
    obtain ⟨k,hk,rfl,rfl,hb,hc⟩:=hrel
    obtain ⟨hc1,hc2⟩:=id hc
    by_cases hlt:k<kids.length
    ·obtain ⟨bb,o,s',b2,m2,d2,t,rfl,hbb,ht,u0,u1,hr,es,en⟩:=ATK.out k hlt
     clear es en
     have q0:=(hb.cell hbb).trans u0
     have q1:=(hb.cell hbb).trans u1
     have hr':=(Reps.below (F':=F) hb (fun _ h=>h) hr)
     have hs:=sizeTrs_take ht
     have hle:=sizeTrs_take_le kids (k+1)
     have hat':=E1.out
     have hpl:=part_len kids t (List.mem_of_getElem? ht)
     have ht':=HT.out
     have IH':=Lib.hid (IH.out t (by omega) (okTrs_at kids HO.out.2 k t ht))
     unfold SizeTrSaid at IH'
     have HS:=Lib.hid hs
     have b1:sizeTrs (kids.take k)+sizeTr t≤16777216:=by omega
     have hz:=World.block_lt_of_cell? wr _ hc1
     have hlt':(k:Int)<(kids.length:Int):=by omega
     clear hs ht hat' u0 u1 hr ht' hpl
     go_wp2_with fail
     (with_reducible refine (IH'.out _ _ _ _ hr').mono ?_)
     rintro en w2 ⟨rfl,hb2⟩
     have hb3:=hb.trans (hb2.mono hb.size)
     obtain ⟨hc1,hc2⟩:=id (hc.below hb2)
     have hc':=Lib.hid (hc.below hb2)
     go_wp2_with fail
     go_roundw
     case rel=>exact ⟨k+1,by omega,by go_num,by rw [HS.out] <;> go_num,hb3,hc'.out⟩
     case measure=>simp [intOf];omega
    ·obtain rfl:k=kids.length:=by omega
     rw [List.take_length]
     go_wp2_with fail
     go_ret
     exact ⟨by rw [sizeTr];rfl,hb⟩
theorem l5Size_any (n:Nat):∀ b,(textTr b).length≤n→Lim n→okTr b→SizeTrSaid b:=by
 induction n with
 | zero=>intro b h hn ho;exact l5Size_step b ho (hn.mono h) (fun b' h' _=>by omega)
 | succ n ih=>exact fun b h hn ho=>l5Size_step b ho (hn.mono h) (fun b' h' ho'=>ih b' (by omega) (hn.mono (by omega)) ho')
def headW:Tr→Bs
 | .am _=>[]
 | .ls ps=>headTr ps
set_option maxRecDepth 100000 in
theorem l5Head_any (b:Tr) (ho:okTr b) (F:Nat→Prop) (w:World) (s v:Value) (hv:Reps F w (encTr b) [s,v]) :
 Calls Tryz.prog 20 #[.agg #[s,v]] w fun en w'=>en=.returned (str (headW b))∧Below w.heap.size w w':=by
 obtain ⟨a2,c2,e,hk⟩:=encTr_open hv
 simp only [List.cons.injEq,and_true] at e
 obtain ⟨rfl,rfl⟩:=e
 cases b with
 | am a =>
   have ha:=am_ne ho
   clear hv hk
   simp only [atomTr,kidsTr]
   go_enter Tryz.func20,Tryz.ntmps20
   go_wp2_with fail
   go_ret
   exact ⟨by rw [headW];rfl,(Below.refl _ _).alloc (Nat.le_refl _) _⟩
 | ls kids =>
   simp only [atomTr,kidsTr] at hk ⊢
   obtain ⟨_,_,ek,hatk⟩:=AtTrs.of hk
   simp only [Value.slice.injEq,true_and] at ek
   obtain ⟨rfl,rfl⟩:=ek
   rw [okTr] at ho
   cases kids with
   | nil=>exact absurd rfl ho.1
   | cons p ps =>
     obtain ⟨bb,o,s',b2,m2,d2,t,rfl,hbb,ht,u0,u1,hr,hs',_⟩:=hatk 0 (by simp)
     simp only [List.getElem?_cons_zero,Option.some.injEq] at ht
     subst ht
     have HH:=Lib.hid (show headW (.ls (p::ps))=s' by rw [hs',headW];cases p <;> rfl)
     simp only [Nat.zero_mul,Nat.add_zero] at u0
     have hl0:0<(p::ps).length:=by simp
     have hl1:(((p::ps).length:Int) == 0)=false:=by rw [beq_eq_false_iff_ne];simp;omega
     generalize (p::ps).length=L at *
     have hl2:(0:Int)<(L:Int):=by omega
     clear hatk hk hv ho u1 hr hs'
     go_enter Tryz.func20,Tryz.ntmps20
     go_wp2_with fail
     go_ret
     exact ⟨by rw [HH.out];rfl,(Below.refl _ _).alloc (Nat.le_refl _) _⟩
def TextTrSaid (b:Tr):Prop:=∀ (F:Nat→Prop) (w:World) (s v:Value),Reps F w (encTr b) [s,v] →
 Calls Tryz.prog 22 #[.agg #[s,v]] w fun en w'=>en=.returned (str (textTr b))∧Below w.heap.size w w'
def joinAt (ps:List Tr) (k:Nat):Bs:=[40]++joinTr (ps.take k)
set_option maxRecDepth 100000 in
set_option maxHeartbeats 2000000 in
theorem l5Text_step (b:Tr) (ho:okTr b) (hl:Lim (textTr b).length) (ih:∀ b',(textTr b').length<(textTr b).length→okTr b'→TextTrSaid b'):TextTrSaid b:=by
 intro F w s v hv
 obtain ⟨a2,c2,e,hk⟩:=encTr_open hv
 simp only [List.cons.injEq,and_true] at e
 obtain ⟨rfl,rfl⟩:=e
 cases b with
 | am a =>
   have ha:=am_ne ho
   clear hv hk ih hl
   simp only [atomTr,kidsTr]
   go_enter Tryz.func22,Tryz.ntmps22
   go_wp2_with fail
   go_ret
   exact ⟨by rw [textTr];rfl,(Below.refl _ _).alloc (Nat.le_refl _) _⟩
 | ls kids =>
   simp only [atomTr,kidsTr] at hk ⊢
   obtain ⟨_,_,ek,hatk⟩:=AtTrs.of hk
   simp only [Value.slice.injEq,true_and] at ek
   obtain ⟨rfl,rfl⟩:=ek
   rw [okTr] at ho
   have IH:=Lib.hid ih;clear ih
   have htl:=text_ls_len kids
   have hll:=hl.le
   have nk:kids.length≤16777216:=by have:=kids_len kids ho.2;omega
   have HO:=Lib.hid ho
   have HT:=Lib.hid htl
   have ATK:=Lib.hid hatk
   have HJ:=Lib.hid (text_join kids)
   clear hatk hk hv htl ho hl
   go_enter Tryz.func22,Tryz.ntmps22
   go_wp2_with fail
   go_loopw [3,4] (fun n i wr=>∃ k:Nat,k≤kids.length∧i=.int .i64 k∧n=str (joinAt kids k)∧Below w.heap.size w wr∧BoxT w.heap.size [] (.slice a2 kids.length c2) wr) (fun _ i _=>kids.length-(intOf i).toNat)
   case atStart=>exact ⟨0,Nat.zero_le _,rfl,rfl,(Below.refl _ _).alloc (Nat.le_refl _) _,by simp,by simp⟩
   case round =>
    rename_i wr
    obtain ⟨k,hk,rfl,rfl,hb,hc⟩:=hrel
    obtain ⟨hc1,hc2⟩:=id hc
    have hjl:(joinAt kids k).length≤(joinTr kids).length+1:=by
     have:=join_take_len kids k
     unfold joinAt;simp;omega
    by_cases hlt:k<kids.length
    ·obtain ⟨bb,o,s',b2,m2,d2,t,rfl,hbb,ht,u0,u1,hr,es,en⟩:=ATK.out k hlt
     clear es en
     have q0:=(hb.cell hbb).trans u0
     have q1:=(hb.cell hbb).trans u1
     have hr':=(Reps.below (F':=F) hb (fun _ h=>h) hr)
     have hpl:=part_len kids t (List.mem_of_getElem? ht)
     have ht':=HT.out
     have IH':=Lib.hid (IH.out t (by omega) (okTrs_at kids HO.out.2 k t ht))
     have hz:=World.block_lt_of_cell? wr _ hc1
     have hlt':(k:Int)<(kids.length:Int):=by omega
     have e1:kids.take (k+1)=kids.take k++[t]:=by rw [List.take_add_one,ht];rfl
     by_cases hk0:k=0
     ·have hk1:¬ (0:Int)<(k:Int):=by omega
      have hstep:joinAt kids (k+1)=joinAt kids k++textTr t:=by unfold joinAt;rw [e1,hk0,List.take_zero,List.nil_append,join_one,joinTr];simp
      obtain ⟨A,hA⟩:∃ x,x=joinAt kids k:=⟨_,rfl⟩
      obtain ⟨T,hT⟩:∃ x,x=textTr t:=⟨_,rfl⟩
      unfold TextTrSaid at IH'
      rw [← hA] at hstep hjl ⊢
      rw [← hT] at hstep hpl IH'
      obtain ⟨O,hO⟩:∃ x,x=A++T:=⟨_,rfl⟩
      have a1:=fun w0=>add_str (P:=Tryz.prog) A T (by omega) w0
      rw [← hO] at a1 hstep
      have HS:=Lib.hid hstep
      clear hk0 hstep hA hT hO e1 ht u0 u1 hr ht' hpl
      go_wp2_with fail
      (with_reducible refine (IH'.out _ _ _ _ hr').mono ?_)
      rintro en w2 ⟨rfl,hb2⟩
      have hb3:=hb.trans (hb2.mono hb.size)
      obtain ⟨hc1,hc2⟩:=id (hc.below hb2)
      have hc':=Lib.hid (hc.below hb2)
      go_wp2_with fail
      go_roundw
      case rel=>exact ⟨k+1,by omega,by go_num,by rw [← HS.out],hb3,hc'.out⟩
      case measure=>simp [intOf];omega
     ·have hk1:(0:Int)<(k:Int):=by omega
      have hstep:joinAt kids (k+1)=joinAt kids k++[32]++textTr t:=by unfold joinAt;rw [e1,join_snoc _ _ (by intro h;have:=congrArg List.length h;rw [List.length_take] at this;simp only [List.length_nil] at this;omega)];simp
      obtain ⟨A,hA⟩:∃ x,x=joinAt kids k:=⟨_,rfl⟩
      obtain ⟨T,hT⟩:∃ x,x=textTr t:=⟨_,rfl⟩
      unfold TextTrSaid at IH'
      rw [← hA] at hstep hjl ⊢
      rw [← hT] at hstep hpl IH'
      obtain ⟨A1,hA1⟩:∃ x,x=A++[32]:=⟨_,rfl⟩
      have lA1:A1.length=A.length+1:=by rw [hA1];simp
      obtain ⟨O,hO⟩:∃ x,x=A1++T:=⟨_,rfl⟩
      have a0:=fun w0=>add_str (P:=Tryz.prog) A [32] (by simp;omega) w0
      have a1:=fun w0=>add_str (P:=Tryz.prog) A1 T (by omega) w0
      rw [← hA1] at a0 hstep
      rw [← hO] at a1 hstep
      have HS:=Lib.hid hstep
      clear hstep hA hT hO hA1 lA1 e1 ht u0 u1 hr ht' hpl
      go_wp2_with fail
      (with_reducible refine (IH'.out _ _ _ _ hr').mono ?_)
      rintro en w2 ⟨rfl,hb2⟩
      have hb3:=hb.trans (hb2.mono hb.size)
      obtain ⟨hc1,hc2⟩:=id (hc.below hb2)
      have hc':=Lib.hid (hc.below hb2)
      go_wp2_with fail
      go_roundw
      case rel=>exact ⟨k+1,by omega,by go_num,by rw [← HS.out],hb3,hc'.out⟩
      case measure=>simp [intOf];omega
    ·obtain rfl:k=kids.length:=by omega
     have hj:textTr (.ls kids)=joinAt kids kids.length++[41]:=by rw [HJ.out];unfold joinAt;rw [List.take_length]
     have hnl:¬ ((kids.length:Int)<(kids.length:Int)):=by omega
     obtain ⟨A,hA⟩:∃ x,x=joinAt kids kids.length:=⟨_,rfl⟩
     rw [← hA] at hj hjl ⊢
     obtain ⟨O,hO⟩:∃ x,x=A++[41]:=⟨_,rfl⟩
     have ht':=HT.out
     have a1:=fun w0=>add_str (P:=Tryz.prog) A [41] (by simp;omega) w0
     rw [← hO] at a1 hj
     have HS:=Lib.hid hj
     clear hj hA hO ht'
     go_wp2_with fail
     go_ret
     exact ⟨by rw [HS.out];rfl,hb⟩
theorem l5Text_any (n:Nat):∀ b,(textTr b).length≤n→Lim n→okTr b→TextTrSaid b:=by
 induction n with
 | zero=>intro b h hn ho;exact l5Text_step b ho (hn.mono h) (fun b' h' _=>by omega)
 | succ n ih=>exact fun b h hn ho=>l5Text_step b ho (hn.mono h) (fun b' h' ho'=>ih b' (by omega) (hn.mono (by omega)) ho')
theorem TypeValid_any (l:Bs) (hl:Lim l.length) (w:World):Calls Tryz.prog 61 #[str l] w fun en w'=>en=.returned (.bool (specType l).2)∧Below w.heap.size w w':=by
 have C:=Lib.hid (l1Type_any l hl w)
 generalize hB:(specType l).2=B
 have HB:=Lib.hid hB;clear hB
 go_enter Tryz.func61,Tryz.ntmps61
 go_wp2_with fail
 (with_reducible refine C.out.mono ?_)
 rintro en w1 ⟨v,rfl,hb,hv⟩
 obtain ⟨a1,c1,e1⟩:=encS_slice hv
 subst e1
 clear hv
 rw [HB.out]
 generalize (specType l).1.args.length=n1
 go_wp2_with fail
 refine bodyPost_ret (v:=.bool B) (by simp [results,Tryz.results61,go_sem]) rfl ?_
 exact ⟨rfl,by repeat (first | exact hb | refine Below.alloc ?_ hb.size _ | refine Below.setCell ?_ (by simp;exact hb.size) _)⟩
end Go.Proofs.YtapjaflnmklmeaaGreatDoor
namespace Go.Proofs.YtapjaflnmklmeaaGreatDoor
open Go.RowKit
theorem AtTrs.some {F:Nat→Prop} {w:World} {bs:List Tr} {a:Option Addr} (h:AtTrs F w bs a) (hp:0<bs.length):∃ bb o,a=.some ⟨bb,o,none⟩∧bb<w.heap.size:=by
 obtain ⟨b,o,_,_,_,_,_,e,hb,_⟩:=h 0 hp
 exact ⟨b,o,e,hb⟩
theorem AtTrs.get {F:Nat→Prop} {w:World} {bs:List Tr} {bb o:Nat} (h:AtTrs F w bs (.some ⟨bb,o,none⟩)) {k:Nat} {t:Tr} (ht:bs[k]? = .some t) :
 ∃ a2 c2,w.cell? ⟨bb,o+k*2,none⟩=.some (str (atomTr t))∧w.cell? ⟨bb,o+k*2+1,none⟩=.some (.slice a2 (kidsTr t).length c2)∧Reps F w (encTr t) [str (atomTr t),.slice a2 (kidsTr t).length c2]:=by
 obtain ⟨b,o',s,a2,n2,c2,d,e,hb,hd,u0,u1,hr,es,en⟩:=h k (List.getElem?_eq_some_iff.1 ht).1
 simp only [Option.some.injEq,Addr.mk.injEq,and_true] at e
 obtain ⟨rfl,rfl⟩:=e
 rw [ht] at hd
 obtain rfl:=Option.some.inj hd
 subst es;subst en
 exact ⟨a2,c2,u0,u1,hr⟩
theorem isTr_no3 {ps:List Tr} (h:headTr ps=appW) (hl:ps.length≠3):isTr (.ls ps)=false:=by
 match ps with
 | []=>exact (isTr.eq_def _).trans rfl
 | [a]=>exact (isTr.eq_def _).trans rfl
 | [a,b]=>exact (isTr.eq_def _).trans rfl
 | [a,b,c]=>simp at hl
 | [a,b,c,d] =>
   have h':headTr [a]=appW:=by cases a <;> exact h
   rw [isTr,h'];rfl
 | a::b::c::d::e::ps=>exact (isTr.eq_def _).trans rfl
theorem isTr_no4 {ps:List Tr} (h:headTr ps=lamW∨headTr ps=ifW) (hl:ps.length≠4):isTr (.ls ps)=false:=by
 match ps with
 | []=>exact (isTr.eq_def _).trans rfl
 | [a]=>exact (isTr.eq_def _).trans rfl
 | [a,b]=>exact (isTr.eq_def _).trans rfl
 | [a,b,c] =>
   have h':headTr [a]=lamW∨headTr [a]=ifW:=by cases a <;> exact h
   rw [isTr]
   rcases h' with h' | h' <;> (rw [h'];rfl)
 | [a,b,c,d]=>simp at hl
 | a::b::c::d::e::ps=>exact (isTr.eq_def _).trans rfl
theorem isTr_noW {ps:List Tr} (h1:headTr ps≠lamW) (h2:headTr ps≠appW) (h3:headTr ps≠ifW):isTr (.ls ps)=false:=by
 match ps with
 | []=>exact (isTr.eq_def _).trans rfl
 | [a]=>exact (isTr.eq_def _).trans rfl
 | [a,b]=>exact (isTr.eq_def _).trans rfl
 | [a,b,c] =>
   have h':headTr [a]≠appW:=by cases a <;> exact h2
   rw [isTr,beq_false_of_ne h'];rfl
 | [a,b,c,d] =>
   have h':headTr [a]≠lamW:=by cases a <;> exact h1
   have h'':headTr [a]≠ifW:=by cases a <;> exact h3
   rw [isTr,beq_false_of_ne h',beq_false_of_ne h''];rfl
 | a::b::c::d::e::ps=>exact (isTr.eq_def _).trans rfl
theorem isTr_lam {a b c d:Tr} (h:headTr [a,b,c,d]=lamW):isTr (.ls [a,b,c,d])=(nameB (atomTr b) && (specType (textTr c)).2 && isTr d):=by
 have h':headTr [a]=lamW:=by cases a <;> exact h
 rw [isTr,h']
 have e1:(lamW == lamW)=true:=by decide
 have e2:(lamW == ifW)=false:=by decide
 rw [e1,e2,Bool.true_and,Bool.false_and,Bool.or_false,Bool.and_assoc]
theorem isTr_if {a b c d:Tr} (h:headTr [a,b,c,d]=ifW):isTr (.ls [a,b,c,d])=(isTr b && isTr c && isTr d):=by
 have h':headTr [a]=ifW:=by cases a <;> exact h
 rw [isTr,h']
 have e1:(ifW == lamW)=false:=by decide
 have e2:(ifW == ifW)=true:=by decide
 rw [e1,e2,Bool.true_and,Bool.false_and,Bool.false_or]
theorem isTr_app {a b c:Tr} (h:headTr [a,b,c]=appW):isTr (.ls [a,b,c])=(isTr b && isTr c):=by
 have h':headTr [a]=appW:=by cases a <;> exact h
 rw [isTr,h']
 have e2:(appW == appW)=true:=by decide
 rw [e2,Bool.true_and]
def IsTrSaid (b:Tr):Prop:=∀ (F:Nat→Prop) (w:World) (s v:Value),Reps F w (encTr b) [s,v] →
 Calls Tryz.prog 39 #[.agg #[s,v]] w fun en w'=>en=.returned (.bool (isTr b))∧Below w.heap.size w w'
structure PartAt (F:Nat→Prop) (w:World) (bb o k:Nat) (t:Tr) (a2:Option Addr) (c2:Nat):Prop where
 blk:bb<w.heap.size
 c0:w.cell? ⟨bb,o+k,none⟩=.some (str (atomTr t))
 c1:w.cell? ⟨bb,o+(k+1),none⟩=.some (.slice a2 (kidsTr t).length c2)
 rp:Reps F w (encTr t) [str (atomTr t),.slice a2 (kidsTr t).length c2]
theorem PartAt.below {F:Nat→Prop} {w w':World} {bb o k:Nat} {t:Tr} {a2:Option Addr} {c2:Nat} (h:PartAt F w bb o k t a2 c2) (hb:Below w.heap.size w w'):PartAt F w' bb o k t a2 c2 :=
 ⟨Nat.lt_of_lt_of_le h.blk hb.size,(hb.cell (by exact h.blk)).trans h.c0,(hb.cell (by exact h.blk)).trans h.c1,Reps.below hb (fun _ h=>h) h.rp⟩
theorem AtTrs.part {F:Nat→Prop} {w:World} {bs:List Tr} {bb o:Nat} (h:AtTrs F w bs (.some ⟨bb,o,none⟩)) (hb:bb<w.heap.size) {k:Nat} {t:Tr} (ht:bs[k]? = .some t):∃ a2 c2,PartAt F w bb o (k*2) t a2 c2:=by
 obtain ⟨a2,c2,u0,u1,hr⟩:=h.get ht
 exact ⟨a2,c2,hb,u0,u1,hr⟩
set_option maxRecDepth 100000 in
set_option maxHeartbeats 4000000 in
theorem l5Is_step (b:Tr) (ho:okTr b) (hl:Lim (textTr b).length) (ih:∀ b',(textTr b').length<(textTr b).length→okTr b'→IsTrSaid b'):IsTrSaid b:=by
 intro F w s v hv
 have hvv:=Lib.hid hv
 have CH:=Lib.hid (fun wz (hb:Below w.heap.size w wz)=>l5Head_any b ho F wz s v (Reps.below hb (fun _ h=>h) hvv.out))
 obtain ⟨a2,c2,e,hk⟩:=encTr_open hv
 simp only [List.cons.injEq,and_true] at e
 obtain ⟨rfl,rfl⟩:=e
 cases b with
 | am a =>
   have ha:=am_ne ho
   have hla:Lim a.length:=hl.mono (by rw [textTr];exact Nat.le_refl _)
   have CN:=Lib.hid (fun wz=>l5Name_any a wz hla)
   have HI:=Lib.hid (show isTr (.am a)=(leafW a || nameB a) by rw [isTr])
   clear hv hk ih hl hla CH hvv ho
   simp only [atomTr,kidsTr]
   by_cases h1:a=[116]
   ·subst h1
    go_enter Tryz.func39,Tryz.ntmps39
    go_wp2_with fail
    go_ret
    exact ⟨by rw [HI.out];rfl,(Below.refl _ _).alloc (Nat.le_refl _) _⟩
   by_cases h2:a=[102]
   ·subst h2
    go_enter Tryz.func39,Tryz.ntmps39
    go_wp2_with fail
    go_ret
    exact ⟨by rw [HI.out];rfl,(Below.refl _ _).alloc (Nat.le_refl _) _⟩
   by_cases h3:a=[117]
   ·subst h3
    go_enter Tryz.func39,Tryz.ntmps39
    go_wp2_with fail
    go_ret
    exact ⟨by rw [HI.out];rfl,(Below.refl _ _).alloc (Nat.le_refl _) _⟩
   have n1:(a == [116])=false:=by rw [beq_eq_false_iff_ne];exact h1
   have n2:(a == [102])=false:=by rw [beq_eq_false_iff_ne];exact h2
   have n3:(a == [117])=false:=by rw [beq_eq_false_iff_ne];exact h3
   have HL:=Lib.hid (show leafW a=false by simp [leafW,n1,n2,n3])
   clear h1 h2 h3
   go_enter Tryz.func39,Tryz.ntmps39
   go_wp2_with fail
   (with_reducible refine (CN.out _).mono ?_)
   rintro en w1 ⟨rfl,e⟩
   subst w1
   go_wp2_with fail
   go_ret
   exact ⟨by rw [HI.out,HL.out];rfl,(Below.refl _ _).alloc (Nat.le_refl _) _⟩
 | ls kids =>
   simp only [atomTr,kidsTr] at hk CH hvv ⊢
   obtain ⟨_,_,ek,hatk⟩:=AtTrs.of hk
   simp only [Value.slice.injEq,true_and] at ek
   obtain ⟨rfl,rfl⟩:=ek
   rw [okTr] at ho
   have IH:=Lib.hid ih;clear ih
   have hp0:0<kids.length:=List.length_pos_iff.2 ho.1
   obtain ⟨bb,o,rfl,hbb⟩:=hatk.some hp0
   have HO:=Lib.hid ho
   have HT:=Lib.hid (And.intro (text_ls_len kids) hl)
   have ATK:=Lib.hid hatk
   have hkl:kids.length≤16777216:=by have:=kids_len kids ho.2;have:=text_ls_len kids;have:=hl.le;omega
   have sub:∀ (t:Tr),t∈kids→okTr t∧Lim (textTr t).length∧IsTrSaid t:=fun t ht=>by
    obtain ⟨k,hk⟩:=List.getElem?_of_mem ht
    have h1:=okTrs_at kids HO.out.2 k t hk
    have h2:=part_len kids t ht
    have h3:=HT.out.1
    have h4:=HT.out.2.le
    exact ⟨h1,(show _≤_ by omega),IH.out t (by omega) h1⟩
   have SUB:=Lib.hid sub
   have hbx:BoxT w.heap.size [] (.slice (.some ⟨bb,o,none⟩) kids.length c2) (w.alloc (.cells #[str [],.slice (.some ⟨bb,o,none⟩) kids.length c2] 28)):=⟨by simp,by simp⟩
   have HBX:=Lib.hid hbx
   have HB0:Hid (Below w.heap.size w (w.alloc (.cells #[str [],.slice (.some ⟨bb,o,none⟩) kids.length c2] 28))):=(Below.refl _ _).alloc (Nat.le_refl _) _
   clear hatk hk hv hvv ho hl sub hbx
   go_enter Tryz.func39,Tryz.ntmps39
   go_wp2_with fail
   (with_reducible refine (CH.out _ HB0.out).mono ?_)
   rintro en w1 ⟨rfl,hb1⟩
   have hb01:Below w.heap.size w w1:=HB0.out.trans (hb1.mono HB0.out.size)
   have HX1:=Lib.hid (HBX.out.below hb1)
   have HB1:=Lib.hid hb01
   clear hb1 hb01 HBX HB0 CH
   obtain ⟨hd,hhd⟩:∃ x,x=headW (.ls kids):=⟨_,rfl⟩
   rw [← hhd]
   have HD:Hid (headTr kids=hd):=hhd.symm
   clear hhd
   have nl:(4:Int)=(kids.length:Int)∨¬ (4:Int)=(kids.length:Int):=by omega
   by_cases hlam:hd=lamW
   ·have q0:(hd == [108,97,109])=true:=by rw [beq_iff_eq];exact hlam
    have HL:=Lib.hid hlam;clear hlam
    obtain ⟨x0,x1⟩:=HX1.out
    by_cases h4:kids.length=4
    ·obtain ⟨p0,p1,p2,p3,rfl⟩:∃ a b c d,kids=[a,b,c,d]:=by
      match kids,h4 with
      | [a,b,c,d],_=>exact ⟨a,b,c,d,rfl⟩
     obtain ⟨a1,k1,P1⟩:=(ATK.out.part hbb (k:=1) (t:=p1) rfl).imp fun _ h=>h
     obtain ⟨a3,k3,P2⟩:=(ATK.out.part hbb (k:=2) (t:=p2) rfl).imp fun _ h=>h
     obtain ⟨a5,k5,P3⟩:=(ATK.out.part hbb (k:=3) (t:=p3) rfl).imp fun _ h=>h
     have HI:=Lib.hid (isTr_lam (a:=p0) (b:=p1) (c:=p2) (d:=p3) (by rw [HD.out,HL.out]))
     have S1:=Lib.hid (SUB.out p1 (by simp));have S2:=Lib.hid (SUB.out p2 (by simp));have S3:=Lib.hid (SUB.out p3 (by simp))
     have PP:=Lib.hid (And.intro P1 (And.intro P2 P3))
     have lat:Lim (atomTr p1).length:=by
      cases p1 with
      | am a=>have:=S1.out.2.1;rw [textTr] at this;exact this
      | ls ps=>exact Nat.zero_le _
     have CN:=Lib.hid (fun wz=>l5Name_any (atomTr p1) wz lat)
     obtain ⟨y0,y1⟩:=And.intro (P1.below HB1.out).c0 (P1.below HB1.out).c1
     have hbw:=(P1.below HB1.out).blk
     have hl4:(([p0,p1,p2,p3]:List Tr).length:Nat)=4:=rfl
     rw [hl4] at x1 ⊢
     simp only [Nat.one_mul,Nat.reduceMul,Nat.reduceAdd] at y0 y1
     clear P1 P2 P3 h4 hl4 lat hkl hp0 nl
     go_wp2_with fail
     (with_reducible refine (CN.out _).mono ?_)
     rintro en w2 ⟨rfl,e⟩
     subst w2
     cases hn:nameB (atomTr p1) with
     | false =>
       have HN:=Lib.hid hn;clear hn
       go_wp2_with fail
       go_ret
       exact ⟨by rw [HI.out,HN.out];rfl,HB1.out⟩
     | true =>
       have HN:=Lib.hid hn;clear hn
       have P2:=PP.out.2.1.below HB1.out
       have CT:=Lib.hid (l5Text_any _ p2 (Nat.le_refl _) S2.out.2.1 S2.out.1 F w1 _ _ P2.rp)
       obtain ⟨y2,y3⟩:=And.intro P2.c0 P2.c1
       simp only [Nat.one_mul,Nat.reduceMul,Nat.reduceAdd] at y2 y3
       clear P2 y0 y1
       go_wp2_with fail
       (with_reducible refine CT.out.mono ?_)
       rintro en w2 ⟨rfl,hb2⟩
       have HB2:=Lib.hid (HB1.out.trans (hb2.mono HB1.out.size))
       have HX2:=Lib.hid (HX1.out.below hb2)
       have CV:=Lib.hid (TypeValid_any (textTr p2) S2.out.2.1 w2)
       clear hb2 x0 x1 y2 y3 hbw
       go_wp2_with fail
       (with_reducible refine CV.out.mono ?_)
       rintro en w3 ⟨rfl,hb3⟩
       have HB3:=Lib.hid (HB2.out.trans (hb3.mono HB2.out.size))
       have HX3:=Lib.hid (HX2.out.below hb3)
       clear hb3
       cases hv:(specType (textTr p2)).2 with
       | false =>
         have HV:=Lib.hid hv;clear hv
         go_wp2_with fail
         go_ret
         exact ⟨by rw [HI.out,HN.out,HV.out];rfl,HB3.out⟩
       | true =>
         have HV:=Lib.hid hv;clear hv
         have P3:=PP.out.2.2.below HB3.out
         have CI:=Lib.hid (S3.out.2.2 F w3 _ _ P3.rp)
         obtain ⟨x0,x1⟩:=HX3.out
         obtain ⟨y2,y3⟩:=And.intro P3.c0 P3.c1
         have hbw:=P3.blk
         have hl4:(([p0,p1,p2,p3]:List Tr).length:Nat)=4:=rfl
         rw [hl4] at x1
         simp only [Nat.one_mul,Nat.reduceMul,Nat.reduceAdd] at y2 y3
         clear P3 hl4
         go_wp2_with fail
         (with_reducible refine CI.out.mono ?_)
         rintro en w4 ⟨rfl,hb4⟩
         go_wp2_with fail
         go_ret
         exact ⟨by rw [HI.out,HN.out,HV.out];rfl,HB3.out.trans (hb4.mono HB3.out.size)⟩
    ·have hne:((kids.length:Int) == 4)=false:=by rw [beq_eq_false_iff_ne];omega
     have HI:=Lib.hid (isTr_no4 (.inl (by rw [HD.out,HL.out])) h4)
     clear h4
     go_wp2_with fail
     go_ret
     exact ⟨by rw [HI.out];rfl,HB1.out⟩
   have q0:(hd == [108,97,109])=false:=by rw [beq_eq_false_iff_ne];exact hlam
   by_cases happ:hd=appW
   ·have q1:(hd == [97,112,112])=true:=by rw [beq_iff_eq];exact happ
    have HL:=Lib.hid happ;clear happ hlam
    obtain ⟨x0,x1⟩:=HX1.out
    by_cases h4:kids.length=3
    ·obtain ⟨p0,p1,p2,rfl⟩:∃ a b c,kids=[a,b,c]:=by
      match kids,h4 with
      | [a,b,c],_=>exact ⟨a,b,c,rfl⟩
     obtain ⟨a1,k1,P1⟩:=(ATK.out.part hbb (k:=1) (t:=p1) rfl).imp fun _ h=>h
     obtain ⟨a3,k3,P2⟩:=(ATK.out.part hbb (k:=2) (t:=p2) rfl).imp fun _ h=>h
     have HI:=Lib.hid (isTr_app (a:=p0) (b:=p1) (c:=p2) (by rw [HD.out,HL.out]))
     have S1:=Lib.hid (SUB.out p1 (by simp));have S2:=Lib.hid (SUB.out p2 (by simp))
     have PP:=Lib.hid (And.intro P1 P2)
     have CI1:=Lib.hid (S1.out.2.2 F w1 _ _ (P1.below HB1.out).rp)
     obtain ⟨y0,y1⟩:=And.intro (P1.below HB1.out).c0 (P1.below HB1.out).c1
     have hbw:=(P1.below HB1.out).blk
     have hl4:(([p0,p1,p2]:List Tr).length:Nat)=3:=rfl
     rw [hl4] at x1 ⊢
     simp only [Nat.one_mul,Nat.reduceMul,Nat.reduceAdd] at y0 y1
     clear P1 P2 h4 hl4 hkl hp0 nl
     go_wp2_with fail
     (with_reducible refine CI1.out.mono ?_)
     rintro en w2 ⟨rfl,hb2⟩
     have HB2:=Lib.hid (HB1.out.trans (hb2.mono HB1.out.size))
     have HX2:=Lib.hid (HX1.out.below hb2)
     clear hb2 x0 x1 y0 y1 hbw
     cases hn:isTr p1 with
     | false =>
       have HN:=Lib.hid hn;clear hn
       go_wp2_with fail
       go_ret
       exact ⟨by rw [HI.out,HN.out];rfl,HB2.out⟩
     | true =>
       have HN:=Lib.hid hn;clear hn
       have P2:=PP.out.2.below HB2.out
       have CI2:=Lib.hid (S2.out.2.2 F w2 _ _ P2.rp)
       obtain ⟨x0,x1⟩:=HX2.out
       obtain ⟨y2,y3⟩:=And.intro P2.c0 P2.c1
       have hbw:=P2.blk
       have hl4:(([p0,p1,p2]:List Tr).length:Nat)=3:=rfl
       rw [hl4] at x1
       simp only [Nat.one_mul,Nat.reduceMul,Nat.reduceAdd] at y2 y3
       clear P2 hl4
       go_wp2_with fail
       (with_reducible refine CI2.out.mono ?_)
       rintro en w4 ⟨rfl,hb4⟩
       go_wp2_with fail
       go_ret
       exact ⟨by rw [HI.out,HN.out];rfl,HB2.out.trans (hb4.mono HB2.out.size)⟩
    ·have hne:((kids.length:Int) == 3)=false:=by rw [beq_eq_false_iff_ne];omega
     have HI:=Lib.hid (isTr_no3 (by rw [HD.out,HL.out]) h4)
     clear h4
     go_wp2_with fail
     go_ret
     exact ⟨by rw [HI.out];rfl,HB1.out⟩
   have q1:(hd == [97,112,112])=false:=by rw [beq_eq_false_iff_ne];exact happ
   by_cases hif:hd=ifW
   ·have q2:(hd == [105,102])=true:=by rw [beq_iff_eq];exact hif
    have HL:=Lib.hid hif;clear hif happ hlam
    obtain ⟨x0,x1⟩:=HX1.out
    by_cases h4:kids.length=4
    ·obtain ⟨p0,p1,p2,p3,rfl⟩:∃ a b c d,kids=[a,b,c,d]:=by
      match kids,h4 with
      | [a,b,c,d],_=>exact ⟨a,b,c,d,rfl⟩
     obtain ⟨a1,k1,P1⟩:=(ATK.out.part hbb (k:=1) (t:=p1) rfl).imp fun _ h=>h
     obtain ⟨a3,k3,P2⟩:=(ATK.out.part hbb (k:=2) (t:=p2) rfl).imp fun _ h=>h
     obtain ⟨a5,k5,P3⟩:=(ATK.out.part hbb (k:=3) (t:=p3) rfl).imp fun _ h=>h
     have HI:=Lib.hid (isTr_if (a:=p0) (b:=p1) (c:=p2) (d:=p3) (by rw [HD.out,HL.out]))
     have S1:=Lib.hid (SUB.out p1 (by simp));have S2:=Lib.hid (SUB.out p2 (by simp));have S3:=Lib.hid (SUB.out p3 (by simp))
     have PP:=Lib.hid (And.intro P1 (And.intro P2 P3))
     have CI1:=Lib.hid (S1.out.2.2 F w1 _ _ (P1.below HB1.out).rp)
     obtain ⟨y0,y1⟩:=And.intro (P1.below HB1.out).c0 (P1.below HB1.out).c1
     have hbw:=(P1.below HB1.out).blk
     have hl4:(([p0,p1,p2,p3]:List Tr).length:Nat)=4:=rfl
     rw [hl4] at x1 ⊢
     simp only [Nat.one_mul,Nat.reduceMul,Nat.reduceAdd] at y0 y1
     clear P1 P2 P3 h4 hl4 hkl hp0 nl
     go_wp2_with fail
     (with_reducible refine CI1.out.mono ?_)
     rintro en w2 ⟨rfl,hb2⟩
     have HB2:=Lib.hid (HB1.out.trans (hb2.mono HB1.out.size))
     have HX2:=Lib.hid (HX1.out.below hb2)
     clear hb2 x0 x1 y0 y1 hbw
     cases hn:isTr p1 with
     | false =>
       have HN:=Lib.hid hn;clear hn
       go_wp2_with fail
       go_ret
       exact ⟨by rw [HI.out,HN.out];rfl,HB2.out⟩
     | true =>
       have HN:=Lib.hid hn;clear hn
       have P2:=PP.out.2.1.below HB2.out
       have CI2:=Lib.hid (S2.out.2.2 F w2 _ _ P2.rp)
       obtain ⟨x0,x1⟩:=HX2.out
       obtain ⟨y2,y3⟩:=And.intro P2.c0 P2.c1
       have hbw:=P2.blk
       have hl4:(([p0,p1,p2,p3]:List Tr).length:Nat)=4:=rfl
       rw [hl4] at x1
       simp only [Nat.one_mul,Nat.reduceMul,Nat.reduceAdd] at y2 y3
       clear P2 hl4
       go_wp2_with fail
       (with_reducible refine CI2.out.mono ?_)
       rintro en w4 ⟨rfl,hb4⟩
       have HB4:=Lib.hid (HB2.out.trans (hb4.mono HB2.out.size))
       have HX4:=Lib.hid (HX2.out.below hb4)
       clear hb4 x0 x1 y2 y3 hbw
       cases hn2:isTr p2 with
       | false =>
         have HN2:=Lib.hid hn2;clear hn2
         go_wp2_with fail
         go_ret
         exact ⟨by rw [HI.out,HN.out,HN2.out];rfl,HB4.out⟩
       | true =>
         have HN2:=Lib.hid hn2;clear hn2
         have P3:=PP.out.2.2.below HB4.out
         have CI3:=Lib.hid (S3.out.2.2 F w4 _ _ P3.rp)
         obtain ⟨x0,x1⟩:=HX4.out
         obtain ⟨y2,y3⟩:=And.intro P3.c0 P3.c1
         have hbw:=P3.blk
         have hl4:(([p0,p1,p2,p3]:List Tr).length:Nat)=4:=rfl
         rw [hl4] at x1
         simp only [Nat.one_mul,Nat.reduceMul,Nat.reduceAdd] at y2 y3
         clear P3 hl4
         go_wp2_with fail
         (with_reducible refine CI3.out.mono ?_)
         rintro en w5 ⟨rfl,hb5⟩
         go_wp2_with fail
         go_ret
         exact ⟨by rw [HI.out,HN.out,HN2.out];rfl,HB4.out.trans (hb5.mono HB4.out.size)⟩
    ·have hne:((kids.length:Int) == 4)=false:=by rw [beq_eq_false_iff_ne];omega
     have HI:=Lib.hid (isTr_no4 (.inr (by rw [HD.out,HL.out])) h4)
     clear h4
     go_wp2_with fail
     go_ret
     exact ⟨by rw [HI.out];rfl,HB1.out⟩
   have q2:(hd == [105,102])=false:=by rw [beq_eq_false_iff_ne];exact hif
   have HI:=Lib.hid (isTr_noW (by rw [HD.out];exact hlam) (by rw [HD.out];exact happ) (by rw [HD.out];exact hif))
   clear hlam happ hif
   go_wp2_with fail
   go_ret
   exact ⟨by rw [HI.out];rfl,HB1.out⟩
theorem l5Is_any (n:Nat):∀ b,(textTr b).length≤n→Lim n→okTr b→IsTrSaid b:=by
 induction n with
 | zero=>intro b h hn ho;exact l5Is_step b ho (hn.mono h) (fun b' h' _=>by omega)
 | succ n ih=>exact fun b h hn ho=>l5Is_step b ho (hn.mono h) (fun b' h' ho'=>ih b' (by omega) (hn.mono (by omega)) ho')
end Go.Proofs.YtapjaflnmklmeaaGreatDoor
namespace Go.Proofs.YtapjaflnmklmeaaGreatDoor
open Go.RowKit
def rdAll (e:Nat) (m:Bs):Option (List Tr×Bs):=rdTrs (rdTr e) (m.length+1) m
theorem rdAll_eq (e:Nat) (m:Bs):rdAll e m=(rdTr e m).bind fun x=>match x.2 with
 | []=>none
 | c::r=>if c=41 then some ([x.1],r) else if c=32 then (rdAll e r).map fun y=>(x.1::y.1,y.2) else none:=by
 unfold rdAll
 rw [rdTrs]
 cases h:rdTr e m with
 | none=>rfl
 | some x =>
   obtain ⟨t,r1⟩:=x
   simp only [Option.bind_some]
   cases r1 with
   | nil=>rfl
   | cons c r =>
     have hl:=rdTr_shrinks e _ _ _ h
     simp only [List.length_cons] at hl
     simp only
     rw [rdTrs_more (rdTr_shrinks e) m.length (r.length+1) r (by omega) (by omega)]
theorem rdTr_all (e:Nat) (r:Bs):rdTr (e+1) (40::r)=(rdAll e r).map fun y=>(.ls y.1,y.2):=rdTr_open e r
theorem rdTr_suffix {e:Nat} {m r:Bs} {t:Tr} (h:rdTr e m=some (t,r)):r <:+ m:=by
 obtain ⟨e1,_⟩:=rdTr_canon e m t r h
 exact ⟨_,e1.symm⟩
def TrPost (L:Nat) (w:World) (o:Option (Tr×Bs)) (en:Ending) (w':World):Prop :=
 ∃ (s:Bs) (a:Option Addr) (n c:Nat) (k:Int),en=.returned (.tuple #[.agg #[str s,.slice a n c],.int .i64 k])∧Below w.heap.size w w'∧(o=none→k = -1) ∧
   (∀ t rest,o=some (t,rest)→k=(L:Int)-rest.length∧Reps (w.heap.size≤·) w' (encTr t) [str s,.slice a n c])
theorem TrPost.no {L:Nat} {w w':World} {o:Option (Tr×Bs)} {s:Bs} {a:Option Addr} {n c:Nat} (ho:o=.none) (hb:Below w.heap.size w w'):TrPost L w o (.returned (.tuple #[.agg #[str s,.slice a n c],.int .i64 (-1)])) w' :=
 ⟨s,a,n,c,_,rfl,hb,fun _=>rfl,fun _ _ h=>by rw [ho] at h;simp at h⟩
theorem TrPost.yes {L:Nat} {w w':World} {o:Option (Tr×Bs)} {t:Tr} {rest s:Bs} {a:Option Addr} {n c:Nat} {k:Int} (ho:o=.some (t,rest)) (hk:k=(L:Int)-rest.length) (hb:Below w.heap.size w w')
 (hv:Reps (w.heap.size≤·) w' (encTr t) [str s,.slice a n c]):TrPost L w o (.returned (.tuple #[.agg #[str s,.slice a n c],.int .i64 k])) w' :=
 ⟨s,a,n,c,k,rfl,hb,fun h=>by rw [ho] at h;simp at h,fun _ _ h=>by rw [ho] at h;simp at h;obtain ⟨rfl,rfl⟩:=h;exact ⟨hk,hv⟩⟩
def TrSaid (l:Bs) (e:Nat):Prop:=∀ (d i:Nat) (w:World),e+d=101→i≤l.length →
    Calls Tryz.prog 38 #[str l,.int .i64 i,.int .i64 d] w (TrPost l.length w (rdTr e (l.drop i)))
def NewTr (ob:Nat) (s:Bs) (slv:Value) (w:World):Prop:=w.heap[ob]? = some (.cells #[str s,slv] 28 (0,0))
theorem NewTr.cells {ob:Nat} {s:Bs} {sl:Value} {w:World} (h:NewTr ob s sl w):w.cell? ⟨ob,0,none⟩=some (str s)∧w.cell? ⟨ob,1,none⟩=some sl∧ob<w.heap.size∧(∀ o,w.frozen? ⟨ob,o,none⟩=false):=by
 have hl:=lt_of_heap h
 unfold NewTr at h
 exact ⟨by simp [World.cell?,h],by simp [World.cell?,h],hl,fun o=>by simp [World.frozen?,h]⟩
theorem NewTr.put1 {ob:Nat} {s:Bs} {sl u:Value} {w:World} (h:NewTr ob s sl w):NewTr ob s u (w.setCell ⟨ob,1,none⟩ u):=by
 unfold NewTr;rw [setCell_at h];rfl
theorem NewTr.below {ob:Nat} {s:Bs} {sl:Value} {w w':World} {B:Nat} (h:NewTr ob s sl w) (hb:Below B w w') (hm:ob<B):NewTr ob s sl w':=by
 unfold NewTr;rw [hb.block ob hm];exact h
theorem NewTr.store {ob:Nat} {s:Bs} {sl:Value} {w:World} (h:NewTr ob s sl w) (u0 u1:Value) :
 ∃ W,W=((w.setCell ⟨ob,0,none⟩ u0).setCell ⟨ob,1,none⟩ u1)∧W.cell? ⟨ob,0,none⟩=some u0∧W.cell? ⟨ob,1,none⟩=some u1 ∧
   (∀ B w0,Below B w0 w→B≤ob→Below B w0 W)∧(∀ i x,i≠ob→w.heap[i]? = some x→W.heap[i]? = some x):=by
 have hc:((w.setCell ⟨ob,0,none⟩ u0).setCell ⟨ob,1,none⟩ u1).heap[ob]? = some (.cells #[u0,u1] 28 (0,0)):=by
  unfold NewTr at h
  rw [setCell_at (setCell_at h)];rfl
 refine ⟨_,rfl,by simp only [World.cell?,hc];rfl,by simp only [World.cell?,hc];rfl,fun B w0 hb hB=>?_,fun i x hi hx=>?_⟩
 ·exact ((hb.setCell (p:=⟨ob,0,none⟩) hB _).setCell (p:=⟨ob,1,none⟩) hB _)
 ·rw [Below.heap_setCell _ _ _ _ (by simpa using hi),Below.heap_setCell _ _ _ _ (by simpa using hi)];exact hx
theorem SrcSl.lit2 {w:World} {e:TypeId} (cs:Array Value) (hn:cs.size=2) (hc:∀ u∈cs.toList,u.oneCell'=true) (g:Nat) (hg:g=w.heap.size):SrcSl 2 (.slice (some ⟨g,0,none⟩) 1 1) 1 cs.toList (w.alloc (.cells cs e)):=by
 subst hg
 refine ⟨by simp [hn],hc,.inl ⟨_,_,rfl,fun j u hu=>?_⟩⟩
 unfold Addr.add
 split
 ·subst j;simp;simpa using hu
 ·simp;simpa using hu
theorem word_in {m:Bs} {j:Nat} (h:j<(wordOf m).length):∃ hm:j<m.length,sep m[j]=false:=by
 have hle:=word_le m
 have hm:j<m.length:=by omega
 refine ⟨hm,?_⟩
 have h1:m[j]=(wordOf m)[j]:=by
  have e:=word_append m
  have:m[j]? = (wordOf m)[j]?:=by conv=>lhs;rw [← e]
                                  rw [List.getElem?_append_left h]
  rw [List.getElem?_eq_getElem hm,List.getElem?_eq_getElem h] at this
  exact Option.some.inj this
 rw [h1]
 have:=tw_all (fun c=>!sep c) m _ (List.getElem_mem h)
 simpa using this
theorem word_out {m:Bs} (h:(wordOf m).length<m.length):sep m[(wordOf m).length]=true:=by
 have h2:(!sep m[(wordOf m).length])=false:=tw_end (fun c=>!sep c) m h
 simpa using h2
structure TreeSt (w:World) (ob Z:Nat) (wr:World) (ps:List Tr) (vs:List Value) (sl:Value):Prop where
 below:Below w.heap.size w wr
 res:NewTr w.heap.size [] (.slice none 0 0) wr
 out:NewTr ob [] sl wr
 own:Own wr 28 2 sl ps.length vs
 blk:∀ g,sl.ownBlock=some g→Z≤g
 rep:Reps (fun b=>Z≤b∧sl.ownBlock≠some b) wr (encTrs ps) vs
 z:Z≤wr.heap.size
theorem TreeSt.next {w:World} {ob Z:Nat} {wr:World} {ps:List Tr} {vs:List Value} {sl:Value} (h:TreeSt w ob Z wr ps vs sl) (hob:ob<Z) (hwo:w.heap.size<ob) {W w7:World} {t:Tr} {cs:List Value} {a':Option Addr} {c':Nat}
 (hb6:Below wr.heap.size wr W) (hcs:Reps (wr.heap.size≤·) W (encTr t) cs) (hown:Own w7 28 2 (.slice a' (ps.length+1) c') (ps.length+1) (vs++cs)) (hb7:But (fun i=>sl.ownBlock=some i) W w7)
 (hg7:∀ g,(Value.slice a' (ps.length+1) c').ownBlock=some g→sl.ownBlock=some g∨g=W.heap.size) :
 TreeSt w ob Z (w7.setCell ⟨ob,1,none⟩ (.slice a' (ps.length+1) c')) (ps++[t]) (vs++cs) (.slice a' (ps.length+1) c'):=by
 have z6:=hb6.size
 have z7:=hb7.size
 have zr:=h.z
 have keep:∀ i x,wr.heap[i]? = some x→sl.ownBlock≠some i→i≠ob→(w7.setCell ⟨ob,1,none⟩ (.slice a' (ps.length+1) c')).heap[i]? = some x:=by
  intro i x hx h1 h2
  have:=lt_of_heap hx
  rw [Below.heap_setCell _ _ _ _ (by simpa using h2),hb7.block i (by omega) h1,hb6.block i this];exact hx
 have keep6:∀ i x,W.heap[i]? = some x→sl.ownBlock≠some i→i≠ob→(w7.setCell ⟨ob,1,none⟩ (.slice a' (ps.length+1) c')).heap[i]? = some x:=by
  intro i x hx h1 h2
  have:=lt_of_heap hx
  rw [Below.heap_setCell _ _ _ _ (by simpa using h2),hb7.block i (by omega) h1];exact hx
 have ltK:∀ g,sl.ownBlock=some g→g<wr.heap.size:=fun g hg=>h.own.lt hg
 have nK:∀ i,i<Z→sl.ownBlock≠some i:=fun i hi e=>by have:=h.blk i e;omega
 have newg:∀ g,(Value.slice a' (ps.length+1) c').ownBlock=some g→Z≤g:=fun g hg=>by
  rcases hg7 g hg with e | e
  ·exact h.blk g e
  ·omega
 refine ⟨?_,?_,?_,?_,newg,?_,by simp [World.setCell];omega⟩
 ·refine Below.setCell ?_ (show w.heap.size≤ob by omega) _
  exact (h.below.trans (hb6.mono h.below.size)).trans (hb7.toBelow (by have:=h.below.size;omega) fun i hi e=>nK i (by omega) e)
 ·exact keep _ _ h.res (nK _ (by omega)) (by omega)
 ·have h1:NewTr ob [] sl w7:=by
   unfold NewTr;rw [hb7.block ob (by omega) (nK _ hob),hb6.block ob (by omega)];exact h.out
  exact h1.put1
 ·rw [show (ps++[t]).length=ps.length+1 from by simp]
  exact hown.keep fun g o hg ho=>by rw [Below.heap_setCell _ _ _ _ (by have:=newg g hg;simp;omega)];exact ho
 ·rw [encTrs_append]
  refine Reps.append ?_ ?_
  ·refine (Rep.keep fun x o hx ho=>⟨⟨hx.1,fun e=>?_⟩,?_⟩).2 _ _ h.rep
   ·exact keep x o ho hx.2 (by have:=hx.1;omega)
   ·rcases hg7 x e with e' | e'
    ·exact hx.2 e'
    ·have:=lt_of_heap ho;omega
  ·have e1:encTrs [t]=encTr t:=by simp [encTrs]
   rw [e1]
   refine (Rep.keep fun x o hx ho=>⟨⟨by have:=hx;omega,fun e=>?_⟩,?_⟩).2 _ _ hcs
   ·exact keep6 x o ho (fun e=>by have:=ltK x e;have:=hx;omega) (by have:=hx;omega)
   ·rcases hg7 x e with e' | e'
    ·have:=ltK x e';have:=hx;omega
    ·have:=lt_of_heap ho;omega
set_option maxRecDepth 100000 in
set_option maxHeartbeats 2000000 in
theorem l5Read_plain (l:Bs) (hl:Lim l.length) (e d:Nat) (hed:e+d=101) (i:Nat) (w:World) (hi:i≤l.length) (hno:∀ h:i<l.length,e=0∨¬ l[i]=40) :
 Calls Tryz.prog 38 #[str l,.int .i64 i,.int .i64 d] w (TrPost l.length w (rdTr e (l.drop i))):=by
 have hl':=hl.le
 rcases e with _ | e
 ·have hd1:(100:Int)<(d:Int):=by omega
  clear hno
  go_enter Tryz.func38,Tryz.ntmps38
  go_wp2_with fail
  refine bodyPost_ret (v:=.tuple #[.agg #[str [],.slice none 0 0],.int .i64 (-1)]) (by simp [results,Tryz.results38,go_sem]) rfl ?_
  exact TrPost.no (by rfl) (((Below.refl _ _).alloc (Nat.le_refl _) _).alloc (by simp) _)
 have hd0:¬ (100:Int)<(d:Int):=by omega
 by_cases hlt:i<l.length
 rotate_left
 ·clear hno
  go_enter Tryz.func38,Tryz.ntmps38
  go_wp2_with fail
  refine bodyPost_ret (v:=.tuple #[.agg #[str [],.slice none 0 0],.int .i64 (-1)]) (by simp [results,Tryz.results38,go_sem]) rfl ?_
  exact TrPost.no (by rw [List.drop_eq_nil_of_le (by omega)];rfl) (((Below.refl _ _).alloc (Nat.le_refl _) _).alloc (by simp) _)
 have h40:¬ l[i]=40:=(hno hlt).resolve_left (by omega)
 clear hno
 have hdc:=List.drop_eq_getElem_cons hlt
 have hm:rdTr (e+1) (l.drop i)=if wordOf (l.drop i)=[] then none else some (.am (wordOf (l.drop i)),wordRest (l.drop i)):=by rw [hdc];exact rdTr_atom e _ _ h40
 have hwl:=word_le (l.drop i)
 rw [List.length_drop] at hwl
 have hx:(l.take (i+(wordOf (l.drop i)).length)).drop i=wordOf (l.drop i):=by
  rw [List.drop_take,Nat.add_sub_cancel_left];exact word_take _
 have hin:∀ j,j<(wordOf (l.drop i)).length→∃ h:i+j<l.length,sep l[i+j]=false:=fun j hj=>by
  obtain ⟨h1,h2⟩:=word_in hj
  rw [List.length_drop] at h1
  rw [List.getElem_drop] at h2
  exact ⟨by omega,h2⟩
 have hout:l.length≤i+(wordOf (l.drop i)).length∨∃ h:i+(wordOf (l.drop i)).length<l.length,sep l[i+(wordOf (l.drop i)).length]=true:=by
  by_cases h:i+(wordOf (l.drop i)).length<l.length
  ·right
   refine ⟨h,?_⟩
   have:=word_out (m:=l.drop i) (by rw [List.length_drop];omega)
   rw [List.getElem_drop] at this
   exact this
  ·left;omega
 have hrest:(wordRest (l.drop i)).length+(i+(wordOf (l.drop i)).length)=l.length:=by omega
 obtain ⟨wd,hwd⟩:∃ x,x=wordOf (l.drop i):=⟨_,rfl⟩
 rw [← hwd] at hm hx hin hout hrest hwl
 have HM:=Lib.hid (And.intro hm (And.intro hin (And.intro hout (And.intro hx hrest))))
 have f4:=byte_no2 hlt (n:=40) (by decide) h40
 have hil:i+wd.length≤l.length:=by omega
 clear h40 hdc hm hx hin hout hwd hwl hrest
 go_enter Tryz.func38,Tryz.ntmps38
 go_wp2_with fail
 clear f4
 go_loop [1] (fun a=>∃ j:Nat,j≤wd.length∧a=.int .i64 ((i+j:Nat):Int)) (fun a=>i+wd.length-(intOf a).toNat)
 case atStart=>exact ⟨0,Nat.zero_le _,by simp⟩
 case round =>
  obtain ⟨j,hj,rfl⟩:=hrel
  by_cases hjl:j<wd.length
  ·obtain ⟨hij,hs⟩:=HM.out.2.1 j hjl
   have hs3:¬ l[i+j]=32∧¬ l[i+j]=40∧¬ l[i+j]=41:=by
    simp only [sep,Bool.or_eq_false_iff,beq_eq_false_iff_ne] at hs
    exact ⟨hs.1.1,hs.1.2,hs.2⟩
   have f1:=byte_no2 hij (n:=32) (by decide) hs3.1
   have f2:=byte_no2 hij (n:=40) (by decide) hs3.2.1
   have f3:=byte_no2 hij (n:=41) (by decide) hs3.2.2
   clear hs hs3
   go_wp2_with fail
   go_round
   case rel=>exact ⟨j+1,by omega,by go_num⟩
   case measure=>simp [intOf];omega
  ·obtain rfl:j=wd.length:=by omega
   have hcase:l.length≤i+wd.length∨(∃ h:i+wd.length<l.length,((((⟨l.toArray⟩:ByteArray)[i+wd.length]'(lt_str h)).toNat:Int) != 32)=false) ∨
    (∃ h:i+wd.length<l.length,((((⟨l.toArray⟩:ByteArray)[i+wd.length]'(lt_str h)).toNat:Int) != 32)=true∧((((⟨l.toArray⟩:ByteArray)[i+wd.length]'(lt_str h)).toNat:Int) != 40)=false) ∨
    (∃ h:i+wd.length<l.length,((((⟨l.toArray⟩:ByteArray)[i+wd.length]'(lt_str h)).toNat:Int) != 32)=true∧((((⟨l.toArray⟩:ByteArray)[i+wd.length]'(lt_str h)).toNat:Int) != 40)=true∧((((⟨l.toArray⟩:ByteArray)[i+wd.length]'(lt_str h)).toNat:Int) != 41)=false):=by
    rcases HM.out.2.2.1 with h | ⟨h,hs⟩
    ·exact .inl h
    ·right
     simp only [sep,Bool.or_eq_true,beq_iff_eq] at hs
     rcases hs with (hs | hs) | hs
     ·exact .inl ⟨h,byte_yes2 h (n:=32) (by decide) hs⟩
     ·exact .inr (.inl ⟨h,byte_no2 h (c:=32) (n:=32) (by decide) (by rw [hs];decide),byte_yes2 h (n:=40) (by decide) hs⟩)
     ·exact .inr (.inr ⟨h,byte_no2 h (c:=32) (n:=32) (by decide) (by rw [hs];decide),byte_no2 h (c:=40) (n:=40) (by decide) (by rw [hs];decide),byte_yes2 h (n:=41) (by decide) hs⟩)
   have hx:((⟨l.toArray⟩:ByteArray).extract i (i+wd.length))=⟨wd.toArray⟩:=by rw [ext_str,HM.out.2.2.2.1]
   by_cases h0:wd=[]
   ·subst h0
    have HN:=Lib.hid (show rdTr (e+1) (l.drop i)=none by rw [HM.out.1,if_pos rfl])
    simp only [List.length_nil,Nat.add_zero] at hcase hx hil ⊢
    clear hjl hj
    rcases hcase with h | ⟨h,f1⟩ | ⟨h,f1,f2⟩ | ⟨h,f1,f2,f3⟩
    ·omega
    all_goals
     go_wp2_with fail
     refine bodyPost_ret (v:=.tuple #[.agg #[.string ByteArray.empty,.slice none 0 0],.int .i64 (-1)]) (by simp [results,Tryz.results38,go_sem]) rfl ?_
     exact TrPost.no (s:=[]) HN.out (((Below.refl _ _).alloc (Nat.le_refl _) _).alloc (by simp) _)
   ·have hne:(wd == [])=false:=by rw [beq_eq_false_iff_ne];exact h0
    have hne2:wd.isEmpty=false:=by rw [List.isEmpty_eq_false_iff];exact h0
    have HN:=Lib.hid (show rdTr (e+1) (l.drop i)=some (.am wd,wordRest (l.drop i)) by rw [HM.out.1,if_neg h0])
    have fin:∀ W:World,Below w.heap.size w W→TrPost l.length w (rdTr (e+1) (l.drop i)) (.returned (.tuple #[.agg #[str wd,.slice none 0 0],.int .i64 ((i:Int)+(wd.length:Int))])) W:=fun W hb =>
     TrPost.yes HN.out (by have:=HM.out.2.2.2.2;omega) hb (by
      rw [encTr]
      exact Reps_cons.2 ⟨_,_,rfl,Rep_val.2 rfl,Reps_cons.2 ⟨_,_,rfl,Rep_sl.2 ⟨rfl,none,0,rfl,Nat.le_refl _,fun _=>rfl,.inl rfl⟩,Reps_nil.2 rfl⟩⟩)
    have FIN:=Lib.hid fin
    clear fin h0 hjl hj
    rcases hcase with h | ⟨h,f1⟩ | ⟨h,f1,f2⟩ | ⟨h,f1,f2,f3⟩
    all_goals
     go_wp2_with fail
     refine bodyPost_ret (v:=.tuple #[.agg #[str wd,.slice none 0 0],.int .i64 ((i:Int)+(wd.length:Int))]) (by simp [results,Tryz.results38,go_sem]) rfl ?_
     exact FIN.out _ (((Below.refl _ _).alloc (Nat.le_refl _) _).alloc (by simp) _)
theorem NewTr.alloc {ob:Nat} {s:Bs} {sl:Value} {w:World} (h:NewTr ob s sl w) (o:Obj):NewTr ob s sl (w.alloc o):=heap_past h
set_option maxRecDepth 100000 in
set_option maxHeartbeats 4000000 in
theorem l5Read_open (l:Bs) (hl:Lim l.length) (e d:Nat) (hed:e+1+d=101) (ih:TrSaid l e) (i0:Nat) (w:World) (hi:i0<l.length) (h40:l[i0]=40) :
 Calls Tryz.prog 38 #[str l,.int .i64 i0,.int .i64 d] w (TrPost l.length w (rdTr (e+1) (l.drop i0))):=by
 have hl':=hl.le
 have IH:=Lib.hid ih;clear ih
 have hd0:¬ (100:Int)<(d:Int):=by omega
 have hm:rdTr (e+1) (l.drop i0)=(rdAll e (l.drop (i0+1))).map fun y=>(.ls y.1,y.2):=by
  rw [List.drop_eq_getElem_cons hi,h40,rdTr_all]
 have HM:=Lib.hid hm;clear hm
 have f4:=byte_yes2 hi (n:=40) (by decide) h40
 clear h40
 go_enter Tryz.func38,Tryz.ntmps38
 go_wp2_with fail
 clear f4
 have hst0:TreeSt w (w.heap.size+1) (w.heap.size+2) ((w.alloc (.cells #[str [],.slice none 0 0] 28)).alloc (.cells #[str [],.slice none 0 0] 28)) [] [] (.slice none 0 0):=by
  refine ⟨((Below.refl _ _).alloc (Nat.le_refl _) _).alloc (by simp) _,?_,?_,World.ownsRow_nil _ _ _ _,fun g h=>by simp [Value.ownBlock] at h,Reps_nil.2 rfl,by simp⟩
  ·exact heap_past (heap_new _ _)
  ·have:=heap_new (w.alloc (.cells #[str [],.slice none 0 0] 28)) (.cells #[str [],.slice none 0 0] 28)
   rw [size_alloc] at this;exact this
 go_loopw [1] (fun a wr=>∃ (i:Nat) (ps:List Tr) (vs:List Value) (sa:Option Addr) (sc:Nat),a=.int .i64 i∧i<l.length∧ps.length≤i∧(rdAll e (l.drop (i0+1))=(rdAll e (l.drop (i+1))).map fun y=>(ps++y.1,y.2))∧TreeSt w (w.heap.size+1) (w.heap.size+2) wr ps vs (.slice sa ps.length sc)) (fun a _=>l.length-(intOf a).toNat)
 case atStart=>exact ⟨i0,[],[],none,0,rfl,hi,Nat.zero_le _,by simp,hst0⟩
 case round =>
  clear hst0
  rename_i wr
  obtain ⟨i,ps,vs,sa,sc,rfl,hil,hpl,hsp,hst⟩:=hrel
  have HSP:=Lib.hid hsp;clear hsp
  have HST:=Lib.hid hst;clear hst
  have C:=Lib.hid (IH.out (d+1) (i+1) wr (by omega) hil)
  go_wp2_with fail
  rw [show (i:Int)+1=((i+1:Nat):Int) from by omega,show (d:Int)+1=((d+1:Nat):Int) from by omega]
  (with_reducible refine C.out.mono ?_)
  rintro en6 w6 ⟨s6,a6,n6,c6,k6,rfl,hb6,hn6,hy6⟩
  have z6:=hb6.size
  have zr:=HST.out.z
  have hres6:=HST.out.res.below hb6 (by omega)
  have hout6:=HST.out.out.below hb6 (by omega)
  have hbw6:=HST.out.below.trans (hb6.mono HST.out.below.size)
  obtain ⟨r0,r1,rl6,rf⟩:=hres6.cells
  obtain ⟨q0,q1,ql6,qf⟩:=hout6.cells
  have rf0:=rf 0;have rf1:=rf 1;clear rf
  have qf0:=qf 0;have qf1:=qf 1;clear qf
  have Q:=Lib.hid (And.intro hb6 (And.intro hres6 (And.intro hout6 hbw6)));clear hb6 hres6 hout6 hbw6 C
  have hal:=rdAll_eq e (l.drop (i+1))
  cases hq:rdTr e (l.drop (i+1)) with
  | none =>
    obtain rfl:=hn6 hq
    have HN:=Lib.hid (show rdTr (e+1) (l.drop i0)=none by rw [HM.out,HSP.out,hal,hq];rfl)
    clear hal hq hn6 hy6
    go_wp2_with fail
    obtain ⟨W,hW,s0,s1,hbW,_⟩:=Q.out.2.1.store (.string ⟨#[]⟩) (.slice sa ps.length sc)
    rw [← hW]
    refine bodyPost_ret (v:=.tuple #[.agg #[str [],.slice sa ps.length sc],.int .i64 (-1)]) (by simp [results,Tryz.results38,go_sem,cell_alloc s0,cell_alloc s1]) rfl ?_
    exact TrPost.no HN.out ((hbW _ _ Q.out.2.2.2 (Nat.le_refl _)).alloc (hbW _ _ Q.out.2.2.2 (Nat.le_refl _)).size _)
  | some x =>
    obtain ⟨t,rest⟩:=x
    obtain ⟨rfl,hc6⟩:=hy6 _ _ hq
    have hsf:=suffix_drop (rdTr_suffix hq)
    have hsh:=rdTr_shrinks e _ _ _ hq
    rw [List.length_drop] at hsh
    have hrl:rest.length≤l.length:=by omega
    obtain ⟨en2,he2⟩:∃ en2,en2=l.length-rest.length:=⟨_,rfl⟩
    rw [← he2] at hsf
    have hk2:(l.length:Int)-(rest.length:Int)=(en2:Int):=by omega
    rw [hk2]
    have hen2:i+1<en2∧en2≤l.length:=by omega
    subst hsf
    rw [hq,Option.bind_some] at hal
    simp only at hal
    have HAL:=Lib.hid hal;have HC6:=Lib.hid hc6
    clear hal hc6 hq hn6 hy6 hk2 he2 hrl hsh
    by_cases hend:en2=l.length
    ·have HN:=Lib.hid (show rdTr (e+1) (l.drop i0)=none by rw [HM.out,HSP.out,HAL.out,List.drop_eq_nil_of_le (by omega)];rfl)
     have g1:(l.length:Int)≤(en2:Int):=by omega
     have g0:¬ (en2:Int)<0:=by omega
     go_wp2_with fail
     obtain ⟨W,hW,s0,s1,hbW,_⟩:=Q.out.2.1.store (.string ⟨#[]⟩) (.slice sa ps.length sc)
     rw [← hW]
     refine bodyPost_ret (v:=.tuple #[.agg #[str [],.slice sa ps.length sc],.int .i64 (-1)]) (by simp [results,Tryz.results38,go_sem,cell_alloc s0,cell_alloc s1]) rfl ?_
     exact TrPost.no HN.out ((hbW _ _ Q.out.2.2.2 (Nat.le_refl _)).alloc (hbW _ _ Q.out.2.2.2 (Nat.le_refl _)).size _)
    have hlt2:en2<l.length:=by omega
    have g1:¬ (l.length:Int)≤(en2:Int):=by omega
    have g0:¬ (en2:Int)<0:=by omega
    have hlps:ps.length≤16777216:=by omega
    clear hend
    go_wp2_with (at_builtin;refine wpList_append_gen rfl _ _ 26 rfl 28 (.agg #[str [],.slice none 0 0]) 2 40 Tryz.underlying26 Tryz.infoTr rfl (by decide) (.slice sa ps.length sc) ps.length vs rfl ?c1 _ 1 [str s6,.slice a6 n6 c6] rfl ?c2 ?c3 ?c4 ?_)
    case c1 =>
     refine (HST.out.own.keep fun g o hg ho=>?_).alloc _ |>.alloc _
     rw [Q.out.1.block g (lt_of_heap ho)];exact ho
    case c2=>exact SrcSl.lit2 #[str s6,.slice a6 n6 c6] rfl (by simp [str,Value.oneCell']) _ (by simp)
    case c3=>unfold maxLen;omega
    case c4=>omega
    intro a' c' w7 ho7 hb7 hg7
    have hW:Below wr.heap.size wr ((w6.alloc (.cells #[str s6,.slice a6 n6 c6] 28)).alloc (.cells #[str s6,.slice a6 n6 c6] 28)):=(Q.out.1.alloc Q.out.1.size _).alloc (by have:=Q.out.1.size;simp;omega) _
    have hC:Reps (wr.heap.size≤·) ((w6.alloc (.cells #[str s6,.slice a6 n6 c6] 28)).alloc (.cells #[str s6,.slice a6 n6 c6] 28)) (encTr t) [str s6,.slice a6 n6 c6] :=
     (Rep.keep fun i o hi ho=>⟨hi,heap_past (heap_past ho)⟩).2 _ _ HC6.out
    have hA:=HST.out.next (by omega) (show w.heap.size<w.heap.size+1 by omega) hW hC ho7 hb7 (fun g hg=>by simpa only [size_alloc] using hg7 g hg)
    have z7:=hb7.size
    rw [size_alloc,size_alloc] at z7
    have hcell7:w7.cell? ⟨w.heap.size+1,1,none⟩=some (.slice sa ps.length sc):=by
     rw [hb7.cell (by simp only [size_alloc];omega) (fun e=>by have h:w.heap.size+2≤w.heap.size+1:=HST.out.blk _ e;omega)]
     exact cell_alloc (cell_alloc q1)
    have hout7:NewTr (w.heap.size+1) [] (.slice sa ps.length sc) w7:=by
     unfold NewTr
     rw [hb7.block _ (by simp only [size_alloc];omega) (fun e=>by have h:w.heap.size+2≤w.heap.size+1:=HST.out.blk _ e;omega)]
     exact heap_past (heap_past Q.out.2.2.1)
    obtain ⟨p0,p1,pl7,pf⟩:=hout7.cells
    have pf1:=pf 1
    clear pf q0 q1 qf0 qf1 r0 r1 rf0 rf1 ql6 rl6
    have HA:=Lib.hid (And.intro hA hout7);clear hA hW hC ho7 hb7 hg7 hout7 hcell7
    have hdc:=List.drop_eq_getElem_cons hlt2
    rw [hdc] at HAL
    obtain ⟨r0,r1,rl8,rf⟩:=HA.out.1.res.cells
    have rf0:=rf 0;have rf1:=rf 1;clear rf hdc
    by_cases h41:l[en2]=41
    ·have f1:=byte_yes hlt2 (n:=41) (by decide) h41
     have HY:=Lib.hid (show rdTr (e+1) (l.drop i0)=some (.ls (ps++[t]),l.drop (en2+1)) by
      rw [HM.out,HSP.out,HAL.out];simp only [if_pos h41,Option.map_some])
     clear h41
     go_wp2_with fail
     obtain ⟨W,hW,s0,s1,hbW,hkW⟩:=HA.out.1.res.store (.string ⟨#[]⟩) (.slice a' (ps.length+1) c')
     rw [← hW]
     refine bodyPost_ret (v:=.tuple #[.agg #[str [],.slice a' (ps.length+1) c'],.int .i64 ((en2:Int)+1)]) (by simp [results,Tryz.results38,go_sem,s0,s1]) rfl ?_
     have hst:=HA.out.1
     refine TrPost.yes (s:=[]) HY.out (by rw [List.length_drop];omega) (hbW _ _ hst.below (Nat.le_refl _)) ?_
     rw [encTr]
     refine Reps_cons.2 ⟨_,_,rfl,Rep_val.2 rfl,Reps_cons.2 ⟨_,_,rfl,?_,Reps_nil.2 rfl⟩⟩
     rw [show ps.length+1=(ps++[t]).length from by simp] at hst hkW ⊢
     refine (hst.own.keep fun g o hg ho=>hkW g o (by have:=hst.blk g hg;omega) ho).rep (fun g hg=>by have:=hst.blk g hg;omega) ?_
     exact (Rep.keep fun x o hx ho=>⟨by have:=hx.1;omega,hkW x o (by have:=hx.1;omega) ho⟩).2 _ _ hst.rep
    have f1:=byte_no hlt2 (n:=41) (by decide) h41
    by_cases h32:l[en2]=32
    ·have f2:=byte_yes2 hlt2 (n:=32) (by decide) h32
     have HY:=Lib.hid (show rdAll e (l.drop (i0+1))=(rdAll e (l.drop (en2+1))).map fun y=>((ps++[t])++y.1,y.2) by
      rw [HSP.out,HAL.out];simp only [if_neg h41,if_pos h32,Option.map_map];congr 1;funext y;simp)
     clear h41 h32
     go_wp2_with fail
     go_roundw
     case rel=>exact ⟨en2,ps++[t],vs++[str s6,.slice a6 n6 c6],a',c',rfl,hlt2,by simp;omega,HY.out,by simpa using HA.out.1⟩
     case measure=>simp [intOf];omega
    ·have f2:=byte_no2 hlt2 (n:=32) (by decide) h32
     have HN:=Lib.hid (show rdTr (e+1) (l.drop i0)=none by rw [HM.out,HSP.out,HAL.out];simp only [if_neg h41,if_neg h32];rfl)
     clear h41 h32
     go_wp2_with fail
     obtain ⟨W,hW,s0,s1,hbW,hkW⟩:=HA.out.1.res.store (.string ⟨#[]⟩) (.slice a' (ps.length+1) c')
     rw [← hW]
     refine bodyPost_ret (v:=.tuple #[.agg #[str [],.slice a' (ps.length+1) c'],.int .i64 (-1)]) (by simp [results,Tryz.results38,go_sem,s0,s1]) rfl ?_
     exact TrPost.no HN.out (hbW _ _ HA.out.1.below (Nat.le_refl _))
theorem l5Read_any (l:Bs) (hl:Lim l.length):∀ e,e≤101→TrSaid l e
 | 0,h=>fun d i w hed hi=>l5Read_plain l hl 0 d hed i w hi (fun _=>.inl rfl)
 | e+1,h=>fun d i w hed hi=>by
   by_cases h40:∃ hlt:i<l.length,l[i]=40
   ·obtain ⟨hlt,h40⟩:=h40
    exact l5Read_open l hl e d hed (l5Read_any l hl e (by omega)) i w hlt h40
   ·exact l5Read_plain l hl (e+1) d hed i w hi (fun hlt=>.inr fun h=>h40 ⟨hlt,h⟩)
end Go.Proofs.YtapjaflnmklmeaaGreatDoor

import Derived.Test.YtapjaflnmklmeaaGreatDoorP8
/- The walk of the reference's writer of types. -/
namespace Go.Proofs.YtapjaflnmklmeaaGreatDoor
open Go.RowKit
def TextSSaid (t:Ty):Prop:=∀ (F:Nat→Prop) (w:World) (v:Value),Rep F w (encS t) v →
 Calls Tryz.prog 29 #[.agg #[v]] w fun en w'=>en=.returned (str (textT t))∧Below w.heap.size w w'
theorem textT_drop {ts:List Ty} {k:Nat} {t:Ty} (h:ts[k]? = some t):textT (.mk (ts.drop k))=((([40,62,32]++textT t)++[32])++textT (.mk (ts.drop (k+1))))++[41]:=by
 have hk:=(List.getElem?_eq_some_iff.1 h).1
 have e:ts[k]=t:=(List.getElem?_eq_some_iff.1 h).2
 rw [List.drop_eq_getElem_cons hk,textT_cons,e]
 simp
theorem atomsT_drop (ts:List Ty) (k:Nat):atomsT (.mk (ts.drop k))≤atomsT (.mk ts):=by
 have:=atomsTs_append (ts.take k) (ts.drop k)
 rw [List.take_append_drop] at this
 simp only [atomsT];omega
set_option maxHeartbeats 2000000 in
theorem l1Text_step (t:Ty) (hl:atomsT t≤1000) (ih:∀ t',atomsT t'<atomsT t→TextSSaid t'):TextSSaid t:=by
 intro F w v hv
 rw [encS_eq] at hv
 obtain ⟨a,cap,e,_,hlen,hat⟩:=Rep_sl1_open hv
 subst e
 have IH:=Lib.hid ih;clear ih
 have AT:=Lib.hid hat;clear hat hlen hv
 have hE:=atomsT_mk t
 have hlb:t.args.length≤1000:=by have:=length_le_atomsTs t.args;omega
 have E1:=Lib.hid hE;clear hE
 have HT:Hid (t=.mk t.args):=by show t=_;cases t;rfl
 go_enter Tryz.func29,Tryz.ntmps29
 go_wp2_with fail
 go_loopw [3,4] (fun o i wr=>∃ k:Nat,k≤t.args.length∧i=.int .i64 ((k:Int)-1)∧o=str (textT (.mk (t.args.drop k)))∧Below w.heap.size w wr∧wr.cell? ⟨w.heap.size,0,none⟩=some (.slice a t.args.length cap)) (fun _ i _=>(intOf i+1).toNat)
 case atStart=>exact ⟨t.args.length,Nat.le_refl _,rfl,by rw [List.drop_length,textT_nil],(Below.refl _ _).alloc (Nat.le_refl _) _,by simp⟩
 case round =>
  obtain ⟨k,hk,rfl,rfl,hb,hc⟩:=hrel
  cases k with
  | succ k =>
    have hge:(0:Int)≤((k+1:Nat):Int)-1:=by omega
    have hki:((k+1:Nat):Int)-1=(k:Int):=by omega
    have hlt:k<t.args.length:=by omega
    have hlt':(k:Int)<(t.args.length:Int):=by omega
    obtain ⟨b',o,u,d,eb,_,hb',hd,hu,hr⟩:=AT.out k hlt
    subst eb
    rw [encSs_at,Option.map_eq_some_iff] at hd
    obtain ⟨t',ht',rfl⟩:=hd
    obtain ⟨ua,uc,rfl⟩:=encS_slice hr
    have hu':wr.cell? ⟨b',o+k,none⟩=some (.slice ua t'.args.length uc):=by rw [hb.cell hb'];exact hu
    have hr':=Rep.below (F':=F) hb (fun _ h=>h) hr
    have hs:=atomsTs_take ht'
    have hle:=atomsTs_take_le t.args (k+1)
    have hat':=E1.out
    have IH':=Lib.hid (IH.out t' (by omega))
    have l1:=textT_length 1000 t' (by omega)
    have d1:=atomsT_drop t.args (k+1)
    rw [← HT.out] at d1
    have l2:=textT_length 1000 (.mk (t.args.drop (k+1))) (by omega)
    have hx:=textT_drop ht'
    obtain ⟨X,hX⟩:∃ X,textT t'=X:=⟨_,rfl⟩
    rw [hX] at hx l1
    have HX:=Lib.hid hx
    have HXX:=Lib.hid hX
    clear hx hX
    generalize textT (.mk (t.args.drop (k+1)))=R at *
    obtain ⟨O1,h1⟩:∃ x,x=[40,62,32]++X:=⟨_,rfl⟩
    obtain ⟨O2,h2⟩:∃ x,x=O1++[32]:=⟨_,rfl⟩
    obtain ⟨O3,h3⟩:∃ x,x=O2++R:=⟨_,rfl⟩
    obtain ⟨O4,h4⟩:∃ x,x=O3++[41]:=⟨_,rfl⟩
    have m1:O1.length=X.length+3:=by rw [h1];simp
    have m2:O2.length=O1.length+1:=by rw [h2];simp
    have m3:O3.length=O2.length+R.length:=by rw [h3];simp
    have hadd1:=fun w0=>add_str (P:=Tryz.prog) [40,62,32] X (by simp;omega) w0
    have hadd2:=fun w0=>add_str (P:=Tryz.prog) O1 [32] (by simp;omega) w0
    have hadd3:=fun w0=>add_str (P:=Tryz.prog) O2 R (by omega) w0
    have hadd4:=fun w0=>add_str (P:=Tryz.prog) O3 [41] (by simp;omega) w0
    have H4:Hid (textT (.mk (t.args.drop k))=O4):=by show _=_;rw [HX.out,h4,h3,h2,h1]
    rw [← h1] at hadd1;rw [← h2] at hadd2;rw [← h3] at hadd3;rw [← h4] at hadd4
    have hz:=World.block_lt_of_cell? wr _ hc
    rw [hki]
    clear hs ht' hat' hu hr l1 l2 d1 h1 h2 h3 h4 m1 m2 m3 hle hki hge
    go_wp2_with fail
    refine (IH'.out _ _ _ hr').mono ?_
    rintro en w2 ⟨rfl,hb2⟩
    rw [HXX.out]
    have hb3:=hb.trans (hb2.mono hb.size)
    have hc2:w2.cell? ⟨w.heap.size,0,none⟩=some (.slice (some ⟨b',o,none⟩) t.args.length cap):=by rw [hb2.cell hz];exact hc
    go_wp2_with fail
    go_roundw
    case rel=>exact ⟨k,by omega,rfl,by rw [H4.out],hb3,hc2⟩
    case measure=>simp [intOf]
  | zero =>
    have hge:¬ (0:Int)≤((0:Nat):Int)-1:=by omega
    go_wp2_with fail
    go_ret
    refine ⟨?_,hb⟩
    have e:textT (.mk t.args)=textT t:=by rw [← HT.out]
    show Ending.returned (str (textT (.mk t.args)))=_
    rw [e]
theorem l1Text_any (n:Nat):∀ t,atomsT t≤n→n≤1000→TextSSaid t:=by
 induction n with
 | zero=>intro t h _;have:=atomsT_pos t;omega
 | succ n ih=>exact fun t h hn=>l1Text_step t (by omega) (fun t' h'=>ih t' (by omega) (by omega))
end Go.Proofs.YtapjaflnmklmeaaGreatDoor
namespace Go.Proofs.YtapjaflnmklmeaaGreatDoor
open Go.RowKit
def StrsAt (w:World) (a:Option Addr) (xs:List Bs):Prop:=∀ (k:Nat) (s:Bs),xs[k]? = some s→∃ b o,a=some ⟨b,o,none⟩∧w.cell? ⟨b,o+k,none⟩=some (str s)
theorem StrsAt.below {w w':World} {a:Option Addr} {xs:List Bs} (h:StrsAt w a xs) (hb:Below w.heap.size w w'):StrsAt w' a xs:=fun k s hs=>by
 obtain ⟨b,o,e,hc⟩:=h k s hs
 exact ⟨b,o,e,(hb.cell (World.block_lt_of_cell? w _ hc)).trans hc⟩
end Go.Proofs.YtapjaflnmklmeaaGreatDoor

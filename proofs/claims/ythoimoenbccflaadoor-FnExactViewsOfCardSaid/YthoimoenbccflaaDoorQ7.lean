/- Walks of functions that the statement reaches, and plain words. No conditions. -/
import Derived.Laws.IdiomStrings
import Derived.Test.YthoimoenbccflaaDoorQ5
set_option linter.unusedVariables false
set_option linter.unusedSimpArgs false
set_option maxHeartbeats 2000000
namespace Go.Proofs.YthoimoenbccflaaDoor
open Go.RowKit
theorem conv_one {W:World} {g r:Nat} (hr:r<10) (h:W.cell? ⟨g,0,none⟩=some (.int .u8 (48+(r:Int)))) :
 (convert 93 9 (.slice (some ⟨g,0,none⟩) 1 1)).run Tryd.prog W=.ok (str [digit r]) W:=by
 refine run_convert_bytes_back (P:=Tryd.prog) W 93 9 5 ⟨g,0,none⟩ 1 [digit r] Tryd.underlying93 Tryd.underlying5 Tryd.underlying9 (fun j hj=>?_)
 have hj0:j=0:=by simpa using hj
 subst hj0
 have e:(digit r).toNat=48+r:=by rw [digit,UInt8.toNat_ofNat'];exact Nat.mod_eq_of_lt (by omega)
 show W.cell? ((⟨g,0,none⟩:Addr).add 0)=some (.int .u8 ((digit r).toNat:Int))
 rw [e]
 have e2:((48+r:Nat):Int)=48+(r:Int):=by omega
 rw [e2];exact h
theorem conv_new {r:Nat} (hr:r<10) (w:World):(convert 93 9 (.slice (some ⟨w.heap.size,0,none⟩) 1 1)).run Tryd.prog (w.alloc (.cells #[.int .u8 (48+(r:Int))] 5))=.ok (str [digit r]) (w.alloc (.cells #[.int .u8 (48+(r:Int))] 5)) :=
 conv_one hr (by simp)
theorem conv_newd {r:Nat} (hr:r<10) (w:World):(convert 93 9 (.slice (some ⟨w.heap.size,0,none⟩) 1 1)).run Tryd.prog (w.alloc (.cells #[.int .u8 (48+(r:Int))] 5)).drew=.ok (str [digit r]) (w.alloc (.cells #[.int .u8 (48+(r:Int))] 5)).drew :=
 conv_one hr (show (w.alloc (.cells #[.int .u8 (48+(r:Int))] 5)).cell? _=_ by simp)
theorem conv_kept {r:Nat} (hr:r<10) {w W:World} (hb:Below (w.alloc (.cells #[.int .u8 (48+(r:Int))] 5)).drew.heap.size (w.alloc (.cells #[.int .u8 (48+(r:Int))] 5)).drew W) :
 (convert 93 9 (.slice (some ⟨w.heap.size,0,none⟩) 1 1)).run Tryd.prog W=.ok (str [digit r]) W :=
 conv_one hr ((hb.cell (show w.heap.size<(w.alloc (.cells #[.int .u8 (48+(r:Int))] 5)).heap.size by simp)).trans (show (w.alloc (.cells #[.int .u8 (48+(r:Int))] 5)).cell? _=_ by simp))
set_option maxRecDepth 100000 in
theorem l6Dec_small (n:Nat) (hn:n<10) (w:World):Calls Tryd.prog 25 #[.int .i64 (n:Nat)] w fun en w'=>en=.returned (str (dec n))/\Below w.heap.size w w':=by
 have hn':(n:Int)<10:=by omega
 have e:=Lib.hid (dec_small hn)
 have hcv:=conv_new hn w
 go_enter Tryd.func25,Tryd.ntmps25
 go_wp2_with fail
 go_ret
 exact ⟨by rw [e.out];rfl,(Below.refl _ _).alloc (Nat.le_refl _) _⟩
theorem size_alloc_le (w:World) (o:Obj):w.heap.size<=(w.alloc o).drew.heap.size:=by
 show w.heap.size<=(w.alloc o).heap.size
 rw [size_alloc];omega
set_option maxRecDepth 100000 in
theorem l6Dec_step (n:Nat) (hn:¬ n<10) (hl:n<=16777216) (ih:∀ w,Calls Tryd.prog 25 #[.int .i64 ((n / 10:Nat):Int)] w fun en w'=>en=.returned (str (dec (n / 10)))/\Below w.heap.size w w') (w:World) :
 Calls Tryd.prog 25 #[.int .i64 (n:Nat)] w fun en w'=>en=.returned (str (dec n))/\Below w.heap.size w w':=by
 have IH:=Lib.hid ih;clear ih
 have hn':¬ (n:Int)<10:=by omega
 have e:=Lib.hid (dec_great hn)
 have q1:(n:Int).tdiv 10=((n / 10:Nat):Int):=tdiv_nat n 10
 have q2:(n:Int).tmod 10=((n % 10:Nat):Int):=tmod_nat n 10
 have hR:n % 10<10:=Nat.mod_lt _ (by omega)
 have hQ:n / 10<=16777216:=Nat.le_trans (Nat.div_le_self _ _) hl
 have hD:(dec (n / 10)).length<=8:=dec_length 7 (n / 10) (by omega)
 generalize n % 10=R at *
 generalize n / 10=Q at *
 have q3:IntKind.i64.wrap (Q:Int)=(Q:Int):=wrap_nat Q (by omega)
 have q4:IntKind.i64.wrap (48+(R:Int))=48+(R:Int):=by rw [show (48:Int)+R=((48+R:Nat):Int) from by omega];exact wrap_nat _ (by omega)
 have q5:IntKind.u8.wrap (48+(R:Int))=48+(R:Int):=by simp [IntKind.wrap,IntKind.bits,IntKind.signed];omega
 have HR:=Lib.hid hR
 have hadd:=fun w0=>add_str (P:=Tryd.prog) (dec Q) [digit R] (by simp;omega) w0
 have hcv:=conv_newd hR w
 have hcv0:=fun w0=>conv_new hR w0
 go_enter Tryd.func25,Tryd.ntmps25
 go_wp2_with fail
 go_region_with (first
  | (go_at_call 25;refine (IH.out (w.alloc (.cells #[.int .u8 (48+(R:Int))] 5)).drew).mono ?_;rintro en w2 ⟨rfl,hb2⟩;have hcv2:=conv_kept HR.out hb2;have hbb:=Below.trans (((Below.refl w.heap.size w).alloc (Nat.le_refl _) (.cells #[.int .u8 (48+(R:Int))] 5)).drew) (hb2.mono (size_alloc_le w _)))
  | (go_at_call 25;refine (IH.out w.drew).mono ?_;rintro en w2 ⟨rfl,hb2⟩;have hbb:=Below.trans ((Below.refl w.heap.size w).drew) hb2))
 all_goals
  go_wp2_with fail
  go_ret
  refine ⟨by rw [e.out];rfl,?_⟩
  first
   | exact hbb
   | exact hbb.alloc hbb.size _
theorem l6Dec_any (n:Nat):n<=16777216->∀ w,Calls Tryd.prog 25 #[.int .i64 (n:Nat)] w fun en w'=>en=.returned (str (dec n))/\Below w.heap.size w w':=by
 induction n using Nat.strongRecOn with
 | _ n ih =>
   intro hl w
   by_cases h:n<10
   ·exact l6Dec_small n h w
   ·exact l6Dec_step n h hl (ih (n / 10) (Nat.div_lt_self (by omega) (by omega)) (Nat.le_trans (Nat.div_le_self _ _) hl)) w
abbrev KeepY (g:Nat) (ky:Value) (yb0 yo:Nat) (s0 v0 p0 q0 s1 v1 p1 q1:Value) (w':World):Prop :=
 w'.cell? ⟨g,3,none⟩=some ky/\w'.cell? ⟨yb0,yo,none⟩=some s0/\w'.cell? ⟨yb0,yo+1,none⟩=some v0/\w'.cell? ⟨yb0,yo+2,none⟩=some p0/\w'.cell? ⟨yb0,yo+3,none⟩=some q0 /\
  w'.cell? ⟨yb0,yo+4,none⟩=some s1/\w'.cell? ⟨yb0,yo+5,none⟩=some v1/\w'.cell? ⟨yb0,yo+6,none⟩=some p1/\w'.cell? ⟨yb0,yo+7,none⟩=some q1
theorem KeepY.below {g:Nat} {ky:Value} {yb0 yo:Nat} {s0 v0 p0 q0 s1 v1 p1 q1:Value} {w w':World} (h:KeepY g ky yb0 yo s0 v0 p0 q0 s1 v1 p1 q1 w) (hb:Below w.heap.size w w'):KeepY g ky yb0 yo s0 v0 p0 q0 s1 v1 p1 q1 w':=by
 have key:∀ (a:Addr) (v:Value),w.cell? a=some v->w'.cell? a=some v:=fun a v ha=>by
  rw [hb.cell (World.block_lt_of_cell? w _ ha)];exact ha
 obtain ⟨h1,h2,h3,h4,h5,h6,h7,h8,h9⟩:=h
 exact ⟨key _ _ h1,key _ _ h2,key _ _ h3,key _ _ h4,key _ _ h5,key _ _ h6,key _ _ h7,key _ _ h8,key _ _ h9⟩
theorem l6In_any (n lo hi:Int) (w:World):Calls Tryd.prog 41 #[.int .i64 n,.int .i64 lo,.int .i64 hi] w fun en w'=>en=.returned (.bool (decide (lo<=n) && decide (n<=hi)))/\w'=w:=by
 by_cases h1:lo<=n
 ·by_cases h2:n<=hi
  ·go_enter Tryd.func41,Tryd.ntmps41
   go_wp2_with fail
   go_ret
   exact ⟨by simp [h1,h2],rfl⟩
  ·go_enter Tryd.func41,Tryd.ntmps41
   go_wp2_with fail
   go_ret
   exact ⟨by simp [h1,h2],rfl⟩
 ·go_enter Tryd.func41,Tryd.ntmps41
  go_wp2_with fail
  go_ret
  exact ⟨by simp [h1];omega,rfl⟩
def BoxT (g:Nat) (s:Bs) (k:Value) (w:World):Prop:=w.cell? ⟨g,0,none⟩=some (str s)/\w.cell? ⟨g,1,none⟩=some k
theorem BoxT.below {g:Nat} {s:Bs} {k:Value} {w w':World} (h:BoxT g s k w) (hb:Below w.heap.size w w'):BoxT g s k w':=by
 obtain ⟨h1,h2⟩:=h
 have:=World.block_lt_of_cell? w _ h1
 exact ⟨by rw [hb.cell (by exact this)];exact h1,by rw [hb.cell (by exact this)];exact h2⟩


end Go.Proofs.YthoimoenbccflaaDoor

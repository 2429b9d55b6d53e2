/- Walks of functions that the statement reaches, and plain words. No conditions. -/
import Derived.Deep.DeepCutAuto
import Derived.Test.YthoimoenbccflaaDoorQ6
import Derived.Test.YthoimoenbccflaaDoorQ7
set_option linter.unusedVariables false
set_option linter.unusedSimpArgs false
namespace Go.Proofs.YthoimoenbccflaaDoor
open Go.RowKit

mutual
def okN (n:Nat):SC->Prop
 | .mk b _ e bg i=>nB b/\okNs n e/\e.length<=16*n/\bg<n/\i<=15
def okNs (n:Nat):List SC->Prop
 | []=>True
 | c::cs=>okN n c/\okNs n cs
end
mutual
theorem okN_mono {n m:Nat} (h:n<=m):∀ c,okN n c->okN m c
 | .mk b _ e bg i,k=>by
   rw [okN] at *
   exact ⟨k.1,okNs_mono h e k.2.1,by have:=k.2.2.1;omega,by have:=k.2.2.2.1;omega,k.2.2.2.2⟩
theorem okNs_mono {n m:Nat} (h:n<=m):∀ cs,okNs n cs->okNs m cs
 | [],k=>by rw [okNs] at *;trivial
 | c::cs,k=>by rw [okNs] at *;exact ⟨okN_mono h c k.1,okNs_mono h cs k.2⟩
end
structure SFOk (n:Nat) (x:SF):Prop where
 ok:okF x
 yes:nB x.yes
 no:nB x.no
 env:okNs n x.env
 len:x.env.length<=16*n
 opens:x.opens<n
theorem SFOk.mono {n m:Nat} {x:SF} (h:SFOk n x) (k:n<=m):SFOk m x:=⟨h.ok,h.yes,h.no,okNs_mono k _ h.env,by have:=h.len;omega,by have:=h.opens;omega⟩
def LogOk (log:List (Bs×Int)):Prop:=∀ (i:Nat) (q:Bs) (p:Int),log[i]? = some (q,p)->1<=q.length/\q.length<=2*log.length+1
theorem LogOk.snoc {log:List (Bs×Int)} (h:LogOk log) {s:Bs} {p:Int} (h1:1<=s.length) (h2:s.length<=2*log.length+3):LogOk (log++[(s,p)]):=by
 intro i q p' hi
 have hl:(log++[(s,p)]).length=log.length+1:=by simp
 rw [hl]
 rcases Nat.lt_or_ge i log.length with hlt | hge
 ·rw [List.getElem?_append_left hlt] at hi
  have:=h i q p' hi
  omega
 ·rw [List.getElem?_append_right hge] at hi
  rcases Nat.eq_zero_or_pos (i-log.length) with h0 | h0
  ·rw [h0] at hi;simp at hi;obtain ⟨rfl,rfl⟩:=hi;omega
  ·rw [List.getElem?_eq_none (by simp;omega)] at hi;simp at hi


theorem Rep.alloc {F:Nat->Prop} {w:World} {d:DV} {v:Value} (h:Rep F w d v) (o:Obj):Rep F (w.alloc o) d v:=(Rep.keep fun _ _ hf ho=>⟨hf,heap_past ho⟩).1 _ _ h


end Go.Proofs.YthoimoenbccflaaDoor

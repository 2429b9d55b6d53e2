/- Plain words: ComposeOf: impl's and the reference's are the same. -/
import Derived.Test.YtibnnbdpfkgfhaaGreatDoorP14
namespace Go.Proofs.YtibnnbdpfkgfhaaGreatDoor
open Go.RowKit

/-- The text of the type of functions from one type, by their texts. -/
def arrowText (a b : Bs) : Bs := [40, 62, 32] ++ a ++ [32] ++ b ++ [41]
theorem arrowText_eq (x y : Ty) : arrowText (textT x) (textT y) = textT (arrowT x y) := by
  cases y with
  | mk ys => unfold arrowText arrowT; rw [textT_cons]; simp [Ty.args]
/-- A text that reads as a type of more than 15 atoms is none. -/
theorem specType_big {t : Ty} (h : 15 < atomsT t) : (specType (textT t)).2 = false := by
  cases hq : (specType (textT t)).2 with
  | false => rfl
  | true =>
    exfalso
    obtain ⟨h1, h2⟩ := specType_canon hq
    generalize (specType (textT t)).1 = u at h1 h2
    have k1 := rdK_text (atomsT t) t [] (by omega)
    have k2 := rdK_text (atomsT t) u [] (by omega)
    rw [h1] at k1
    rw [k2] at k1
    simp at k1
    subst k1; omega
theorem specStrat_big {t : Ty} (h : 15 < atomsT t) (l : Bs) : specStrat (textT t) l = none := by
  unfold specStrat
  rw [if_pos (.inl (specType_big h))]

/-- What stands for the levels where a strategy is applied to what another one gives. -/
def composeEnv (x y : Ty) (f : Bd) (zs : List Ty) : List Mn := .bd y f [.op 0 x] :: opens 1 zs
/-- What impl's ComposeOf gives. -/
def implCompose (a b c m n : Bs) : Option Bs := (rdKind a).bind fun x => (rdKind b).bind fun y => (rdKind c).bind fun z =>
  if 15 < atomsT (arrowT x y) ∨ 15 < atomsT (arrowT y z) ∨ 15 < atomsT (arrowT x z) then none else
  (rdStrat (arrowT x y) m).bind fun f => (rdStrat (arrowT y z) n).bind fun g => (become g (composeEnv x y f z.args) (1 + z.args.length)).map textB
/-- What the reference's ComposeOf gives. -/
def specCompose (a b c m n : Bs) : Option Bs :=
  if (specType a).2 = true ∧ (specType b).2 = true ∧ (specType c).2 = true then
    (specStrat (arrowText a b) m).bind fun f => (specStrat (arrowText b c) n).bind fun g =>
      if 15 < atomsT (arrowT (specType a).1 (specType c).1) then none else
      (writes g (composeEnv (specType a).1 (specType b).1 f (specType c).1.args) (1 + (specType c).1.args.length)).bind fun out =>
        (specStrat (textT (arrowT (specType a).1 (specType c).1)) (textB out)).map fun _ => textB out
  else none

theorem composeEnv_fit {x y : Ty} {zs : List Ty} {f : Bd} (hf : fitB (x :: y.args) f) {g : Bd} (hg : fitB (y :: zs) g) : EvFit (x :: zs) g (composeEnv x y f zs) [] := by
  refine ⟨⟨y :: zs, ?_, hg⟩, by simp⟩
  rw [composeEnv, mnFits]
  refine ⟨y, zs, rfl, ?_, opens_fit zs 1 fun i t h => by rw [Nat.add_comm]; simpa using h⟩
  rw [mnFit]
  refine ⟨rfl, [x], ?_, by simpa using hf⟩
  rw [mnFits]
  refine ⟨x, [], rfl, ?_, by rw [mnFits]⟩
  rw [mnFit]
  exact ⟨rfl, rfl⟩
theorem composeEnv_wf {x y : Ty} {zs : List Ty} {f : Bd} (hf : wfB f) : wfMs (composeEnv x y f zs) := ⟨⟨hf, ⟨trivial, trivial⟩⟩, wfMs_opens zs 1⟩

theorem compose_eq (a b c m n : Bs) : implCompose a b c m n = specCompose a b c m n := by
  unfold implCompose specCompose
  rw [specType_eq a, specType_eq b, specType_eq c]
  cases ha : (specType a).2 with
  | false => simp
  | true =>
  cases hb : (specType b).2 with
  | false => simp
  | true =>
  cases hc : (specType c).2 with
  | false => simp
  | true =>
  obtain ⟨ea, la⟩ := specType_canon ha
  obtain ⟨eb, lb⟩ := specType_canon hb
  obtain ⟨ec, lc⟩ := specType_canon hc
  generalize (specType a).1 = x at *
  generalize (specType b).1 = y at *
  generalize (specType c).1 = z at *
  subst ea; subst eb; subst ec
  rw [arrowText_eq, arrowText_eq]
  simp only [if_true, Option.bind_some, and_self]
  by_cases h1 : 15 < atomsT (arrowT x y)
  · rw [if_pos (.inl h1), specStrat_big h1]; rfl
  by_cases h2 : 15 < atomsT (arrowT y z)
  · rw [if_pos (.inr (.inl h2)), specStrat_big h2]
    cases specStrat (textT (arrowT x y)) m <;> rfl
  by_cases h3 : 15 < atomsT (arrowT x z)
  · rw [if_pos (.inr (.inr h3))]
    cases specStrat (textT (arrowT x y)) m with
    | none => rfl
    | some f =>
      cases specStrat (textT (arrowT y z)) n with
      | none => rfl
      | some g => simp only [Option.bind_some]; rw [if_pos h3]
  rw [if_neg (by omega), rdStrat_text (by omega), rdStrat_text (by omega)]
  cases hf : specStrat (textT (arrowT x y)) m with
  | none => rfl
  | some f =>
  cases hg : specStrat (textT (arrowT y z)) n with
  | none => rfl
  | some g =>
  simp only [Option.bind_some]
  rw [if_neg h3]
  have gf := (specStrat_good hf).1
  have gg := (specStrat_good hg).1
  rw [specType_text (by omega)] at gf gg
  have ef : (arrowT x y).args = x :: y.args := rfl
  have eg : (arrowT y z).args = y :: z.args := rfl
  have k1 := gf.fit
  have k2 := gg.fit
  rw [ef] at k1; rw [eg] at k2
  have key := written_eq (t := arrowT x z) (by omega) (b := g) (env := composeEnv x y f z.args) (composeEnv_fit k1 k2) gg.wf (composeEnv_wf gf.wf)
  have el : (arrowT x z).args.length = 1 + z.args.length := by show (x :: z.args).length = _; simp; omega
  rw [el] at key
  rw [← key]
  cases hw : writes g (composeEnv x y f z.args) (1 + z.args.length) with
  | none => rfl
  | some out =>
    simp only [Option.bind_some]
    cases hq : specStrat (textT (arrowT x z)) (textB out) with
    | none => rfl
    | some o =>
      simp only [Option.map_some]
      have := (specStrat_good hq).2
      rw [this]

end Go.Proofs.YtibnnbdpfkgfhaaGreatDoor

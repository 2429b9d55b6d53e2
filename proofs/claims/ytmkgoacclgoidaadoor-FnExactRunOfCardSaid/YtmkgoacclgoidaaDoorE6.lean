/- impl's machine: what holds at each round of its loop; what a round leaves. -/
import Derived.Test.YtmkgoacclgoidaaDoorE5
namespace Go.Proofs.YtmkgoacclgoidaaDoor
open Go.RowKit

def encFr (f : Fr) : List DV := [encB f.yes, encB f.no, .sl 162 4 f.env.length (encCs f.env), .val (.int .i64 (f.begun : Nat)), .val (str f.path)]
def encFrs : List Fr → List DV
  | [] => []
  | f :: fs => encFr f ++ encFrs fs
theorem encFrs_append : ∀ (xs ys : List Fr), encFrs (xs ++ ys) = encFrs xs ++ encFrs ys
  | [], ys => by simp [encFrs]
  | x :: xs, ys => by simp [encFrs, encFrs_append xs ys]
theorem encFrs_length : ∀ fs : List Fr, (encFrs fs).length = fs.length * 5
  | [] => by simp [encFrs]
  | f :: fs => by rw [encFrs, List.length_append, encFrs_length fs]; simp [encFr]; omega

mutual
/-- No question has many parts. -/
def nB : Bd → Prop
  | .leaf _ => True
  | .ask _ ss y n => ss.length ≤ 15 ∧ nBs ss ∧ nB y ∧ nB n
def nBs : List Bd → Prop
  | [] => True
  | b :: bs => nB b ∧ nBs bs
end
mutual
/-- What stands for a level is not great. -/
def okC (n : Nat) : Clo → Prop
  | .mk b e _ p => nB b ∧ okCs n e ∧ e.length ≤ 16 * n ∧ p.length ≤ 2 * n
def okCs (n : Nat) : List Clo → Prop
  | [] => True
  | c :: cs => okC n c ∧ okCs n cs
end
mutual
theorem okC_mono {n m : Nat} (h : n ≤ m) : ∀ c, okC n c → okC m c
  | .mk b e _ p, k => by
    rw [okC] at *
    exact ⟨k.1, okCs_mono h e k.2.1, by have := k.2.2.1; omega, by have := k.2.2.2; omega⟩
theorem okCs_mono {n m : Nat} (h : n ≤ m) : ∀ cs, okCs n cs → okCs m cs
  | [], k => by rw [okCs] at *; trivial
  | c :: cs, k => by rw [okCs] at *; exact ⟨okC_mono h c k.1, okCs_mono h cs k.2⟩
end
theorem okCs_at {n : Nat} : ∀ (cs : List Clo), okCs n cs → ∀ (i : Nat) (c : Clo), cs[i]? = some c → okC n c
  | [], _, i, c, h => by simp at h
  | x :: cs, k, i, c, h => by
    rw [okCs] at k
    cases i with
    | zero => simp at h; subst h; exact k.1
    | succ i => exact okCs_at cs k.2 i c (by simpa using h)
theorem okCs_append {n : Nat} : ∀ (xs ys : List Clo), okCs n xs → okCs n ys → okCs n (xs ++ ys)
  | [], ys, _, h => h
  | x :: xs, ys, h, k => by rw [okCs] at h; exact ⟨h.1, okCs_append xs ys h.2 k⟩
theorem nBs_at : ∀ (bs : List Bd), nBs bs → ∀ (i : Nat) (b : Bd), bs[i]? = some b → nB b
  | [], _, i, c, h => by simp at h
  | x :: cs, k, i, c, h => by
    rw [nBs] at k
    cases i with
    | zero => simp at h; subst h; exact k.1
    | succ i => exact nBs_at cs k.2 i c (by simpa using h)
theorem ownFrom_ok {n m : Nat} {env : List Clo} {p : Bs} (he : okCs n env) (hl : env.length ≤ 16 * n) (hp : p.length + 2 ≤ 2 * n) : ∀ (ss : List Bd) (i : Nat), i + ss.length ≤ 100 → nBs ss → okCs n (ownFrom env m p i ss)
  | [], i, _, _ => by rw [ownFrom, okCs]; trivial
  | s :: ss, i, hi, h => by
    rw [nBs] at h
    simp only [List.length_cons] at hi
    rw [ownFrom, okCs]
    refine ⟨?_, ownFrom_ok he hl hp ss (i + 1) (by omega) h.2⟩
    rw [okC]
    refine ⟨h.1, he, hl, ?_⟩
    have := dec_length 1 i (by omega)
    simp only [List.length_append]; omega

/-- The blocks that a round may change. -/
def Chg (ma : Nat) (mv pt : Value) (B : Nat) (sv : Value) (i : Nat) : Prop := MBk ma mv pt i ∨ i = B ∨ sv.ownBlock = some i

theorem rep_next {Ch Ch' : Nat → Prop} {w w' : World} (hb : But Ch w w') (hn : ∀ i, Ch' i → Ch i ∨ w.heap.size ≤ i) {d : DV} {v : Value} (h : Rep (fun i => ¬ Ch i) w d v) : Rep (fun i => ¬ Ch' i) w' d v :=
  (Rep.keep fun b o hf ho => ⟨fun e => by
    rcases hn b e with h | h
    · exact hf h
    · have := lt_of_heap ho; omega, by rw [hb.block b (lt_of_heap ho) hf]; exact ho⟩).1 d v h
theorem reps_next {Ch Ch' : Nat → Prop} {w w' : World} (hb : But Ch w w') (hn : ∀ i, Ch' i → Ch i ∨ w.heap.size ≤ i) {d : List DV} {v : List Value} (h : Reps (fun i => ¬ Ch i) w d v) : Reps (fun i => ¬ Ch' i) w' d v :=
  (Rep.keep fun b o hf ho => ⟨fun e => by
    rcases hn b e with h | h
    · exact hf h
    · have := lt_of_heap ho; omega, by rw [hb.block b (lt_of_heap ho) hf]; exact ho⟩).2 d v h

/-- What goes on is not great and fits. -/
structure FrOk (n : Nat) (f : Fr) : Prop where
  fit : frFit f
  yes : nB f.yes
  no : nB f.no
  env : okCs n f.env
  len : f.env.length ≤ 16 * n
  path : f.path.length ≤ 2 * n
theorem FrOk.mono {n m : Nat} {f : Fr} (h : FrOk n f) (k : n ≤ m) : FrOk m f := ⟨h.fit, h.yes, h.no, okCs_mono k _ h.env, by have := h.len; omega, by have := h.path; omega⟩

def asInts (xs : List (Bs × Nat)) : List (Bs × Int) := xs.map fun y => (y.1, (y.2 : Int))

/-- What holds at each round: of the words. -/
structure RunPl (R : Option (UInt8 × List (Bs × Int))) (most : Nat) (b : Bd) (env : List Clo) (begun : Nat) (path : Bs) (st : List Fr) (log : List (Bs × Int)) : Prop where
  le : log.length ≤ most
  goes : R = (runM (most - log.length) log.length b env begun path st).map fun x => (x.1, log ++ asInts x.2)
  fit : ∃ hand, envFit env hand ∧ fitB hand b
  nb : nB b
  oke : okCs log.length env
  len : env.length ≤ 16 * log.length
  lpath : path.length ≤ 2 * log.length
  frs : ∀ f ∈ st, FrOk log.length f
  stl : st.length ≤ log.length
/-- What holds at each round: of memory. -/
structure RunAt (keeps : Bool) (most ma : Nat) (mv0 pt0 : Value) (w : World) (B : Nat) (b : Bd) (env : List Clo) (begun : Nat) (path : Bs) (st : List Fr) (log : List (Bs × Int)) (mv pt : Value) (bv ev sv : Value) (cells : List Value) (wr : World) : Prop where
  ms : MS keeps most ma log mv pt wr
  rb : Rep (fun i => ¬ Chg ma mv pt B sv i) wr (encB b) bv
  re : Rep (fun i => ¬ Chg ma mv pt B sv i) wr (.sl 162 4 env.length (encCs env)) ev
  own : Own wr 158 5 sv st.length cells
  rs : Reps (fun i => ¬ Chg ma mv pt B sv i) wr (encFrs st.reverse) cells
  beg : wr.heap[B]? = some (.cells #[.int .i64 (begun : Nat), str path] 74 (0, 0))
  but : But (MBk ma mv0 pt0) w wr
  new : ∀ i, MBk ma mv pt i → MBk ma mv0 pt0 i ∨ w.heap.size ≤ i
  bB : w.heap.size ≤ B ∧ ¬ MBk ma mv pt B
  sB : ∀ g, sv.ownBlock = some g → w.heap.size ≤ g ∧ g ≠ B ∧ ¬ MBk ma mv pt g

theorem runpl_back {R : Option (UInt8 × List (Bs × Int))} {most : Nat} {c : UInt8} {env : List Clo} {begun : Nat} {path : Bs} {f : Fr} {st : List Fr} {log : List (Bs × Int)} (h : RunPl R most (.leaf c) env begun path (f :: st) log) (hc : c ≠ 117) (hm : log.length ≠ most) :
    RunPl R most (if c = 116 then f.yes else f.no) f.env f.begun f.path st (log ++ [(c :: path, (begun : Int))]) := by
  obtain ⟨hle, hgo, hfit, hnb, henv, hlen, hpath, hfrs, hstl⟩ := h
  have hl : (log ++ [(c :: path, (begun : Int))]).length = log.length + 1 := by simp
  have k := hfrs f (by simp)
  obtain ⟨hand, k1, k2, k3⟩ := k.fit
  refine ⟨by rw [hl]; omega, ?_, ⟨hand, k1, by split <;> assumption⟩, by { split; exact k.yes; exact k.no }, by rw [hl]; exact okCs_mono (by omega) _ k.env, by rw [hl]; have := k.len; omega, by rw [hl]; have := k.path; omega, fun g hg => by rw [hl]; exact (hfrs g (by simp [hg])).mono (by omega), by rw [hl]; simp at hstl; omega⟩
  rw [hgo, hl]
  obtain ⟨d, hd⟩ : ∃ d, most - log.length = d + 1 := ⟨most - log.length - 1, by omega⟩
  rw [hd, runM_back hc, show most - (log.length + 1) = d from by omega, Option.map_map]
  congr 1
  funext x
  simp [asInts]
theorem runpl_ask {R : Option (UInt8 × List (Bs × Int))} {most : Nat} {v : Nat} {ss : List Bd} {y n : Bd} {env : List Clo} {begun : Nat} {path : Bs} {st : List Fr} {log : List (Bs × Int)} (h : RunPl R most (.ask v ss y n) env begun path st log) (hm : log.length ≠ most) {e : Clo} (he : env[v]? = some e) :
    RunPl R most e.body (e.env ++ ownFrom env log.length e.path 0 ss) log.length e.path (⟨y, n, env, begun, path⟩ :: st) (log ++ [(113 :: e.path, (e.begun : Int))]) := by
  obtain ⟨hle, hgo, hfit, hnb, henv, hlen, hpath, hfrs, hstl⟩ := h
  have hl : (log ++ [(113 :: e.path, (e.begun : Int))]).length = log.length + 1 := by simp
  obtain ⟨hand, k1, k2⟩ := hfit
  obtain ⟨e', he', hand', j1, j2⟩ := ask_next k2 k1 log.length
  rw [he] at he'; simp at he'; subst he'
  have hke := okCs_at _ henv _ _ he
  rw [nB] at hnb
  obtain ⟨eb, ee, eg, ep⟩ := e
  rw [okC] at hke
  simp only [Clo.body, Clo.env, Clo.begun, Clo.path] at *
  refine ⟨by rw [hl]; omega, ?_, ⟨hand', j1, j2⟩, hke.1, ?_, ?_, ?_, ?_, ?_⟩
  · rw [hgo, hl]
    obtain ⟨d, hd⟩ : ∃ d, most - log.length = d + 1 := ⟨most - log.length - 1, by omega⟩
    rw [hd, runM_ask _ _ _ _ _ _ _ _ _ _ he, show most - (log.length + 1) = d from by omega, Option.map_map]
    simp only [Clo.body, Clo.env, Clo.begun, Clo.path]
    congr 1
    funext x
    simp [asInts]
  · rw [hl]
    exact okCs_append _ _ (okCs_mono (by omega) _ hke.2.1) (ownFrom_ok (okCs_mono (by omega) _ henv) (by omega) (by have := hke.2.2.2; omega) ss 0 (by omega) hnb.2.1)
  · rw [hl, List.length_append, ownFrom_length]; have := hke.2.2.1; omega
  · rw [hl]; have := hke.2.2.2; omega
  · intro f hf
    rw [hl]
    rcases List.mem_cons.1 hf with rfl | hf
    · exact ⟨frame_next k2 k1 begun path, hnb.2.2.1, hnb.2.2.2, okCs_mono (by omega) _ henv, by simp only; omega, by simp only; omega⟩
    · exact (hfrs f hf).mono (by omega)
  · rw [hl]; simp only [List.length_cons]; omega

end Go.Proofs.YtmkgoacclgoidaaDoor

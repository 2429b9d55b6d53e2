import Derived.Test.YtibnnbdpfkgfhaaGreatDoorP14
import Derived.Test.YtibnnbdpfkgfhaaGreatDoorW14
import Derived.LaidEql
import Derived.Stop.Asserts
import Derived.RowKitTokens

/- What stands for a level where strategies are applied, in memory: impl's; the walk of opens. -/
namespace Go.Proofs.YtibnnbdpfkgfhaaGreatDoor
open Go.RowKit

mutual
def encM : Mn → List DV
  | .op o t => [.val (.int .i64 (o : Nat)), encK t, .val (.pointer none), .val (.slice none 0 0)]
  | .bd _ b e => [.val (.int .i64 0), .val (.pointer none), encB b, .sl 77 4 e.length (encMs e)]
def encMs : List Mn → List DV
  | [] => []
  | m :: ms => encM m ++ encMs ms
end
theorem encM_length (m : Mn) : (encM m).length = 4 := by cases m <;> simp [encM]
theorem encMs_length : ∀ ms : List Mn, (encMs ms).length = ms.length * 4
  | [] => by simp [encMs]
  | m :: ms => by rw [encMs, List.length_append, encM_length, encMs_length ms]; simp; omega
theorem encMs_append : ∀ (xs ys : List Mn), encMs (xs ++ ys) = encMs xs ++ encMs ys
  | [], ys => by simp [encMs]
  | x :: xs, ys => by simp [encMs, encMs_append xs ys]
theorem encMs_one (m : Mn) : encMs [m] = encM m := by simp [encMs]

theorem SrcSl.lit1 {w : World} {e : TypeId} {sz : Nat} (cs : Array Value) (hn : cs.size = sz) (hc : ∀ u ∈ cs.toList, u.oneCell' = true) (g : Nat) (hg : g = w.heap.size) : SrcSl sz (.slice (some ⟨g, 0, none⟩) 1 1) 1 cs.toList (w.alloc (.cells cs e)) := by
  subst hg
  refine ⟨by simp [hn], hc, .inl ⟨_, _, rfl, fun j u hu => ?_⟩⟩
  unfold Addr.add
  split
  · subst j; simp; simpa using hu
  · simp; simpa using hu

theorem Tryz.infoMn : (Tryz.prog.info? 77).map (fun i => (i.zero, i.size, i.bytes)) = some (some (.agg #[.int .i64 0, .pointer none, .pointer none, .slice none 0 0]), 4, 48) := by kernel_rfl

/-- A new row that the call owns. -/
def FreshV (w : World) (e : TypeId) (sz n : Nat) (P : World → List Value → Prop) (en : Ending) (w' : World) : Prop :=
  ∃ a c xs, en = .returned (.slice a n c) ∧ Own w' e sz (.slice a n c) n xs ∧ P w' xs ∧ Below w.heap.size w w' ∧ ∀ g, (Value.slice a n c).ownBlock = some g → w.heap.size ≤ g

theorem opens_snoc : ∀ (ts : List Ty) (n : Nat) (t : Ty), opens n (ts ++ [t]) = opens n ts ++ [.op (n + ts.length) t]
  | [], n, t => by simp [opens]
  | a :: ts, n, t => by rw [List.cons_append, opens, opens, opens_snoc ts (n + 1) t, List.cons_append, List.length_cons, show n + 1 + ts.length = n + (ts.length + 1) from by omega]
theorem opens_take {ts : List Ty} {n k : Nat} {t : Ty} (h : ts[k]? = some t) : opens n (ts.take (k + 1)) = opens n (ts.take k) ++ [.op (n + k) t] := by
  have hk := (List.getElem?_eq_some_iff.1 h).1
  rw [List.take_add_one, h]
  simp only [Option.toList_some]
  rw [opens_snoc, List.length_take, Nat.min_eq_left (by omega)]
theorem encK_ptr' {F : Nat → Prop} {w : World} {t : Ty} {v : Value} (h : Rep F w (encK t) v) : ∃ b, v = .pointer (some ⟨b, 0, none⟩) := by
  cases t with
  | mk ts => rw [encK, Rep_ptr] at h; obtain ⟨b, c, h, _⟩ := h; exact ⟨b, h⟩

set_option maxRecDepth 100000 in
set_option maxHeartbeats 2000000 in
theorem opens_any (F : Nat → Prop) (n : Nat) (ts : List Ty) (kv : Value) (w : World) (h : Rep F w (.sl 65 1 ts.length (encKs ts)) kv) (hl : ts.length ≤ 1000) (hn : n ≤ 1000000) :
    Calls Tryz.prog 40 #[.int .i64 (n : Nat), kv] w (FreshV w 77 4 ts.length fun w' xs => Reps F w' (encMs (opens n ts)) xs) := by
  obtain ⟨ka, kc, e, _, _, hat⟩ := Rep_sl1_open h
  subst e
  have H := Lib.hid hat; clear hat h
  go_enter Tryz.func40, Tryz.ntmps40
  go_wp2_with fail
  go_loopw [5, 10] (fun o i wr => ∃ k : Nat, k ≤ ts.length ∧ i = .int .i64 k ∧ ∃ a c xs, o = .slice a k c ∧ Own wr 77 4 (.slice a k c) k xs ∧ Reps (fun i => F i ∧ i < w.heap.size) wr (encMs (opens n (ts.take k))) xs ∧ Below w.heap.size w wr ∧ (∀ g, (Value.slice a k c).ownBlock = some g → w.heap.size ≤ g)) (fun _ i _ => ts.length - (intOf i).toNat)
  case atStart => exact ⟨0, Nat.zero_le _, rfl, none, 0, [], rfl, World.ownsRow_nil _ _ _ _, by simp [opens, encMs, Reps_nil], Below.refl _ _, fun g h => by simp [Value.ownBlock] at h⟩
  case round =>
    obtain ⟨k, hk, rfl, a, c, xs, rfl, ho, hr, hb, hf⟩ := hrel
    have HO := Lib.hid ho; have HF := Lib.hid hf; have HB := Lib.hid hb; have HR := Lib.hid hr
    clear ho hf hb hr
    by_cases hlt : k < ts.length
    · have hlt' : (k : Int) < (ts.length : Int) := by omega
      obtain ⟨b, o, u, d, e, _, hbw, hd, hc, hru⟩ := H.out k hlt
      subst e
      rw [encKs_at, Option.map_eq_some_iff] at hd
      obtain ⟨t, ht, rfl⟩ := hd
      obtain ⟨ub, rfl⟩ := encK_ptr' hru
      have q0 := (HB.out.cell (p := ⟨b, o + k, none⟩) hbw).trans hc
      have HT := Lib.hid (And.intro ht hru); clear ht hru hc
      have hsum : IntKind.i64.wrap ((n : Int) + (k : Int)) = (n : Int) + (k : Int) := IntWalk.i64_in _ (by omega)
      clear hsum
      go_wp2_with (at_builtin; refine wpList_append_gen rfl _ _ 71 rfl 77 (.agg #[.int .i64 0, .pointer none, .pointer none, .slice none 0 0]) 4 48 Tryz.underlying71 Tryz.infoMn rfl (by decide) (.slice a k c) k xs rfl ?c1 _ 1 [.int .i64 ((n : Int) + (k : Int)), .pointer (some ⟨ub, 0, none⟩), .pointer none, .slice none 0 0] rfl ?c2 ?c3 ?c4 ?_)
      case c1 => exact HO.out.alloc _
      case c2 => exact SrcSl.lit1 #[.int .i64 ((n : Int) + (k : Int)), .pointer (some ⟨ub, 0, none⟩), .pointer none, .slice none 0 0] rfl (by simp [Value.oneCell']) _ (by simp)
      case c3 => unfold maxLen; omega
      case c4 => omega
      intro a' c' w7 ho7 hb7 hg7
      have hb17 : Below w.heap.size w w7 := by
        have h1 := HB.out
        refine (h1.alloc h1.size _).trans (hb7.toBelow (by rw [size_alloc]; have := h1.size; omega) fun i hi e => ?_)
        have := HF.out i e; omega
      have hf7 : ∀ g, (Value.slice a' (k + 1) c').ownBlock = some g → w.heap.size ≤ g := by
        intro g h
        rcases hg7 g h with h | h
        · exact HF.out g h
        · have h2 := HB.out.size
          omega
      have hr7 : Reps (fun i => F i ∧ i < w.heap.size) w7 (encMs (opens n (ts.take (k + 1)))) (xs ++ [.int .i64 ((n : Int) + (k : Int)), .pointer (some ⟨ub, 0, none⟩), .pointer none, .slice none 0 0]) := by
        rw [opens_take HT.out.1, encMs_append, encMs_one]
        refine Reps.append ?_ ?_
        · exact (Rep.keep fun b o hf ho => ⟨hf, by rw [hb17.block b hf.2, ← HB.out.block b hf.2]; exact ho⟩).2 _ _ HR.out
        · rw [encM]
          refine Reps_cons.2 ⟨_, _, rfl, Rep_val.2 (by rw [Int.natCast_add]), Reps_cons.2 ⟨_, _, rfl, (Rep.keep fun b o hf ho => ⟨⟨hf, lt_of_heap ho⟩, by rw [hb17.block b (lt_of_heap ho)]; exact ho⟩).1 _ _ HT.out.2, Reps_cons.2 ⟨_, _, rfl, Rep_val.2 rfl, Reps_cons.2 ⟨_, _, rfl, Rep_val.2 rfl, Reps_nil.2 rfl⟩⟩⟩⟩
      have HA := Lib.hid (And.intro ho7 (And.intro hr7 (And.intro hb17 hf7))); clear ho7 hr7 hb17 hf7 hb7 hg7
      go_wp2_with fail
      go_roundw
      case rel => exact ⟨k + 1, by omega, by go_num, a', c', _, rfl, HA.out.1, HA.out.2.1, HA.out.2.2.1, HA.out.2.2.2⟩
      case measure => simp [intOf]; omega
    · obtain rfl : k = ts.length := by omega
      go_wp2_with fail
      go_ret
      have h0 := HR.out
      rw [List.take_length] at h0
      exact ⟨a, c, xs, rfl, HO.out, (Rep.keep fun b o hf ho => ⟨hf.1, ho⟩).2 _ _ h0, HB.out, HF.out⟩

end Go.Proofs.YtibnnbdpfkgfhaaGreatDoor

/- The walk of errors.Is at impl's one error. -/
namespace Go.Proofs.YtibnnbdpfkgfhaaGreatDoor
open Go.RowKit Go.Extern.Stop Go.Stop Go.Extern Go.Extern.Rtype

theorem Tryz.isTypeOf (v : Value) (w : World) : (Extern.ReflectliteType.typeOf #[.iface 249 v]).run Tryz.prog w = .ok (.iface 199 (.agg #[.pointer (some ⟨7, 249, none⟩)])) w := by kernel_rfl
theorem Tryz.callCmp (w : World) : Sem.run Tryz.prog (callFunc 174 #[.agg #[.pointer (some ⟨7, 249, none⟩)]]) w = .ok (.value (.bool true)) w := by
  rw [@run_callFunc_extern Tryz.prog 174 _ (Extern.ReflectliteType.method fun t => do noPackHeld "Comparable" t; pure (.bool (← typeInfo t).comparable)) Tryz.func174 (by kernel_rfl) (by kernel_rfl) (by kernel_rfl) (by kernel_rfl)]
  have h : ((Extern.ReflectliteType.method fun t => do noPackHeld "Comparable" t; pure (.bool (← typeInfo t).comparable)) #[.agg #[.pointer (some ⟨7, 249, none⟩)]]).run Tryz.prog w = .ok (.bool true) w := by kernel_rfl
  rw [h]; rfl
theorem Tryz.isMethodComparable (v : Value) (w : World) : (Go.method 384 199 v "Comparable").run Tryz.prog w = .ok (174, v) w := by kernel_rfl
theorem Tryz.isComp : (Tryz.prog.info? 249).map (·.comparable) = some true := by kernel_rfl
theorem Tryz.isSize : (Tryz.prog.info? 251).map (·.size) = some 1 := by kernel_rfl

/-- errors.Is(nil, x). -/
theorem is_nil (b : Addr) (w : World) : Calls Tryz.prog 71 #[.nilIface, .iface 249 (.pointer (some b))] w fun e w' => e = .returned (.bool false) ∧ w' = w := by
  have hn := run_eql_iface_nil_left (P := Tryz.prog) w 249 (.pointer (some b)) Tryz.underlying127
  go_enter Tryz.func71, Tryz.ntmps71
  go_wp2
  go_ret
  exact ⟨rfl, rfl⟩

set_option maxRecDepth 100000 in
/-- errors.Is(x, x), x a pointer to an errors.errorString. -/
theorem is_same (a : Addr) (w : World) :
    Calls Tryz.prog 71 #[.iface 249 (.pointer (some a)), .iface 249 (.pointer (some a))] w fun e w' => e = .returned (.bool true) ∧ w' = w := by
  obtain ⟨i, hi, hcmp⟩ := Option.map_eq_some_iff.1 Tryz.isComp
  obtain ⟨j, hj, hjs⟩ := Option.map_eq_some_iff.1 Tryz.isSize
  have h8 := @run_callFunc_extern Tryz.prog 98 _ Extern.ReflectliteType.typeOf Tryz.func98 (by kernel_rfl) (by kernel_rfl) (by kernel_rfl) (by kernel_rfl)
  have tT := Tryz.isTypeOf
  have cT := Tryz.callCmp
  have mR := Tryz.isMethodComparable
  have heq := run_eql_iface_ptr_same (P := Tryz.prog) w a Tryz.underlying127 Tryz.underlying249 hi hcmp hj
  clear hi hcmp hj hjs
  go_enter Tryz.func71, Tryz.ntmps71
  go_wp2
  refine wp_loop_rounds 1 ?_
  rw [rounds_succ]
  go_wp2
  go_ret
  exact ⟨rfl, rfl⟩

end Go.Proofs.YtibnnbdpfkgfhaaGreatDoor

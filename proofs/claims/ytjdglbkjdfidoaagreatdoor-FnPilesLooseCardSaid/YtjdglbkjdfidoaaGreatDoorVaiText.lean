/- Functions of the packages strings and strconv, by their contracts: each step holds of the model's own run. Conditions: those that each theorem states. -/
/- A checked abstract run of Go functions: functions of the packages strings and strconv, by their contracts. -/
import Derived.Test.YtjdglbkjdfidoaaGreatDoorVaiLeaf
import Derived.Lib.SplitLaws
import Derived.Lib.CountLaws
import Derived.Lib.CutLaws
import Derived.Lib.ItoaNum
import Derived.Lib.AtoiErrMem
import Derived.Lib.SlTrimSet
import Derived.Lib.AtoiAll
import Derived.Lib.Join
import Derived.Deep.Draws
namespace Go.Proofs.YtjdglbkjdfidoaaGreatDoorV
set_option linter.unusedVariables false
set_option linter.unusedSimpArgs false
open Go.RowKit
/-! ### What they answer -/
def itoaL (i : Int) : Option (ByteArray × Unit) := chk (decide (0 ≤ i) && decide (i < 100)) (some (⟨(Lib.decDigits i.toNat).toArray⟩, ()))
def trimL (s c : ByteArray) : Option (ByteArray × Unit) := chk (decide (s.size ≤ 9223372036854775807) && (decide (c.size < 4294967281) && c.data.toList.all fun b => decide (b.toNat < 128))) (some (⟨(Lib.trimS s.data.toList c.data.toList).toArray⟩, ()))
def joinL (l : List ByteArray) (sep : ByteArray) : Option (ByteArray × Unit) := chk (decide ((Lib.join (l.map (·.data.toList)) sep.data.toList).length ≤ 140737488355328) && decide (l.length ≤ 140737488355328)) (some (⟨(Lib.join (l.map (·.data.toList)) sep.data.toList).toArray⟩, ()))
def splitNL (s sep : ByteArray) (n : Int) : Option (List ByteArray) := chk (decide (s.size < 4294967281) && (decide (1 ≤ sep.size) && (decide (1 ≤ n) && decide (n ≤ 1000)))) (some (Lib.splitB sep 0 (min n.toNat (s.size + 1) - 1) s))
def splitL (s sep : ByteArray) : Option (List ByteArray) := chk (decide (s.size < 4294967281) && decide (1 ≤ sep.size)) (some (Lib.splitB sep 0 (Lib.countB s sep) s))
def cutL (s sep : ByteArray) : Option (ByteArray × ByteArray × Bool × Unit) := chk (decide (s.size < 4294967281)) (some (⟨(Lib.cut s.data.toList sep.data.toList).1.toArray⟩, ⟨(Lib.cut s.data.toList sep.data.toList).2.1.toArray⟩, (Lib.cut s.data.toList sep.data.toList).2.2, ()))
def atoiL (s : ByteArray) : Option (Int × Unit × Unit) := chk (decide (s.size ≤ 1000)) (match Lib.atoiAll s.data.toList with
  | .ok v => some (v, (), ())
  | _ => none)
def indexL (s sep : ByteArray) : Option (Int × Unit) := chk (decide (s.size < 4294967281)) (some (Lib.index s.data.toList sep.data.toList, ()))
def containsL (s sep : ByteArray) : Option (Bool × Unit) := chk (decide (s.size < 4294967281)) (some (Lib.contains s.data.toList sep.data.toList, ()))
def countL (s sep : ByteArray) : Option (Int × Unit) := chk (decide (s.size < 4294967281) && decide (1 ≤ sep.size)) (some ((Lib.countB s sep : Int), ()))
def hasSufL (s p : ByteArray) : Option (Bool × Unit) := chk (decide (s.size ≤ 9223372036854775807)) (some (Lib.hasSuffix s.data.toList p.data.toList, ()))
def trimSufL (s p : ByteArray) : Option (ByteArray × Unit) := chk (decide (s.size ≤ 9223372036854775807)) (some (⟨(Lib.trimSuffix s.data.toList p.data.toList).toArray⟩, ()))
section
variable {P : Program} {f : Nat} {G : List Nat}
/-- Two texts in, one value out, the world as it was. -/
theorem two_leaf {t : Ty} {fn : ByteArray → ByteArray → Option (t.T × Unit)} (k : Nat → Prop) (hk : ∀ j, k j → j ∈ G) (hfn : ∃ fn', P.funcs[f]? = some fn' ∧ (fn'.name == "runtime.NumGoroutine") = false ∧ fn'.body.isSome = true)
    (hp : ∀ y : t.T, (shPuts RB [Sh.v t] (y, ())).2 = [])
    (hc : ∀ (s p : ByteArray) (y : t.T) (w : World), fn s p = some (y, ()) → (∀ j, k j → ∃ m : Int, w.cell? ⟨j, 0, none⟩ = some (.int .i64 m)) → ∃ v : Value, (∀ (w : World) (g : Gh), RV w g (t.av y) v) ∧ Calls P f #[.string s, .string p] w fun e w' => e = .returned v ∧ w' = w) :
    (⟨f, [.v .str, .v .str], [.v t], fun x => (fn x.1 x.2.1).map fun y => (y, ())⟩ : Con).Sound P G := by
  refine con_vals hfn (fun _ => rfl) rfl (fun y => hp y.1) fun x y vs w g hrv hok hG h => ?_
  match vs, hrv with
  | [v0, v1], ⟨h0, h1, _⟩ =>
    obtain rfl : v0 = .string x.1 := h0
    obtain rfl : v1 = .string x.2.1 := h1
    obtain ⟨v, hv, hcall⟩ := hc x.1 x.2.1 y.1 w h (fun j hj => (hG j (hk j hj)).2)
    refine hcall.mono ?_
    rintro e w' ⟨rfl, rfl⟩
    exact ⟨[v], rfl, Below.refl _ _, ⟨hv _ _, trivial⟩⟩
theorem index_leaf {k : Nat} (hk : k ∈ G) (hfn : ∃ fn', P.funcs[f]? = some fn' ∧ (fn'.name == "runtime.NumGoroutine") = false ∧ fn'.body.isSome = true)
    (hc : ∀ (s sep : ByteArray) (m : Int) (w : World), s.size < 4294967281 → w.cell? ⟨k, 0, none⟩ = some (.int .i64 m) → Calls P f #[.string s, .string sep] w fun e w' => e = .returned (.int .i64 (Lib.index s.data.toList sep.data.toList)) ∧ w' = w) :
    (⟨f, [.v .str, .v .str], [.v (.int .i64)], fun x => (indexL x.1 x.2.1).map fun y => (y, ())⟩ : Con).Sound P G :=
  two_leaf (t := .int .i64) (fn := indexL) (· = k) (fun j e => e ▸ hk) hfn (fun _ => rfl) fun s p y w h hm => by
    obtain ⟨c, h⟩ := chk_some h
    cases h
    obtain ⟨m, hm⟩ := hm k rfl
    exact ⟨_, fun _ _ => rfl, hc s p m w (of_decide_eq_true c) hm⟩
theorem contains_leaf {k : Nat} (hk : k ∈ G) (hfn : ∃ fn', P.funcs[f]? = some fn' ∧ (fn'.name == "runtime.NumGoroutine") = false ∧ fn'.body.isSome = true)
    (hc : ∀ (s sep : ByteArray) (m : Int) (w : World), s.size < 4294967281 → w.cell? ⟨k, 0, none⟩ = some (.int .i64 m) → Calls P f #[.string s, .string sep] w fun e w' => e = .returned (.bool (Lib.contains s.data.toList sep.data.toList)) ∧ w' = w) :
    (⟨f, [.v .str, .v .str], [.v .bool], fun x => (containsL x.1 x.2.1).map fun y => (y, ())⟩ : Con).Sound P G :=
  two_leaf (t := .bool) (fn := containsL) (· = k) (fun j e => e ▸ hk) hfn (fun _ => rfl) fun s p y w h hm => by
    obtain ⟨c, h⟩ := chk_some h
    cases h
    obtain ⟨m, hm⟩ := hm k rfl
    exact ⟨_, fun _ _ => rfl, hc s p m w (of_decide_eq_true c) hm⟩
theorem count_leaf {k : Nat} (hk : k ∈ G) (hfn : ∃ fn', P.funcs[f]? = some fn' ∧ (fn'.name == "runtime.NumGoroutine") = false ∧ fn'.body.isSome = true)
    (hc : ∀ (s sep : ByteArray) (m : Int) (w : World), s.size < 4294967281 → w.cell? ⟨k, 0, none⟩ = some (.int .i64 m) → 1 ≤ sep.size → Calls P f #[.string s, .string sep] w fun e w' => e = .returned (.int .i64 (Lib.countB s sep)) ∧ w' = w) :
    (⟨f, [.v .str, .v .str], [.v (.int .i64)], fun x => (countL x.1 x.2.1).map fun y => (y, ())⟩ : Con).Sound P G :=
  two_leaf (t := .int .i64) (fn := countL) (· = k) (fun j e => e ▸ hk) hfn (fun _ => rfl) fun s p y w h hm => by
    obtain ⟨c, h⟩ := chk_some h
    simp only [Bool.and_eq_true, decide_eq_true_eq] at c
    cases h
    obtain ⟨m, hm⟩ := hm k rfl
    exact ⟨_, fun _ _ => rfl, hc s p m w c.1 hm c.2⟩
theorem hasSuf_leaf (hfn : ∃ fn', P.funcs[f]? = some fn' ∧ (fn'.name == "runtime.NumGoroutine") = false ∧ fn'.body.isSome = true)
    (hc : ∀ (s p : ByteArray) (w : World), s.size ≤ 9223372036854775807 → Calls P f #[.string s, .string p] w fun e w' => e = .returned (.bool (Lib.hasSuffix s.data.toList p.data.toList)) ∧ w' = w) :
    (⟨f, [.v .str, .v .str], [.v .bool], fun x => (hasSufL x.1 x.2.1).map fun y => (y, ())⟩ : Con).Sound P G :=
  two_leaf (t := .bool) (fn := hasSufL) (fun _ => False) (fun j e => e.elim) hfn (fun _ => rfl) fun s p y w h _ => by
    obtain ⟨c, h⟩ := chk_some h
    cases h
    exact ⟨_, fun _ _ => rfl, hc s p w (of_decide_eq_true c)⟩
theorem trimSuf_leaf (hfn : ∃ fn', P.funcs[f]? = some fn' ∧ (fn'.name == "runtime.NumGoroutine") = false ∧ fn'.body.isSome = true)
    (hc : ∀ (s p : ByteArray) (w : World), s.size ≤ 9223372036854775807 → Calls P f #[.string s, .string p] w fun e w' => e = .returned (.string ⟨(Lib.trimSuffix s.data.toList p.data.toList).toArray⟩) ∧ w' = w) :
    (⟨f, [.v .str, .v .str], [.v .str], fun x => (trimSufL x.1 x.2.1).map fun y => (y, ())⟩ : Con).Sound P G :=
  two_leaf (t := .str) (fn := trimSufL) (fun _ => False) (fun j e => e.elim) hfn (fun _ => rfl) fun s p y w h _ => by
    obtain ⟨c, h⟩ := chk_some h
    cases h
    exact ⟨_, fun _ _ => rfl, hc s p w (of_decide_eq_true c)⟩
theorem str_reps {w : World} {ok : Nat → Prop} : ∀ {l : List ByteArray}, Reps w ok .str l (l.map Value.string)
  | [] => rfl
  | x :: l => ⟨[.string x], l.map Value.string, rfl, rfl, str_reps⟩
theorem strs_own (w : World) (e : TypeId) (l : List ByteArray) (cs : Array Value) (hl : l.length ≤ cs.size) (hm : cs.size ≤ maxLen) (hc : cs.toList.take l.length = l.map Value.string) :
    (w.alloc (.cells cs e)).ownsRow w.heap.size e 1 (.slice (some ⟨w.heap.size, 0, none⟩) l.length cs.size) l.length (l.map Value.string) :=
  ⟨(List.length_map _).trans (Nat.mul_one _).symm, .inr ⟨w.heap.size, cs.size, cs, rfl, Nat.le_refl _, heap_alloc_new w _, hl, hm, (Nat.mul_one _).symm, by rw [Nat.mul_one]; exact hc⟩⟩
theorem below_alloc (w : World) (o : Obj) : Below w.heap.size w (w.alloc o) := (Below.refl _ _).alloc (Nat.le_refl _) _
theorem itoa_leaf (hfn : ∃ fn', P.funcs[f]? = some fn' ∧ (fn'.name == "runtime.NumGoroutine") = false ∧ fn'.body.isSome = true)
    (hc : ∀ (i : Nat), i < 100 → ∀ w : World, Calls P f #[.int .i64 i] w fun e w' => e = .returned (.string ⟨(Lib.decDigits i).toArray⟩) ∧ w' = w) :
    (⟨f, [.v (.int .i64)], [.v .str], fun x => (itoaL x.1).map fun y => (y, ())⟩ : Con).Sound P G := by
  refine con_vals hfn (fun _ => rfl) rfl (fun _ => rfl) fun x y vs w g hrv hok hG h => ?_
  match vs, hrv with
  | [v0], ⟨h0, _⟩ =>
    obtain rfl : v0 = .int .i64 x.1 := h0
    unfold itoaL at h
    obtain ⟨c, h⟩ := chk_some h
    simp only [Bool.and_eq_true, decide_eq_true_eq] at c
    cases h
    obtain ⟨z, hz⟩ : ∃ z : Int, z = x.1 := ⟨x.1, rfl⟩
    rw [← hz] at c ⊢
    obtain ⟨i, rfl⟩ : ∃ i : Nat, z = (i : Int) := ⟨z.toNat, by omega⟩
    refine (hc i (by omega) w).mono ?_
    rintro e w' ⟨rfl, rfl⟩
    exact ⟨[.string _], rfl, Below.refl _ _, ⟨by rw [Int.toNat_natCast]; rfl, trivial⟩⟩
theorem trim_leaf (hfn : ∃ fn', P.funcs[f]? = some fn' ∧ (fn'.name == "runtime.NumGoroutine") = false ∧ fn'.body.isSome = true)
    (hc : ∀ (s c : ByteArray) (w : World), s.size ≤ 9223372036854775807 → c.size < 4294967281 → (∀ (j : Nat) b, c.data.toList[j]? = some b → b.toNat < 128) →
      Calls P f #[.string s, .string c] w fun e w' => e = .returned (.string ⟨(Lib.trimS s.data.toList c.data.toList).toArray⟩) ∧ Below w.heap.size w w') :
    (⟨f, [.v .str, .v .str], [.v .str], fun x => (trimL x.1 x.2.1).map fun y => (y, ())⟩ : Con).Sound P G := by
  refine con_vals hfn (fun _ => rfl) rfl (fun _ => rfl) fun x y vs w g hrv hok hG h => ?_
  match vs, hrv with
  | [v0, v1], ⟨h0, h1, _⟩ =>
    obtain rfl : v0 = .string x.1 := h0
    obtain rfl : v1 = .string x.2.1 := h1
    unfold trimL at h
    obtain ⟨c, h⟩ := chk_some h
    simp only [Bool.and_eq_true, decide_eq_true_eq, List.all_eq_true] at c
    cases h
    refine (hc x.1 x.2.1 w c.1 c.2.1 fun j b hj => c.2.2 b (List.mem_of_getElem? hj)).mono ?_
    rintro e w' ⟨rfl, hb⟩
    exact ⟨[.string _], rfl, hb, ⟨rfl, trivial⟩⟩
theorem cut_leaf {k : Nat} (hk : k ∈ G) (hfn : ∃ fn', P.funcs[f]? = some fn' ∧ (fn'.name == "runtime.NumGoroutine") = false ∧ fn'.body.isSome = true)
    (hc : ∀ (s sep : ByteArray) (m : Int) (w : World), s.size < 4294967281 → w.cell? ⟨k, 0, none⟩ = some (.int .i64 m) →
      Calls P f #[.string s, .string sep] w fun e w' => e = .returned (.tuple #[.string ⟨(Lib.cut s.data.toList sep.data.toList).1.toArray⟩, .string ⟨(Lib.cut s.data.toList sep.data.toList).2.1.toArray⟩, .bool (Lib.cut s.data.toList sep.data.toList).2.2]) ∧ ∃ n, w' = w.drewN n) :
    (⟨f, [.v .str, .v .str], [.v .str, .v .str, .v .bool], fun x => (cutL x.1 x.2.1).map fun y => (y, ())⟩ : Con).Sound P G := by
  refine con_vals hfn (fun _ => rfl) rfl (fun _ => rfl) fun x y vs w g hrv hok hG h => ?_
  match vs, hrv with
  | [v0, v1], ⟨h0, h1, _⟩ =>
    obtain rfl : v0 = .string x.1 := h0
    obtain rfl : v1 = .string x.2.1 := h1
    unfold cutL at h
    obtain ⟨c, h⟩ := chk_some h
    cases h
    obtain ⟨_, m, hm⟩ := hG k hk
    refine (hc x.1 x.2.1 m w (of_decide_eq_true c) hm).mono ?_
    rintro e w' ⟨rfl, n, rfl⟩
    exact ⟨[.string _, .string _, .bool _], rfl, ⟨rfl, rfl, rfl, Nat.le_refl _, fun _ _ => rfl⟩, ⟨rfl, rfl, rfl, trivial⟩⟩
theorem atoi_leaf (hfn : ∃ fn', P.funcs[f]? = some fn' ∧ (fn'.name == "runtime.NumGoroutine") = false ∧ fn'.body.isSome = true) {t : TypeId}
    (hc : ∀ (s : ByteArray), s.size ≤ 9223372036854775806 → ∀ v : Int, Lib.atoiAll s.data.toList = .ok v → ∀ w : World,
      Calls P f #[.string s] w fun e w' => e = .returned (.tuple #[.int .i64 v, .nilIface]) ∧ (w' = w ∨ ∃ z, w' = Lib.bytesWorld w t z)) :
    (⟨f, [.v .str], [.v (.int .i64), .nilI], fun x => (atoiL x.1).map fun y => (y, ())⟩ : Con).Sound P G := by
  refine con_vals hfn (fun _ => rfl) rfl (fun _ => rfl) fun x y vs w g hrv hok hG h => ?_
  match vs, hrv with
  | [v0], ⟨h0, _⟩ =>
    obtain rfl : v0 = .string x.1 := h0
    unfold atoiL at h
    obtain ⟨c, h⟩ := chk_some h
    have c := of_decide_eq_true c
    split at h
    · rename_i v hv
      cases h
      refine (hc x.1 (by omega) v hv w).mono ?_
      rintro e w' ⟨rfl, hw⟩
      refine ⟨[.int .i64 v, .nilIface], rfl, ?_, ⟨rfl, rfl, trivial⟩⟩
      rcases hw with rfl | ⟨z, rfl⟩
      · exact Below.refl _ _
      · exact Lib.bytesWorld_below w _ _
    · cases h
theorem splitN_leaf {k e : Nat} (hk : k ∈ G) (hfn : ∃ fn', P.funcs[f]? = some fn' ∧ (fn'.name == "runtime.NumGoroutine") = false ∧ fn'.body.isSome = true)
    (hc : ∀ (s sep : ByteArray) (n : Nat) (m : Int) (w : World), s.size < 4294967281 → w.cell? ⟨k, 0, none⟩ = some (.int .i64 m) → 1 ≤ sep.size → 1 ≤ n → n ≤ 9223372036854775807 →
      Calls P f #[.string s, .string sep, .int .i64 n] w fun e' w' =>
        e' = .returned (.slice (some ⟨w.heap.size, 0, none⟩) (Lib.splitB sep 0 (min n (s.size + 1) - 1) s).length (min n (s.size + 1))) ∧ w' = w.alloc (.cells (Lib.cellsOf (Lib.splitB sep 0 (min n (s.size + 1) - 1) s) (min n (s.size + 1))) e)) :
    (⟨f, [.v .str, .v .str, .v (.int .i64)], [.own false e .str], fun x => (splitNL x.1 x.2.1 x.2.2.1).map fun l => ((l, ()), ())⟩ : Con).Sound P G := by
  refine con_row (t := .str) hfn (fun _ => rfl) rfl fun x l vs w g hrv hok hG h => ?_
  match vs, hrv with
  | [v0, v1, v2], ⟨h0, h1, h2, _⟩ =>
    obtain rfl : v0 = .string x.1 := h0
    obtain rfl : v1 = .string x.2.1 := h1
    obtain rfl : v2 = .int .i64 x.2.2.1 := h2
    unfold splitNL at h
    obtain ⟨c, h⟩ := chk_some h
    simp only [Bool.and_eq_true, decide_eq_true_eq] at c
    cases h
    obtain ⟨_, m, hm⟩ := hG k hk
    obtain ⟨z, hz⟩ : ∃ z : Int, z = x.2.2.1 := ⟨x.2.2.1, rfl⟩
    rw [← hz] at c ⊢
    obtain ⟨n, rfl⟩ : ∃ n : Nat, z = (n : Int) := ⟨z.toNat, by omega⟩
    refine (hc x.1 x.2.1 n m w c.1 hm c.2.1 (by omega) (by omega)).mono ?_
    rintro e' w' ⟨rfl, rfl⟩
    rw [Int.toNat_natCast]
    have hl : (Lib.splitB x.2.1 0 (min n (x.1.size + 1) - 1) x.1).length ≤ min n (x.1.size + 1) := by have := Lib.splitB_length_le x.2.1 0 (min n (x.1.size + 1) - 1) x.1; omega
    have hz := Lib.cellsOf_size hl
    have hr := strs_own w e (Lib.splitB x.2.1 0 (min n (x.1.size + 1) - 1) x.1) (Lib.cellsOf (Lib.splitB x.2.1 0 (min n (x.1.size + 1) - 1) x.1) (min n (x.1.size + 1))) (by rw [hz]; exact hl) (by rw [hz]; unfold maxLen; omega) (by simp [Lib.cellsOf])
    rw [hz] at hr
    exact ⟨_, _, rfl, below_alloc _ _, hr, str_reps⟩
theorem split_leaf {k e : Nat} (hk : k ∈ G) (hfn : ∃ fn', P.funcs[f]? = some fn' ∧ (fn'.name == "runtime.NumGoroutine") = false ∧ fn'.body.isSome = true)
    (hc : ∀ (s sep : ByteArray) (m : Int) (w : World), s.size < 4294967281 → w.cell? ⟨k, 0, none⟩ = some (.int .i64 m) → 1 ≤ sep.size →
      Calls P f #[.string s, .string sep] w fun e' w' =>
        e' = .returned (.slice (some ⟨w.heap.size, 0, none⟩) (Lib.countB s sep + 1) (Lib.countB s sep + 1)) ∧ w' = w.alloc (.cells ((Lib.splitB sep 0 (Lib.countB s sep) s).map Value.string).toArray e)) :
    (⟨f, [.v .str, .v .str], [.own false e .str], fun x => (splitL x.1 x.2.1).map fun l => ((l, ()), ())⟩ : Con).Sound P G := by
  refine con_row (t := .str) hfn (fun _ => rfl) rfl fun x l vs w g hrv hok hG h => ?_
  match vs, hrv with
  | [v0, v1], ⟨h0, h1, _⟩ =>
    obtain rfl : v0 = .string x.1 := h0
    obtain rfl : v1 = .string x.2.1 := h1
    unfold splitL at h
    obtain ⟨c, h⟩ := chk_some h
    simp only [Bool.and_eq_true, decide_eq_true_eq] at c
    cases h
    obtain ⟨_, m, hm⟩ := hG k hk
    refine (hc x.1 x.2.1 m w c.1 hm c.2).mono ?_
    rintro e' w' ⟨rfl, rfl⟩
    have hl : (Lib.splitB x.2.1 0 (Lib.countB x.1 x.2.1) x.1).length = Lib.countB x.1 x.2.1 + 1 := Lib.splitB_all x.2.1 c.2 0 _ x.1 rfl
    have hsz : ((Lib.splitB x.2.1 0 (Lib.countB x.1 x.2.1) x.1).map Value.string).toArray.size = (Lib.splitB x.2.1 0 (Lib.countB x.1 x.2.1) x.1).length := by rw [List.size_toArray, List.length_map]
    have hcl : Lib.countB x.1 x.2.1 ≤ x.1.size + 1 := by
      have := Lib.count_le x.1.data.toList x.2.1.data.toList
      rw [Array.length_toList] at this
      exact this
    have hr := strs_own w e (Lib.splitB x.2.1 0 (Lib.countB x.1 x.2.1) x.1) ((Lib.splitB x.2.1 0 (Lib.countB x.1 x.2.1) x.1).map Value.string).toArray (Nat.le_of_eq hsz.symm) (by rw [hsz, hl]; unfold maxLen; omega) (by rw [List.take_of_length_le (by rw [List.length_map]; exact Nat.le_refl _)])
    rw [hsz] at hr
    rw [hl] at hr
    refine ⟨_, _, rfl, below_alloc _ _, ?_, str_reps⟩
    show World.ownsRow _ _ _ 1 _ (Lib.splitB x.2.1 0 (Lib.countB x.1 x.2.1) x.1).length _
    rw [hl]; exact hr
theorem join_run (hc : ∀ (bk o c : Nat) (xs : List ByteArray) (sep : ByteArray) (w : World), (∀ (j : Nat) x, xs[j]? = some x → w.cell? ⟨bk, o + j, none⟩ = some (.string x)) → bk < w.heap.size → xs.length ≤ 140737488355328 → xs.length ≤ c → (Lib.join (xs.map (·.data.toList)) sep.data.toList).length ≤ 140737488355328 →
      Calls P f #[.slice (some ⟨bk, o, none⟩) xs.length c, .string sep] w fun e w' => e = .returned (.string ⟨(Lib.join (xs.map (·.data.toList)) sep.data.toList).toArray⟩) ∧ Below w.heap.size w w')
    (h0 : ∀ (a : Option Addr) (c : Nat) (sep : ByteArray) (w : World), Calls P f #[.slice a 0 c, .string sep] w fun e w' => e = .returned (.string ⟨#[]⟩) ∧ w' = w)
    (xl : List ByteArray) (sep : ByteArray) (w : World) (g : Gh) (v : Value) (hr0 : RowAt (Rep w g.ok .str) 1 w g.ok xl v) (h1 : (Lib.join (xl.map (·.data.toList)) sep.data.toList).length ≤ 140737488355328) (h2 : xl.length ≤ 140737488355328) :
    Calls P f #[v, .string sep] w fun e w' => e = .returned (.string ⟨(Lib.join (xl.map (·.data.toList)) sep.data.toList).toArray⟩) ∧ Below w.heap.size w w' := by
  obtain ⟨A, cp, rfl, hle, _, hl⟩ := hr0
  cases xl with
  | nil =>
    refine (h0 A cp sep w).mono ?_
    rintro e w' ⟨rfl, rfl⟩
    exact ⟨rfl, Below.refl _ _⟩
  | cons x0 l =>
    rcases hl with e0 | ⟨ad, rfl, hok', hcell⟩
    · cases e0
    · have hat : ∀ (j : Nat) (y : ByteArray), (x0 :: l)[j]? = some y → w.cell? (ad.add j) = some (.string y) := fun j y hj => by
        obtain ⟨cc, _, hrep, hcc⟩ := hcell j y hj
        obtain rfl : cc = [.string y] := hrep
        have := hcc 0 (.string y) rfl
        rwa [Nat.mul_one, Nat.add_zero] at this
      have hc0 := hat 0 x0 rfl
      have hs : ad.spot = none := by
        have h0 : w.cell? ad = some (.string x0) := by simpa [Addr.add] using hc0
        unfold World.cell? at h0
        split at h0
        · split at h0
          · cases h0
          · rename_i hsp; simpa using hsp
        · cases h0
      obtain ⟨bk, o, sp⟩ := ad
      obtain rfl : sp = none := hs
      have hadd : ∀ j, (⟨bk, o, none⟩ : Addr).add j = ⟨bk, o + j, none⟩ := fun j => by unfold Addr.add; split <;> simp_all
      refine hc bk o cp (x0 :: l) sep w (fun j y hj => by rw [← hadd]; exact hat j y hj) ?_ h2 hle h1
      have := cell_lt hc0
      rwa [add_block] at this
theorem join_leaf {e : Nat} (hfn : ∃ fn', P.funcs[f]? = some fn' ∧ (fn'.name == "runtime.NumGoroutine") = false ∧ fn'.body.isSome = true)
    (hc : ∀ (bk o c : Nat) (xs : List ByteArray) (sep : ByteArray) (w : World), (∀ (j : Nat) x, xs[j]? = some x → w.cell? ⟨bk, o + j, none⟩ = some (.string x)) → bk < w.heap.size → xs.length ≤ 140737488355328 → xs.length ≤ c → (Lib.join (xs.map (·.data.toList)) sep.data.toList).length ≤ 140737488355328 →
      Calls P f #[.slice (some ⟨bk, o, none⟩) xs.length c, .string sep] w fun e w' => e = .returned (.string ⟨(Lib.join (xs.map (·.data.toList)) sep.data.toList).toArray⟩) ∧ Below w.heap.size w w')
    (h0 : ∀ (a : Option Addr) (c : Nat) (sep : ByteArray) (w : World), Calls P f #[.slice a 0 c, .string sep] w fun e w' => e = .returned (.string ⟨#[]⟩) ∧ w' = w) :
    (⟨f, [.v (.slc e .str), .v .str], [.v .str], fun x => (joinL x.1 x.2.1).map fun y => (y, ())⟩ : Con).Sound P G := by
  refine con_vals hfn (fun _ => rfl) rfl (fun _ => rfl) fun x y vs w g hrv hok hG h => ?_
  match vs, hrv with
  | [v0, v1], ⟨hr0, h1, _⟩ =>
    obtain rfl : v1 = .string x.2.1 := h1
    unfold joinL at h
    obtain ⟨c, h⟩ := chk_some h
    simp only [Bool.and_eq_true, decide_eq_true_eq] at c
    cases h
    refine (join_run hc h0 x.1 x.2.1 w g v0 hr0 c.1 c.2).mono ?_
    rintro e w' ⟨rfl, hb⟩
    exact ⟨[.string _], rfl, hb, ⟨rfl, trivial⟩⟩
end
end Go.Proofs.YtjdglbkjdfidoaaGreatDoorV

/- slices.Sort as a rule of a run: each step holds of the model's own run. Conditions: those that each theorem states. -/
/- A checked abstract run of Go functions: slices.Sort of whole numbers, in place. -/
import Derived.Test.YtabegablnfmolaaVaiRule
import Derived.Sort.Row
import Derived.Sort.Grow
namespace Go.Proofs.YtabegablnfmolaaV
set_option linter.unusedVariables false
set_option linter.unusedSimpArgs false
open Go.Sort
def sortI (l : List Int) : List Int := l.mergeSort fun x y => decide (x ≤ y)
def sortRule (f : Nat) : Rule := ⟨f, fun _ s as _ K => match as with
  | [.own b] => match hget s.heap b with
    | some (.row pin e t l) => match castL (.int .i64) t l with
      | some l => chk (decide (List.length l < 4611686018427387904)) (K ⟨s.env, (b, .row pin e (.int .i64) (sortI l)) :: hdel s.heap b⟩ (.tup []))
      | none => none
    | _ => none
  | _ => none⟩
section
variable {P : Program} {X : Cx} {s : St} {a : Act} {w w' : World} {g g' : Gh}
theorem reps_int {ok : Nat → Prop} {k : IntKind} : ∀ {l : List Int} {cs : List Value}, Reps w ok (.int k) l cs → cs = l.map (Value.int k ·)
  | [], _, h => h
  | x :: l, _, ⟨c1, c2, h, h1, h2⟩ => by
    rw [h, show c1 = [Value.int k x] from h1, reps_int h2]; rfl
theorem int_reps {ok : Nat → Prop} {k : IntKind} : ∀ {l : List Int}, Reps w ok (.int k) l (l.map (Value.int k ·))
  | [] => rfl
  | x :: l => ⟨[.int k x], l.map (Value.int k ·), rfl, rfl, int_reps⟩
theorem put_grown (n blk off : Nat) (d : Array Int) (os : Array Obj) : w.grownBy (grow (putRow (Value.int .i64) (Sort.ahead w n) blk off d) os) (some blk) := by
  refine ⟨rfl, rfl, rfl, by simp, fun k hk hne => ?_⟩
  have hne : k ≠ blk := fun e => hne (by rw [e])
  rw [heap_grow_old _ _ (by simpa using hk)]
  simp only [putRow, mapBlock, heap_ahead, Array.getElem?_modify]
  rw [if_neg (fun e => hne e.symm)]
theorem put_cells {blk : Nat} {cur : Array Value} {e : Nat} {fr : Nat × Nat} (n : Nat) (d : Array Int) (os : Array Obj) (hb : w.heap[blk]? = some (.cells cur e fr)) : (grow (putRow (Value.int .i64) (Sort.ahead w n) blk 0 d) os).heap[blk]? = some (.cells (putCells (Value.int .i64) 0 d cur) e fr) := by
  have hlt : blk < w.heap.size := (Array.getElem?_eq_some_iff.1 hb).1
  rw [heap_grow_old _ _ (by simpa using hlt)]
  simp only [putRow, mapBlock, heap_ahead, Array.getElem?_modify, hb]
  simp [onCells]
theorem put_list {cur : Array Value} (d : List Int) (h : d.length ≤ cur.size) : (putCells (Value.int .i64) 0 d.toArray cur).toList = d.map (Value.int .i64 ·) ++ cur.toList.drop d.length := by
  apply List.ext_getElem
  · simp [putCells]; omega
  · intro i h1 h2
    simp only [putCells, Array.toList_mapIdx, List.getElem_mapIdx]
    by_cases hi : i < d.length
    · rw [if_pos (by simp; omega), List.getElem_append_left (by simpa using hi)]
      simp [getElem!_pos, hi]
    · rw [if_neg (by simp; omega), List.getElem_append_right (by simpa using hi)]
      simp
      congr 1
      omega
theorem sort_step {f : Nat}
    (h0 : ∀ (p : Option Addr) (cap : Nat) (w : World), Calls P f #[.slice p 0 cap] w fun e w' => e = .returned (.tuple #[]) ∧ w' = w)
    (h1 : ∀ (blk off cap : Nat) (zs : List Int) (w : World), Holds (Value.int .i64) w blk off zs.toArray → blk < w.heap.size → zs.length < 4611686018427387904 →
      Calls P f #[.slice (some ⟨blk, off, none⟩) zs.length cap] w fun e w' => e = .returned (.tuple #[]) ∧ ∃ n os, w' = grow (putRow (Value.int .i64) (Sort.ahead w n) blk off (zs.mergeSort fun x y => decide (x ≤ y)).toArray) os)
    (h : Sim X s a w g) {b d : Nat} {pin : Bool} {e : Nat} (l : List Int) (hb : hget s.heap b = some (.row pin e (.int .i64) l)) (hsz4 : l.length < 4611686018427387904) {N : Value → World → Prop}
    (hN : ∀ w' g', Sim X ⟨s.env, (b, .row pin e (.int .i64) (sortI l)) :: hdel s.heap b⟩ a w' g' → Chg d [b] w g w' g' → N (.tuple #[]) w') :
    Calls P f #[g.val b] w fun e w' => ∃ v, e = .returned v ∧ N v w' := by
  have hl : g.live b := (h.live b).2 (by rw [hb]; rfl)
  obtain ⟨inner, ⟨q1, q2⟩, q3⟩ := h.blk b _ hb
  have hin := reps_int q3
  rcases q2 with ⟨q2, q4⟩ | ⟨k, cap, cur, q2, q4, q5, q6, q7, q8, q9⟩
  · have : l = [] := List.eq_nil_of_length_eq_zero q4
    subst this
    rw [q2]
    refine (h0 none 0 w).mono ?_
    rintro e' w' ⟨rfl, rfl⟩
    refine ⟨_, rfl, hN _ _ (h.same fun n => ?_) (Chg.refl _ _ _ _)⟩
    rw [hget_set]
    split
    · rename_i e1
      have e2 : sortI [] = [] := by simp [sortI]
      rw [e2, e1, hb]
    · rfl
  · have q2 : g.val b = .slice (some ⟨k, 0, none⟩) l.length cap := q2
    have q6 : l.length ≤ cap := q6
    have q8 : cur.size = cap * 1 := q8
    have q9 : cur.toList.take (l.length * 1) = inner := q9
    have hin : inner = l.map (Value.int .i64 ·) := hin
    rw [Nat.mul_one] at q8 q9
    rw [q2]
    have hsz : l.length ≤ cur.size := by omega
    have htake : cur.toList.take l.length = l.map (Value.int .i64 ·) := by rw [← hin, ← q9]
    have hH : Holds (Value.int .i64) w k 0 l.toArray := fun j hj => by
      have hj' : j < l.length := by simpa using hj
      constructor
      · have : (cur.toList.take l.length)[j]? = (l.map (Value.int .i64 ·))[j]? := by rw [htake]
        rw [List.getElem?_take, if_pos hj', List.getElem?_map, List.getElem?_eq_getElem hj'] at this
        simp only [World.cell?, q5, Nat.zero_add]
        rw [if_neg (by simp), ← Array.getElem?_toList, this]
        simp [hj']
      · simp [World.frozen?, q5]
    have hlt : k < w.heap.size := (Array.getElem?_eq_some_iff.1 q5).1
    refine (h1 k 0 cap l w hH hlt hsz4).mono ?_
    rintro e' w' ⟨rfl, n, os, rfl⟩
    have hlen : (sortI l).length = l.length := by simp [sortI]
    have hg : w.grownBy (grow (putRow (Value.int .i64) (Sort.ahead w n) k 0 (l.mergeSort fun x y => decide (x ≤ y)).toArray) os) (some k) := put_grown n k 0 _ os
    refine ⟨_, rfl, hN _ _ (h.rewrite hb (by rw [q2]; rfl) hg (inner := (sortI l).map (Value.int .i64 ·)) ⟨?_, .inr ⟨k, cap, _, ?_, q4, put_cells n _ os q5, ?_, q7, ?_, ?_⟩⟩ int_reps) (Chg.row h hl (by simp) (.inl (by rw [q2]; rfl)) hg)⟩
    · show ((sortI l).map (Value.int .i64 ·)).length = (sortI l).length * 1
      simp
    · show g.val b = .slice (some ⟨k, 0, none⟩) (sortI l).length cap
      rw [hlen]; exact q2
    · show (sortI l).length ≤ cap
      rw [hlen]; exact q6
    · show (putCells _ _ _ _).size = cap * 1
      simpa [putCells] using q8
    · show List.take ((sortI l).length * 1) _ = _
      rw [show (l.mergeSort fun x y => decide (x ≤ y)) = sortI l from rfl, put_list _ (by omega), Nat.mul_one, List.take_append_of_le_length (by simp), List.take_of_length_le (by simp)]
theorem sortRule_ok {f : Nat} (hfn : ∃ fn, P.funcs[f]? = some fn ∧ (fn.name == "runtime.NumGoroutine") = false ∧ fn.body.isSome = true)
    (h0 : ∀ (p : Option Addr) (cap : Nat) (w : World), Calls P f #[.slice p 0 cap] w fun e w' => e = .returned (.tuple #[]) ∧ w' = w)
    (h1 : ∀ (blk off cap : Nat) (zs : List Int) (w : World), Holds (Value.int .i64) w blk off zs.toArray → blk < w.heap.size → zs.length < 4611686018427387904 →
      Calls P f #[.slice (some ⟨blk, off, none⟩) zs.length cap] w fun e w' => e = .returned (.tuple #[]) ∧ ∃ n os, w' = grow (putRow (Value.int .i64) (Sort.ahead w n) blk off (zs.mergeSort fun x y => decide (x ≤ y)).toArray) os) : RuleOk P (sortRule f) := by
  refine ⟨hfn, fun X s a w g d as vs α K xx h hdp hr he N hN => ?_⟩
  unfold sortRule at he
  simp only at he
  split at he
  · rename_i b
    obtain ⟨v, rfl, hv⟩ : ∃ v, vs = [v] ∧ RV w g (.own b) v := by
      match vs, hr with
      | [v], hr => exact ⟨v, rfl, hr.1⟩
    split at he
    · rename_i pin e t l hb
      split at he
      · rename_i l0 hc
        obtain ⟨e0, hq⟩ := castL_some hc
        cases e0
        obtain rfl := eq_of_heq hq
        obtain ⟨hsz4, he⟩ := chk_some he
        obtain ⟨hl, rfl⟩ := hv
        exact sort_step h0 h1 h (d := d) l0 hb (of_decide_eq_true hsz4) fun w' g' h1 h2 => hN _ _ _ _ _ he h1 ⟨[], rfl, trivial⟩ (by simpa [names, argNames, nameOf] using h2)
      · cases he
    · cases he
  · cases he
end
end Go.Proofs.YtabegablnfmolaaV

/- From a law as a plain function to the walk of its row: each step holds of the model's own run. Conditions: those that each theorem states. -/
import Derived.Test.YthgmnlfbgajchaaVaiStep
import Derived.Test.YthgmnlfbgajchaaVaiNice
import Derived.Below
/-! From a law's function, told as a plain one, to the walk that the law's row asks for. -/
namespace Go.Proofs.YthgmnlfbgajchaaV
set_option linter.unusedVariables false
set_option linter.unusedSimpArgs false
open Go.RowKit
def IsRow (k : IntKind) (w : World) (a : Option Addr) (len cap : Nat) (zs : List Int) : Prop :=
  (a = none ∧ len = 0 ∧ cap = 0 ∧ zs = []) ∨
  ∃ x, a = some x ∧ len ≤ cap ∧ cap ≤ maxLen ∧ zs.length = cap ∧ (∀ i, i < zs.length → w.cell? (x.add i) = some (.int k (zs.getD i 0))) ∧ ∀ n ∈ zs, (Lit.int k n).wf = true
/-- A row that came in. -/
theorem row_in {k : IntKind} {w : World} {a : Option Addr} {len cap : Nat} {zs : List Int} (h : IsRow k w a len cap zs) (ok : Nat → Prop) (hok : ∀ q, q < w.heap.size → ok q) :
    ∃ l : List Int, len = l.length ∧ l.length ≤ maxLen ∧ (∀ x ∈ l, (Lit.int k x).wf = true) ∧ RowAt (Rep w ok (.int k)) 1 w ok l (.slice a len cap) := by
  rcases h with ⟨rfl, rfl, rfl, rfl⟩ | ⟨x, rfl, h1, h2, h3, h4, h5⟩
  · exact ⟨[], rfl, Nat.zero_le _, fun _ h => (by cases h), none, 0, rfl, Nat.le_refl _, fun _ => rfl, .inl rfl⟩
  · have hl : (zs.take len).length = len := by rw [List.length_take]; omega
    refine ⟨zs.take len, hl.symm, by rw [hl]; omega, fun n hn => h5 n (List.mem_of_mem_take hn), some x, cap, (by show Value.slice _ len cap = Value.slice _ (zs.take len).length cap; rw [hl]), (show (zs.take len).length ≤ cap by rw [hl]; exact h1), fun h => (by cases h), ?_⟩
    rcases Nat.eq_zero_or_pos len with rfl | hp
    · exact .inl (show zs.take 0 = [] by simp)
    · refine .inr ⟨x, rfl, hok _ ?_, fun j y hj => ⟨[.int k y], rfl, rfl, fun i u hu => ?_⟩⟩
      · have := cell_lt (h4 0 (by omega))
        rwa [add_block] at this
      · cases i with
        | zero =>
          simp only [List.getElem?_cons_zero, Option.some.injEq] at hu
          subst hu
          have hj' := hj
          replace hj : (zs.take len)[j]? = some y := hj
          rw [List.getElem?_take] at hj
          split at hj
          · rename_i hlt
            rw [show j * 1 + 0 = j by omega, h4 j (by omega), List.getD_eq_getElem?_getD, hj]; rfl
          · cases hj
        | succ i => simp at hu
theorem Kept.below {w w' : World} (h : Kept w.heap.size (fun _ => False) w w') : Below w.heap.size w w' := ⟨h.os, h.tape, h.output, h.size, fun k hk => h.block k hk id⟩
/-- What is asked of a law's plain function. -/
def Law (fn : Nat → List Int → List Int → Option ((Bool × Unit) × Unit)) : Prop := ∀ l0 l1 : List Int, l0.length ≤ 140737488351232 → (∀ x ∈ l0, (Lit.int .u8 x).wf = true) → l1.length ≤ 140737488351232 → (∀ x ∈ l1, (Lit.int .u8 x).wf = true) → ∃ k, fn k l0 l1 = some ((true, ()), ())
/-- The walk. -/
theorem law_walkG {P : Program} {G : List Nat} {f e : Nat} {fn : Nat → List Int → List Int → Option ((Bool × Unit) × Unit)}
    (hs : ∀ k, (⟨f, [.v (.slc e (.int .u8)), .v (.slc e (.int .u8))], [.v .bool], fun x => fn k x.1 x.2.1⟩ : Con).Sound P G) (hp : Law fn)
    (a0 : Option Addr) (len0 cap0 : Nat) (z0 : List Int) (a1 : Option Addr) (len1 cap1 : Nat) (z1 : List Int) (w : World) (w0 : IsRow .u8 w a0 len0 cap0 z0) (y0 : len0 * 1 ≤ 140737488351232) (w1 : IsRow .u8 w a1 len1 cap1 z1) (y1 : len1 * 1 ≤ 140737488351232) (hG : ∀ k ∈ G, ∃ m : Int, w.cell? ⟨k, 0, none⟩ = some (.int .i64 m)) :
    Calls P f #[.slice a0 len0 cap0, .slice a1 len1 cap1] w fun e w' => e = .returned (.bool true) ∧ Below w.heap.size w w' := by
  obtain ⟨l0, rfl, _, hw0, r0⟩ := row_in w0 (fun q => q < w.heap.size) (fun _ h => h)
  obtain ⟨l1, rfl, _, hw1, r1⟩ := row_in w1 (fun q => q < w.heap.size) (fun _ h => h)
  obtain ⟨k, hk⟩ := hp l0 l1 (by omega) hw0 (by omega) hw1
  obtain ⟨_, hS⟩ := hs k
  have hb : ∀ b : Nat, ¬ ∃ y, hget ([] : List (Nat × Blk)) b = some y := fun b ⟨y, h⟩ => by cases h
  refine (hS (l0, l1, ()) (true, ()) () [.slice a0 l0.length cap0, .slice a1 l1.length cap1] w ⟨fun q => q < w.heap.size, fun _ => False, fun _ => .slice none 0 0, fun _ _ => none⟩ (fun _ => True) (fun _ => False) rfl ?_ hk).mono ?_
  · refine ⟨fun t => ?_, fun b => ⟨fun h => False.elim h, fun h => (by cases h)⟩, fun b y h => (by cases h), fun _ _ _ h => False.elim h, fun _ _ h => False.elim h, fun b y h => (by cases h), fun _ h => ⟨h, fun _ => trivial⟩, rfl, rfl, ⟨rfl, rfl, rfl, Nat.le_refl _, fun _ _ _ => rfl⟩, Nat.le_refl _, fun k hk => ⟨(hG k hk).elim fun _ h => cell_lt h, hG k hk⟩⟩
    match t with
    | 0 => exact r0
    | 1 => exact r1
    | t + 2 => exact trivial
  · rintro ex w' ⟨vs, g', rfl, hsim, hrv, _⟩
    have : vs = [.bool true] := by
      match vs, hrv with
      | [v], h => rw [show v = _ from h.1]
    subst this
    exact ⟨rfl, hsim.kept.below⟩
theorem law_walk {P : Program} {f e : Nat} {fn : Nat → List Int → List Int → Option ((Bool × Unit) × Unit)}
    (hs : ∀ k, (⟨f, [.v (.slc e (.int .u8)), .v (.slc e (.int .u8))], [.v .bool], fun x => fn k x.1 x.2.1⟩ : Con).Sound P) (hp : Law fn)
    (a0 : Option Addr) (len0 cap0 : Nat) (z0 : List Int) (a1 : Option Addr) (len1 cap1 : Nat) (z1 : List Int) (w : World) (w0 : IsRow .u8 w a0 len0 cap0 z0) (y0 : len0 * 1 ≤ 140737488351232) (w1 : IsRow .u8 w a1 len1 cap1 z1) (y1 : len1 * 1 ≤ 140737488351232) :
    Calls P f #[.slice a0 len0 cap0, .slice a1 len1 cap1] w fun e w' => e = .returned (.bool true) ∧ Below w.heap.size w w' := law_walkG hs hp a0 len0 cap0 z0 a1 len1 cap1 z1 w w0 y0 w1 y1 (fun k h => (by cases h))
end Go.Proofs.YthgmnlfbgajchaaV

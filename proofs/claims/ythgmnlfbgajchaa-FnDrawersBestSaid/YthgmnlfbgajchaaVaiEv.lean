/- Words for laws of plain functions: loops, wrapped numbers: each step holds of the model's own run. Conditions: those that each theorem states. -/
import Derived.Test.YthgmnlfbgajchaaVaiLaw
/-! Words for laws of printed functions. -/
namespace Go.Proofs.YthgmnlfbgajchaaV
set_option linter.unusedVariables false
set_option linter.unusedSimpArgs false
theorem iw_is (x : Int) : iw x = if decide (x % 18446744073709551616 ≥ 9223372036854775808) = true then x % 18446744073709551616 - 18446744073709551616 else x % 18446744073709551616 := rfl
theorem iw_id {x : Int} (h1 : -9223372036854775808 ≤ x) (h2 : x ≤ 9223372036854775807) : iw x = x := by
  rw [iw_is]; simp only [decide_eq_true_eq]; split <;> omega
theorem iw_in (x : Int) : -9223372036854775808 ≤ iw x ∧ iw x ≤ 9223372036854775807 := by
  rw [iw_is]; simp only [decide_eq_true_eq]; split <;> omega
theorem iw_nat {n : Nat} (h : n < 4611686018427387904) : iw ((n : Int) + 1) = ((n + 1 : Nat) : Int) := by rw [iw_id] <;> omega
theorem chk_true {α : Type} {b : Bool} {K : Option α} (h : b = true) : chk b K = K := by rw [h]; rfl
theorem chk_dec {α : Type} {p : Prop} [Decidable p] {K : Option α} (h : p) : chk (decide p) K = K := chk_true (decide_eq_true h)
theorem ixk_in {α : Type} {i : Int} {n : Nat} {K : Option α} (h1 : 0 ≤ i) (h2 : i < n) : ixk i n K = K := by
  unfold ixk; rw [chk_dec h1, chk_dec h2]
theorem cond_dec {α : Type} {p : Prop} [Decidable p] (a b : α) : cond (decide p) a b = if p then a else b := by
  by_cases h : p <;> simp [h]
theorem rd_nat (l : List Int) (n : Nat) (h : n < l.length) : rd l (n : Int) = l[n] := by
  simp [rd, List.getD_eq_getElem?_getD, h]
theorem rdG_nat {β : Type} (z : β) (l : List β) (n : Nat) (h : n < l.length) : rdG z l (n : Int) = l[n] := by
  simp [rdG, List.getD_eq_getElem?_getD, h]
@[simp] theorem met_inl {α β : Type} (x : β) (F : β → Option α) : met (some (.inl x)) F = F x := rfl
@[simp] theorem met_inr {α β : Type} (y : α) (F : β → Option α) : met (some (.inr y) : Option (β ⊕ α)) F = some y := rfl
/-- A loop that counts: at each place it ends, or goes on to the next place. -/
theorem iter_up {σ α : Type} {F : (σ → Option α) → σ → Option α} (st : Nat → σ) (res : Nat → Option α) (n : Nat)
    (h : ∀ j, j ≤ n → (∀ rec, F rec (st j) = res j) ∨ (j < n ∧ res j = res (j + 1) ∧ ∀ rec, F rec (st j) = rec (st (j + 1)))) :
    ∀ (k j : Nat), j ≤ n → n - j < k → iter k F (st j) = res j
  | 0, _, _, h0 => by omega
  | k + 1, j, hj, hk => by
    show F (iter k F) (st j) = res j
    rcases h j hj with h1 | ⟨h1, h2, h3⟩
    · exact h1 _
    · rw [h3, h2]; exact iter_up st res n h k (j + 1) h1 (by omega)
/-- The same, with what comes behind the loop. -/
theorem iter_met {σ α β : Type} {F : (σ → Option (β ⊕ α)) → σ → Option (β ⊕ α)} {G : β → Option α} (st : Nat → σ) (res : Nat → Option α) (n : Nat)
    (h : ∀ j, j ≤ n → (∀ rec, met (F rec (st j)) G = res j) ∨ (j < n ∧ res j = res (j + 1) ∧ ∀ rec, F rec (st j) = rec (st (j + 1)))) :
    ∀ (k j : Nat), j ≤ n → n - j < k → met (iter k F (st j)) G = res j
  | 0, _, _, h0 => by omega
  | k + 1, j, hj, hk => by
    show met (F (iter k F) (st j)) G = res j
    rcases h j hj with h1 | ⟨h1, h2, h3⟩
    · exact h1 _
    · rw [h3, h2]; exact iter_met st res n h k (j + 1) h1 (by omega)
/-- A loop that never leaves early. -/
theorem iter_to {σ α : Type} {F : (σ → Option α) → σ → Option α} (st : Nat → σ) (n : Nat) (r : Option α)
    (h : ∀ j, j < n → ∀ rec, F rec (st j) = rec (st (j + 1))) (he : ∀ rec, F rec (st n) = r) (k : Nat) (hk : n < k) : iter k F (st 0) = r :=
  iter_up st (fun _ => r) n (fun j hj => by
    rcases Nat.lt_or_ge j n with h1 | h1
    · exact .inr ⟨h1, rfl, h j h1⟩
    · obtain rfl : j = n := by omega
      exact .inl he) k 0 (Nat.zero_le _) (by omega)
/-- Sums that wrap. -/
def sumW (l : List Int) : Int := l.foldl (fun a x => iw (a + x)) 0
theorem take_fold {β : Type} (f : β → Int → β) (z : β) (l : List Int) (n : Nat) (h : n < l.length) : (l.take (n + 1)).foldl f z = f ((l.take n).foldl f z) l[n] := by
  rw [List.take_succ_eq_append_getElem h, List.foldl_append]; rfl
end Go.Proofs.YthgmnlfbgajchaaV

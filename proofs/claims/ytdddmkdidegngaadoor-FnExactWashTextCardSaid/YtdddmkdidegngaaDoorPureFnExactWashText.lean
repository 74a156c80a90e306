/- The program's WashText answers as the reference's, for each wash. No condition. -/
import Derived.Test.YtdddmkdidegngaaDoorPFnExactWashTextx2
namespace Go.Proofs.YtdddmkdidegngaaDoor.Pure
open Go.RowKit Go.Proofs.YtdddmkdidegngaaDoor.PFnExactWashText Go.Proofs.YtdddmkdidegngaaDoorW.PrintWords Go.Proofs.YtdddmkdidegngaaDoorW.PrintLast
set_option linter.unusedVariables false
set_option linter.unusedSimpArgs false
theorem l1In_is (n a b : Int) : spec_l1In.f n a b = some (decide (a ≤ n ∧ n ≤ b)) := by
  unfold spec_l1In.f; by_cases h : n ≥ a <;> simp [h] <;> omega
theorem within_is (n a b : Int) : impl_within.f n a b = some (decide (a ≤ n ∧ n ≤ b)) := by
  unfold impl_within.f; by_cases h : a ≤ n <;> simp [h]
/-! ### Plain words -/
theorem w1 {n : Nat} (h : n < 4611686018427387904) : wrap64 ((n : Int) + 1) = ((n + 1 : Nat) : Int) := by unfold wrap64; omega
theorem w0 {x : Int} (h1 : -9223372036854775808 ≤ x) (h2 : x ≤ 9223372036854775807) : wrap64 x = x := by unfold wrap64; omega
theorem wfi {x : Int} (h : (Lit.int .i64 x).wf = true) : -9223372036854775808 ≤ x ∧ x ≤ 9223372036854775807 := by
  simpa [Lit.wf, IntKind.min, IntKind.max, IntKind.signed, IntKind.bits] using h
theorem getD_nat {α : Type} (l : List α) (z : α) (n : Nat) (h : n < l.length) : l.getD ((n : Int)).toNat z = l[n] := by
  simp [List.getD_eq_getElem?_getD, h]
theorem fill_set {α β : Type} (f : α → β) (l : List α) (z : β) (n : Nat) (h : n < l.length) :
    ((l.take n).map f ++ List.replicate (l.length - n) z).set n (f l[n]) = (l.take (n + 1)).map f ++ List.replicate (l.length - (n + 1)) z := by
  obtain ⟨d, hd⟩ : ∃ d, l.length - n = d + 1 := ⟨l.length - n - 1, by omega⟩
  rw [List.set_append, if_neg (by simp; omega), List.take_succ_eq_append_getElem h]
  have h1 : n - ((l.take n).map f).length = 0 := by simp; omega
  have h2 : l.length - (n + 1) = d := by omega
  rw [h1, h2, hd, List.replicate_succ, List.set_cons_zero, List.map_append]
  simp
theorem getD_set {α : Type} (l : List α) (z : α) (i j : Nat) (v : α) (hi : i < l.length) : (l.set i v).getD j z = if j = i then v else l.getD j z := by
  by_cases h : j = i
  · subst h; simp [List.getD_eq_getElem?_getD, hi]
  · rw [if_neg h]; simp [List.getD_eq_getElem?_getD, Ne.symm h]
/-- A way that needs no rounds. -/
theorem ev_now {α : Type} {g : Nat → Option α} {r : α} (h : ∀ k, g k = some r) : Ev g r := ⟨0, fun k _ => h k⟩
theorem ev_late {α : Type} {g : Nat → Option α} {r : α} (n : Nat) (h : ∀ k, g (k + n) = some r) : Ev g r := ⟨n, fun k hk => by
  obtain ⟨m, rfl⟩ : ∃ m, k = m + n := ⟨k - n, by omega⟩
  exact h m⟩
theorem ev_eq {α : Type} {g : Nat → Option α} {r s : α} (h : Ev g r) (e : r = s) : Ev g s := e ▸ h
/-! ### The decimal text of a small number -/
def numB (n : Nat) : ByteArray := ⟨(Go.Lib.decDigits n).toArray⟩
theorem digit_is : ∀ d : Nat, d < 10 → strOfNums [(wrap64 (48 + (d : Int))) % 256] = (⟨#[UInt8.ofNat (48 + d)]⟩ : ByteArray) := by decide +kernel
theorem numB_one (n : Nat) (h : n < 10) : numB n = (⟨#[UInt8.ofNat (48 + n)]⟩ : ByteArray) := by
  unfold numB; rw [Go.Lib.decDigits, dif_pos h]
theorem numB_two (n : Nat) (h : ¬ n < 10) (h2 : n < 100) : numB n = (⟨#[UInt8.ofNat (48 + n / 10)]⟩ : ByteArray) ++ (⟨#[UInt8.ofNat (48 + n % 10)]⟩ : ByteArray) := by
  unfold numB; rw [Go.Lib.decDigits, dif_neg h, Go.Lib.decDigits, dif_pos (by omega)]
  apply ByteArray.ext
  rw [ByteArray.data_append]
  simp
theorem numB_size (n : Nat) (h : n < 100) : (numB n).size ≤ 2 := by
  by_cases h1 : n < 10
  · rw [numB_one n h1]; exact (by decide : (1 : Nat) ≤ 2)
  · rw [numB_two n h1 h, ByteArray.size_append]; exact (by decide : (1 : Nat) + 1 ≤ 2)
theorem l1Num_one (n : Nat) (h : n < 10) (k : Nat) : spec_l1Num.f (k + 1) (n : Int) = some (numB n) := by
  simp only [spec_l1Num.f]
  rw [if_pos (by omega), digit_is n h, numB_one n h]
theorem l1Num_ev (n : Nat) (h : n < 100) : Ev (fun k => spec_l1Num.f k (n : Int)) (numB n) := by
  by_cases h1 : n < 10
  · exact ev_late 1 fun k => l1Num_one n h1 k
  · refine ev_late 2 fun k => ?_
    rw [show spec_l1Num.f (k + 2) (n : Int) = spec_l1Num.f (k + 1 + 1) (n : Int) from rfl, spec_l1Num.f]
    have hd : Int.tdiv (n : Int) 10 = ((n / 10 : Nat) : Int) := by rw [Int.tdiv_eq_ediv_of_nonneg (by omega)]; omega
    have hm : Int.tmod (n : Int) 10 = ((n % 10 : Nat) : Int) := by rw [Int.tmod_eq_emod_of_nonneg (by omega)]; omega
    rw [if_neg (by omega), hd, hm, w0 (by omega) (by omega), l1Num_one (n / 10) (by omega) k]
    simp only [Option.bind_some]
    rw [digit_is (n % 10) (by omega), numB_one (n / 10) (by omega), if_pos (by exact (by decide : (1 : Nat) + 1 ≤ 9223372036854775807)), numB_two n h1 h]
theorem itoa_is (n : Nat) (h : n < 100) : strconv_Itoa.f (n : Int) = some (numB n) := by
  unfold strconv_Itoa.f; rw [if_pos (by omega)]; rfl
def washB (a b c : Int) : Bool := decide (1 ≤ a ∧ a ≤ 30) && (decide (1 ≤ b ∧ b ≤ 30) && decide (1 ≤ c ∧ c ≤ 30))
def washT (a b c : Nat) : ByteArray := ((((numB a ++ (⟨#[119]⟩ : ByteArray)) ++ numB b) ++ (⟨#[100]⟩ : ByteArray)) ++ numB c)
theorem good_is (a b c : Int) : spec_dyGood.f a b c = some (washB a b c) := by
  unfold spec_dyGood.f washB
  simp only [l1In_is, Option.bind_some]
  by_cases h1 : 1 ≤ a ∧ a ≤ 30 <;> by_cases h2 : 1 ≤ b ∧ b ≤ 30 <;> simp [h1, h2]
theorem wash_is (a b c : Int) : impl_IsWash.f a b c = some (washB a b c) := by
  unfold impl_IsWash.f impl_areTimes.f washB
  simp only [within_is, Option.bind_some]
  by_cases h1 : 1 ≤ a ∧ a ≤ 30 <;> by_cases h2 : 1 ≤ b ∧ b ≤ 30 <;> simp [h1, h2]
theorem sizes (a b c : Nat) (ha : a < 100) (hb : b < 100) (hc : c < 100) : (numB a).size + 1 ≤ 9223372036854775807 ∧ (numB a ++ (⟨#[119]⟩ : ByteArray)).size + (numB b).size ≤ 9223372036854775807 ∧ ((numB a ++ (⟨#[119]⟩ : ByteArray)) ++ numB b).size + 1 ≤ 9223372036854775807 ∧ (((numB a ++ (⟨#[119]⟩ : ByteArray)) ++ numB b) ++ (⟨#[100]⟩ : ByteArray)).size + (numB c).size ≤ 9223372036854775807 := by
  have h1 := numB_size a ha
  have h2 := numB_size b hb
  have h3 := numB_size c hc
  have e1 : (⟨#[119]⟩ : ByteArray).size = 1 := rfl
  have e2 : (⟨#[100]⟩ : ByteArray).size = 1 := rfl
  simp only [ByteArray.size_append, e1, e2]; omega
theorem text_is (a b c : Nat) (ha : a < 100) (hb : b < 100) (hc : c < 100) : impl_Wash_text.f a b c = some (washT a b c) := by
  obtain ⟨s1, s2, s3, s4⟩ := sizes a b c ha hb hc
  unfold impl_Wash_text.f
  simp only [itoa_is a ha, itoa_is b hb, itoa_is c hc, Option.bind_some, if_pos s1, if_pos s2, if_pos s3, if_pos s4]
  rfl
theorem dyText_ev (a b c : Nat) (ha : a < 100) (hb : b < 100) (hc : c < 100) : Ev (fun k => spec_dyText.f k a b c) (washT a b c) := by
  obtain ⟨s1, s2, s3, s4⟩ := sizes a b c ha hb hc
  unfold spec_dyText.f
  refine (l1Num_ev a ha).bind ?_
  simp only [if_pos s1]
  refine (l1Num_ev b hb).bind ?_
  simp only [if_pos s2, if_pos s3]
  refine (l1Num_ev c hc).bind ?_
  simp only [if_pos s4]
  exact Ev.now _
theorem FnExactWashText : laws_FnExactWashText.Pure := by
  intro a b c _ _ _
  refine Ev.rounds (r := true) ?_
  unfold laws_FnExactWashText.f spec_WashText.f impl_WashText.f
  simp only [laws_toWash.f, Option.bind_some, good_is, wash_is]
  cases h : washB a b c
  · simp only [Bool.false_eq_true, if_false, Option.bind_some, bne_self_eq_false, if_true]; exact Ev.now _
  · have hb : (1 ≤ a ∧ a ≤ 30) ∧ (1 ≤ b ∧ b ≤ 30) ∧ (1 ≤ c ∧ c ≤ 30) := by simpa [washB] using h
    obtain ⟨x, rfl⟩ : ∃ x : Nat, a = (x : Int) := ⟨a.toNat, by omega⟩
    obtain ⟨y, rfl⟩ : ∃ y : Nat, b = (y : Int) := ⟨b.toNat, by omega⟩
    obtain ⟨z, rfl⟩ : ∃ z : Nat, c = (z : Int) := ⟨c.toNat, by omega⟩
    simp only [if_true, text_is x y z (by omega) (by omega) (by omega), Option.bind_some]
    refine Ev.bind (a := (washT x y z, true)) ((dyText_ev x y z (by omega) (by omega) (by omega)).bind (Ev.now _)) ?_
    simp only [if_true, bne_self_eq_false, Bool.false_eq_true, if_false]; exact Ev.now _
end Go.Proofs.YtdddmkdidegngaaDoor.Pure

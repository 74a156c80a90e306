/- Lemmas for the plain law of FnSocksSure, part 1. Conditions: those that each states. -/
import Derived.Test.YtobeolfihkhlgaaVPFnSocksSure
import Derived.Test.YtobeolfihkhlgaaVaiEv
import Derived.Test.YtobeolfihkhlgaaVaiLaw
namespace Go.Proofs.YtobeolfihkhlgaaV.Law
set_option linter.unusedVariables false
set_option linter.unusedSimpArgs false
open Go.Proofs.YtobeolfihkhlgaaV
abbrev CurT := List Int × Int × Int × Unit
/-- A cursor that has gone no further than m. -/
def Cur (m : Int) (c : CurT) : Prop := (∀ x ∈ c.1, 0 ≤ x ∧ x ≤ 255) ∧ 0 ≤ c.2.1 ∧ c.2.1 ≤ m
theorem Cur.mono {m m' : Int} {c : CurT} (h : Cur m c) (hm : m ≤ m') : Cur m' c := ⟨h.1, h.2.1, Int.le_trans h.2.2 hm⟩
theorem and255 (x : Int) : 0 ≤ iw (andI .u64 x 255) ∧ iw (andI .u64 x 255) ≤ 255 := by
  have h : 0 ≤ andI .u64 x 255 ∧ andI .u64 x 255 ≤ 255 := by
    unfold andI
    have h1 : (BitVec.ofInt IntKind.u64.bits x &&& BitVec.ofInt IntKind.u64.bits 255).toNat ≤ 255 := by
      rw [BitVec.toNat_and]
      exact Nat.le_trans Nat.and_le_right (by decide)
    generalize (BitVec.ofInt IntKind.u64.bits x &&& BitVec.ofInt IntKind.u64.bits 255).toNat = y at h1 ⊢
    have : IntKind.wrap .u64 (y : Int) = (y : Int) % 18446744073709551616 := rfl
    rw [this]; omega
  rw [iw_id] <;> omega
theorem next_is (k : Nat) {m : Int} {c : CurT} (h : Cur m c) (hm : m ≤ 1000000000000000) :
    ∃ v s, spec_l1Cur_next_f k c = some ((v, ()), ((c.1, c.2.1 + 1, s, ()), ())) ∧ 0 ≤ v ∧ v ≤ 255 := by
  obtain ⟨hb, h0, h1⟩ := h
  obtain ⟨l, a, s, u⟩ := c
  simp only at hb h0 h1
  unfold spec_l1Cur_next_f
  have ha : iw (a + 1) = a + 1 := iw_id (by omega) (by omega)
  have key : ∀ v : Int, 0 ≤ v → v ≤ 255 → ∃ v' s', (cond (decide ((iw (a + 1)) ≤ ((List.length l : Nat) : Int))) (some (((v, ()), ((l, (iw (a + 1)), (IntKind.wrap .u64 ((IntKind.wrap .u64 ((IntKind.wrap .u64 (s * 6364136223846793005)) + (IntKind.wrap .u64 v))) + 1442695040888963407)), ()), ())) : (Int × Unit) × (CurT × Unit))) (some (((iw ((andI .u64 (shrI .u64 (IntKind.wrap .u64 ((IntKind.wrap .u64 ((IntKind.wrap .u64 (s * 6364136223846793005)) + (IntKind.wrap .u64 v))) + 1442695040888963407)) 40) 255))), ()), ((l, (iw (a + 1)), (IntKind.wrap .u64 ((IntKind.wrap .u64 ((IntKind.wrap .u64 (s * 6364136223846793005)) + (IntKind.wrap .u64 v))) + 1442695040888963407)), ()), ())))) = some ((v', ()), ((l, a + 1, s', ()), ())) ∧ 0 ≤ v' ∧ v' ≤ 255 := by
    intro v hv0 hv1
    rw [ha, cond_dec]
    split
    · exact ⟨v, _, rfl, hv0, hv1⟩
    · exact ⟨_, _, rfl, and255 _⟩
  simp only [cond_dec (p := a < ((List.length l : Nat) : Int))]
  split
  · rename_i hlt
    rw [ixk_in h0 hlt]
    simp only [met_inl]
    have hin : rd l a ∈ l := by
      unfold rd
      rw [List.getD_eq_getElem?_getD, List.getElem?_eq_getElem (by omega)]
      exact List.getElem_mem _
    obtain ⟨h2, h3⟩ := hb _ hin
    have e : iw (rd l a) = rd l a := iw_id (by omega) (by omega)
    rw [e]
    exact key _ h2 h3
  · simp only [met_inl]
    exact key 0 (by omega) (by omega)
theorem pick_is (k : Nat) {m : Int} {c : CurT} (h : Cur m c) (hm : m ≤ 999999999999999) (n : Int) :
    ∃ v c', spec_l1Cur_pick_f k c n = some ((v, ()), (c', ())) ∧ 0 ≤ v ∧ (v < n ∨ v = 0 ∧ n ≤ 1) ∧ Cur (m + 2) c' ∧ c'.1 = c.1 := by
  unfold spec_l1Cur_pick_f
  rw [cond_dec]
  split
  · rename_i h1
    exact ⟨0, _, rfl, by omega, .inr ⟨rfl, h1⟩, h.mono (by omega), rfl⟩
  · rename_i h1
    obtain ⟨v, s, e, hv0, hv1⟩ := next_is k h (by omega)
    rw [show (c.1, c.2.1, c.2.2.1, ()) = c from rfl, e]
    simp only [Option.bind_some]
    have hc' : Cur (m + 1) (c.1, c.2.1 + 1, s, ()) := ⟨h.1, by have := h.2.1; simp only; omega, by have := h.2.2; simp only; omega⟩
    have done : ∀ (c' : CurT) (v : Int), 0 ≤ v → Cur (m + 2) c' → c'.1 = c.1 → ∃ v' c'', (chk (!(n == 0)) (some (((Int.tmod v n), ()), ((c'.1, c'.2.1, c'.2.2.1, ()), ()))) : Option ((Int × Unit) × (CurT × Unit))) = some ((v', ()), (c'', ())) ∧ 0 ≤ v' ∧ (v' < n ∨ v' = 0 ∧ n ≤ 1) ∧ Cur (m + 2) c'' ∧ c''.1 = c.1 := by
      intro c' v hv hc he
      rw [chk_true (by simp; omega)]
      refine ⟨_, _, rfl, ?_, ?_, hc, he⟩
      · exact Int.tmod_nonneg _ hv
      · left; exact Int.tmod_lt_of_pos _ (by omega)
    rw [cond_dec]
    split
    · obtain ⟨v2, s2, e2, hv2, _⟩ := next_is k hc' (by omega)
      simp only [] at e2 ⊢
      rw [e2]
      simp only [Option.bind_some, met_inl]
      refine done (c.1, c.2.1 + 1 + 1, s2, ()) _ ?_ ⟨h.1, by have := h.2.1; simp only; omega, by have := h.2.2; simp only; omega⟩ rfl
      have q1 : iw (v * 256) = v * 256 := iw_id (by omega) (by omega)
      rw [q1, iw_id] <;> omega
    · simp only [met_inl]
      exact done (c.1, c.2.1 + 1, s, ()) v hv0 (hc'.mono (by omega)) rfl
theorem among_is (k : Nat) {m : Int} {c : CurT} (h : Cur m c) (hm : m ≤ 999999999999999) (l : List Int) (hl : 0 < l.length) :
    ∃ v c', spec_l1Cur_among_f k c l = some ((v, ()), (c', ())) ∧ v ∈ l ∧ Cur (m + 2) c' ∧ c'.1 = c.1 := by
  unfold spec_l1Cur_among_f
  obtain ⟨v, c', e, h0, h1, h2, h3⟩ := pick_is k h hm ((List.length l : Nat) : Int)
  rw [show (c.1, c.2.1, c.2.2.1, ()) = c from rfl, e]
  simp only [Option.bind_some]
  rw [ixk_in h0 (by omega)]
  refine ⟨_, _, rfl, ?_, h2, h3⟩
  unfold rd
  rw [List.getD_eq_getElem?_getD, List.getElem?_eq_getElem (by omega)]
  exact List.getElem_mem _

def in64 (l : List Int) : Prop := ∀ x ∈ l, -9223372036854775808 ≤ x ∧ x ≤ 9223372036854775807
theorem in64.snoc {l : List Int} {x : Int} (h : in64 l) (h1 : -9223372036854775808 ≤ x) (h2 : x ≤ 9223372036854775807) : in64 (l ++ [x]) := by
  intro y hy
  rcases List.mem_append.1 hy with hy | hy
  · exact h y hy
  · rw [List.mem_singleton.1 hy]; exact ⟨h1, h2⟩
theorem in64.one {x : Int} (h1 : -9223372036854775808 ≤ x) (h2 : x ≤ 9223372036854775807) : in64 [x] := by
  intro y hy
  rw [List.mem_singleton.1 hy]; exact ⟨h1, h2⟩
theorem within_is (k : Nat) (x lo hi : Int) : impl_within_f k x lo hi = some ((decide (lo ≤ x) && decide (x ≤ hi), ()), ()) := by
  unfold impl_within_f
  by_cases h : lo ≤ x <;> simp [h]
theorem l1In_is (k : Nat) (x lo hi : Int) : spec_l1In_f k x lo hi = some ((decide (lo ≤ x) && decide (x ≤ hi), ()), ()) := by
  unfold spec_l1In_f
  by_cases h : lo ≤ x <;> simp [h]
theorem total_is (k : Nat) (l : List Int) (hk : l.length < k) (hl : l.length ≤ 1000) : impl_total_f k l = some ((sumW l, ()), ()) := by
  unfold impl_total_f
  have h : impl_total_l1 k l 0 0 = some (.inl (sumW l, ())) := by
    unfold impl_total_l1
    refine iter_to (fun j => ((l.take j).foldl (fun a x => iw (a + x)) 0, (j : Int), ())) l.length _ (fun j hj rec => ?_) (fun rec => ?_) k hk
    · simp only [impl_total_l1_b, cond_dec]
      rw [if_pos (by omega), ixk_in (by omega) (by omega), iw_nat (by omega), rd_nat l j hj, take_fold _ _ _ _ hj]
    · simp only [impl_total_l1_b, cond_dec]
      rw [if_neg (by omega), List.take_length]
      rfl
  rw [h]; rfl
theorem soSum_is (k : Nat) (l : List Int) (hk : l.length < k) (hl : l.length ≤ 1000) : spec_soSum_f k l = some ((sumW l, ()), ()) := total_is k l hk hl
def allIn (lo hi : Int) (l : List Int) : Bool := l.all fun x => decide (lo ≤ x) && decide (x ≤ hi)
theorem drop_cons {β : Type} (l : List β) (j : Nat) (h : j < l.length) : l.drop j = l[j] :: l.drop (j + 1) := List.drop_eq_getElem_cons h
theorem allIn_drop (lo hi : Int) (l : List Int) (j : Nat) (h : j < l.length) : allIn lo hi (l.drop j) = ((decide (lo ≤ l[j]) && decide (l[j] ≤ hi)) && allIn lo hi (l.drop (j + 1))) := by
  rw [drop_cons l j h]; rfl
def firstBad (lo hi : Int) : Nat → List Int → Option Nat
  | _, [] => none
  | j, x :: r => if (decide (lo ≤ x) && decide (x ≤ hi)) = true then firstBad lo hi (j + 1) r else some j
theorem firstBad_all (lo hi : Int) : ∀ (l : List Int) (j : Nat), (firstBad lo hi j l).isNone = allIn lo hi l
  | [], _ => rfl
  | x :: r, j => by
    simp only [firstBad, allIn, List.all_cons]
    cases h : (decide (lo ≤ x) && decide (x ≤ hi)) with
    | true => simpa [allIn] using firstBad_all lo hi r (j + 1)
    | false => rfl
def idxRes : Option Nat → Option (Unit ⊕ ((Int × Unit) × Unit))
  | none => some (.inl ())
  | some i => some (.inr (((i : Int), ()), ()))
theorem indexFunc_is (k : Nat) (l : List Int) (lo hi : Int) (hk : l.length < k) (hl : l.length ≤ 1000) :
    ∃ i : Int, slices_IndexFunc_int_int__impl_areWithin_1_f k l ((lo, ()), (hi, ()), ()) = some ((i, ()), ()) ∧ decide (i ≥ 0) = !allIn lo hi l := by
  unfold slices_IndexFunc_int_int__impl_areWithin_1_f
  have h : slices_IndexFunc_int_int__impl_areWithin_1_l1 k l ((lo, ()), (hi, ()), ()) 0 = idxRes (firstBad lo hi 0 l) := by
    unfold slices_IndexFunc_int_int__impl_areWithin_1_l1
    refine iter_up (fun j => ((j : Int), ())) (fun j => idxRes (firstBad lo hi j (l.drop j))) l.length (fun j hj => ?_) k 0 (Nat.zero_le _) (by omega)
    rcases Nat.lt_or_ge j l.length with h1 | h1
    · have e : ∀ rec : (Int × Unit) → Option (Unit ⊕ ((Int × Unit) × Unit)), slices_IndexFunc_int_int__impl_areWithin_1_l1_b k l ((lo, ()), (hi, ()), ()) (fun x8 => rec (x8, ())) (j : Int) = if (decide (lo ≤ l[j]) && decide (l[j] ≤ hi)) = true then rec (((j + 1 : Nat) : Int), ()) else some (.inr (((j : Int), ()), ())) := fun rec => by
        simp only [slices_IndexFunc_int_int__impl_areWithin_1_l1_b, impl_areWithin_1_f, within_is, Option.bind_some]
        rw [cond_dec, if_pos (by omega), ixk_in (by omega) (by omega), iw_nat (by omega), rd_nat l j h1]
        cases (decide (lo ≤ l[j]) && decide (l[j] ≤ hi)) <;> rfl
      simp only [e]
      rw [drop_cons l j h1]
      simp only [firstBad]
      split
      · exact .inr ⟨h1, rfl, fun _ => rfl⟩
      · exact .inl fun _ => rfl
    · refine .inl fun rec => ?_
      simp only [slices_IndexFunc_int_int__impl_areWithin_1_l1_b]
      rw [cond_dec, if_neg (by omega), List.drop_of_length_le (by omega)]
      rfl
  rw [h]
  have := firstBad_all lo hi l 0
  cases hb : firstBad lo hi 0 l with
  | none => rw [hb] at this; exact ⟨-1, rfl, by rw [← this]; rfl⟩
  | some i => rw [hb] at this; exact ⟨(i : Int), rfl, by rw [← this]; simp⟩
theorem areWithin_is (k : Nat) (l : List Int) (lo hi : Int) (hk : l.length < k) (hl : l.length ≤ 1000) : impl_areWithin_f k l lo hi = some ((allIn lo hi l, ()), ()) := by
  unfold impl_areWithin_f slices_ContainsFunc_int_int__impl_areWithin_1_f
  obtain ⟨i, e, h⟩ := indexFunc_is k l lo hi hk hl
  rw [e]
  simp only [Option.bind_some, h, Bool.not_not]
def allRes : Bool → Option (Unit ⊕ ((Bool × Unit) × Unit))
  | true => some (.inl ())
  | false => some (.inr ((false, ()), ()))
theorem l1All_is (k : Nat) (l : List Int) (lo hi : Int) (hk : l.length < k) (hl : l.length ≤ 1000) : spec_l1All_f k l lo hi = some ((allIn lo hi l, ()), ()) := by
  unfold spec_l1All_f
  have h : spec_l1All_l1 k l lo hi 0 = allRes (allIn lo hi l) := by
    unfold spec_l1All_l1
    refine iter_up (fun j => ((j : Int), ())) (fun j => allRes (allIn lo hi (l.drop j))) l.length (fun j hj => ?_) k 0 (Nat.zero_le _) (by omega)
    rcases Nat.lt_or_ge j l.length with h1 | h1
    · have e : ∀ rec : (Int × Unit) → Option (Unit ⊕ ((Bool × Unit) × Unit)), spec_l1All_l1_b k l lo hi (fun x8 => rec (x8, ())) (j : Int) = if (decide (lo ≤ l[j]) && decide (l[j] ≤ hi)) = true then rec (((j + 1 : Nat) : Int), ()) else some (.inr ((false, ()), ())) := fun rec => by
        simp only [spec_l1All_l1_b]
        rw [cond_dec, if_pos (by omega), ixk_in (by omega) (by omega), iw_nat (by omega), rd_nat l j h1]
        simp only [l1In_is, Option.bind_some]
        cases (decide (lo ≤ l[j]) && decide (l[j] ≤ hi)) <;> rfl
      simp only [e]
      rw [allIn_drop lo hi l j h1]
      cases (decide (lo ≤ l[j]) && decide (l[j] ≤ hi)) with
      | true => exact .inr ⟨h1, rfl, fun _ => rfl⟩
      | false => exact .inl fun _ => rfl
    · refine .inl fun rec => ?_
      simp only [spec_l1All_l1_b]
      rw [cond_dec, if_neg (by omega), List.drop_of_length_le (by omega)]
      rfl
  rw [h]
  cases allIn lo hi l <;> rfl
theorem allIn_mem {lo hi : Int} {l : List Int} (h : allIn lo hi l = true) : ∀ x ∈ l, lo ≤ x ∧ x ≤ hi := by
  intro x hx
  have := List.all_eq_true.1 h x hx
  simpa using this
theorem sum_bound {l : List Int} (h : ∀ x ∈ l, 0 ≤ x ∧ x ≤ 20) : 0 ≤ l.sum ∧ l.sum ≤ 20 * l.length := by
  induction l with
  | nil => simp
  | cons x l ih =>
    have h1 := h x (by simp)
    have h2 := ih fun y hy => h y (by simp [hy])
    simp only [List.sum_cons, List.length_cons]
    omega
theorem foldW_is : ∀ (l : List Int) (a : Int), (∀ x ∈ l, 0 ≤ x ∧ x ≤ 20) → 0 ≤ a → a + 20 * l.length ≤ 1000000 → l.foldl (fun a x => iw (a + x)) a = a + l.sum
  | [], a, _, _, _ => by simp
  | x :: l, a, h, h0, h1 => by
    have h2 := h x (by simp)
    simp only [List.foldl_cons, List.sum_cons, List.length_cons] at h1 ⊢
    rw [iw_id (by omega) (by omega), foldW_is l (a + x) (fun y hy => h y (by simp [hy])) (by omega) (by omega)]
    omega
theorem sumW_is {l : List Int} (h : ∀ x ∈ l, 0 ≤ x ∧ x ≤ 20) (hl : l.length ≤ 1000) : sumW l = l.sum := by
  unfold sumW; rw [foldW_is l 0 h (by omega) (by omega)]; omega

abbrev SSR := (CurT × List Int × Unit) ⊕ ((List Int × Unit) × (CurT × Unit))
noncomputable def sureF (k : Nat) (rec : (CurT × List Int × Int × Unit) → Option SSR) (x : CurT × List Int × Int × Unit) : Option SSR :=
  spec_l1Cur_sureSocks_l1_b k (fun x0 x3 x4 => rec (x0, x3, x4, ())) x.1 x.2.1 x.2.2.1
theorem sure_loop (k : Nat) : ∀ (j i : Nat) (m : Int) (c : CurT) (S : List Int), Cur m c → m + 2 * j ≤ 999999999999990 → j < i → in64 S → S.length + j ≤ 10 →
    ∃ c' S', iter i (sureF k) (c, S, (j : Int), ()) = some (.inl (c', S', ())) ∧ Cur (m + 2 * j) c' ∧ c'.1 = c.1 ∧ in64 S' ∧ S'.length = S.length + j := by
  intro j
  induction j with
  | zero =>
    intro i m c S hc hm hi hS _
    obtain ⟨i, rfl⟩ : ∃ i', i = i' + 1 := ⟨i - 1, by omega⟩
    refine ⟨c, S, ?_, by simpa using hc, rfl, hS, rfl⟩
    show sureF k _ _ = _
    simp only [sureF, spec_l1Cur_sureSocks_l1_b, cond_dec]
    rw [if_neg (by simp)]
  | succ j ih =>
    intro i m c S hc hm hi hS hl
    obtain ⟨i, rfl⟩ : ∃ i', i = i' + 1 := ⟨i - 1, by omega⟩
    obtain ⟨v1, c1, e1, a1, b1, h1, q1⟩ := pick_is k hc (by omega) 6
    obtain ⟨c', S', e3, h3, q3, d3, l3⟩ := ih i (m + 2) c1 (S ++ [v1]) h1 (by omega) (by omega) (hS.snoc (by omega) (by omega)) (by simp; omega)
    refine ⟨c', S', ?_, h3.mono (by omega), by rw [q3, q1], d3, by rw [l3]; simp; omega⟩
    rw [← e3]
    show sureF k _ _ = _
    simp only [sureF, spec_l1Cur_sureSocks_l1_b, cond_dec]
    rw [if_pos (by omega), show (c.1, c.2.1, c.2.2.1, ()) = c from rfl, e1]
    simp only [Option.bind_some]
    rw [chk_dec (by simp; omega), iw_id (by omega) (by omega), show ((j + 1 : Nat) : Int) - 1 = (j : Int) by omega]
theorem sure_is (k : Nat) (hk : 100 ≤ k) {m : Int} {c : CurT} (h : Cur m c) (hm : m ≤ 999999999999900) :
    ∃ S c', spec_l1Cur_sureSocks_f k c = some ((S, ()), (c', ())) ∧ Cur (m + 14) c' ∧ c'.1 = c.1 ∧ in64 S ∧ 1 ≤ S.length ∧ S.length ≤ 4 := by
  unfold spec_l1Cur_sureSocks_f
  obtain ⟨v1, c1, e1, a1, b1, h1, q1⟩ := pick_is k h (by omega) 4
  rw [show (c.1, c.2.1, c.2.2.1, ()) = c from rfl, e1]
  simp only [Option.bind_some]
  obtain ⟨n, rfl⟩ : ∃ n : Nat, v1 = (n : Int) := ⟨v1.toNat, by omega⟩
  obtain ⟨c2, S, e2, h2, q2, d2, l2⟩ := sure_loop k n k (m + 2) c1 [] h1 (by omega) (by omega) (fun x hx => by cases hx) (by simp; omega)
  rw [show (spec_l1Cur_sureSocks_l1 k (c1.1, c1.2.1, c1.2.2.1, ()) [] (n : Int)) = iter k (sureF k) (c1, [], (n : Int), ()) from rfl, e2]
  simp only [met_inl]
  obtain ⟨v3, c3, e3, a3, b3, h3, q3⟩ := pick_is k h2 (by omega) 5
  rw [show (c2.1, c2.2.1, c2.2.2.1, ()) = c2 from rfl, e3]
  simp only [Option.bind_some]
  simp only [List.length_nil, Nat.zero_add] at l2
  have hi : iw (1 + v3) = 1 + v3 := iw_id (by omega) (by omega)
  rw [hi, chk_dec (by simp; omega)]
  exact ⟨_, _, rfl, h3.mono (by omega), by show c3.1 = c.1; rw [q3, q2, q1], d2.snoc (by omega) (by omega), by simp, by simp; omega⟩
theorem in64.set {l : List Int} {x : Int} (h : in64 l) (i : Nat) (h1 : -9223372036854775808 ≤ x) (h2 : x ≤ 9223372036854775807) : in64 (l.set i x) := by
  intro y hy
  rcases List.mem_or_eq_of_mem_set hy with hy | rfl
  · exact h y hy
  · exact ⟨h1, h2⟩
abbrev SR := (CurT × List Int × Unit) ⊕ ((CurT × List Int × Unit) ⊕ ((CurT × List Int × Unit) ⊕ ((CurT × List Int × Unit) ⊕ ((CurT × List Int × Unit) ⊕ ((CurT × List Int × Unit) ⊕ ((List Int × Unit) × (CurT × Unit)))))))
noncomputable def socksF (k : Nat) (rec : (CurT × List Int × Unit) → Option SR) (x : CurT × List Int × Unit) : Option SR := spec_l1Cur_socks_l1_b k (fun x0 x3 => rec (x0, x3, ())) x.1 x.2.1
theorem socks_loop (k : Nat) (c : CurT) : ∀ (j i : Nat) (S : List Int), j < i → in64 S → S.length + j = 8 →
    ∃ S', iter i (socksF k) (c, S, ()) = some (.inl (c, S', ())) ∧ in64 S' ∧ S'.length = 8 := by
  intro j
  induction j with
  | zero =>
    intro i S hi hS hl
    obtain ⟨i, rfl⟩ : ∃ i', i = i' + 1 := ⟨i - 1, by omega⟩
    refine ⟨S, ?_, hS, hl⟩
    show socksF k _ _ = _
    simp only [socksF, spec_l1Cur_socks_l1_b, cond_dec]
    rw [if_neg (by omega)]
  | succ j ih =>
    intro i S hi hS hl
    obtain ⟨i, rfl⟩ : ∃ i', i = i' + 1 := ⟨i - 1, by omega⟩
    obtain ⟨S', e, d, l⟩ := ih i (S ++ [20]) (by omega) (hS.snoc (by omega) (by omega)) (by simp; omega)
    refine ⟨S', ?_, d, l⟩
    rw [← e]
    show socksF k _ _ = _
    simp only [socksF, spec_l1Cur_socks_l1_b, cond_dec]
    rw [if_pos (by omega), chk_dec (by simp; omega)]
theorem socks_is (k : Nat) (hk : 100 ≤ k) {m : Int} {c : CurT} (h : Cur m c) (hm : m ≤ 999999999999000) :
    ∃ S c', spec_l1Cur_socks_f k c = some ((S, ()), (c', ())) ∧ Cur (m + 20) c' ∧ c'.1 = c.1 ∧ in64 S ∧ S.length ≤ 8 := by
  unfold spec_l1Cur_socks_f
  obtain ⟨S, c1, e1, h1, q1, d1, l1, l2⟩ := sure_is k hk h (by omega)
  rw [show (c.1, c.2.1, c.2.2.1, ()) = c from rfl, e1]
  simp only [Option.bind_some]
  obtain ⟨v2, c2, e2, a2, b2, h2, q2⟩ := pick_is k h1 (by omega) 16
  rw [show (c1.1, c1.2.1, c1.2.2.1, ()) = c1 from rfl, e2]
  simp only [Option.bind_some]
  rw [show (c2.1, c2.2.1, c2.2.2.1, ()) = c2 from rfl]
  have hl : ∀ x ∈ [(-1), 20, 21, (4611686018427387904 : Int)], -9223372036854775808 ≤ x ∧ x ≤ 9223372036854775807 := by decide
  cases g0 : v2 == 0 with
  | true => exact ⟨[], c2, rfl, h2.mono (by omega), by rw [q2, q1], (fun x hx => by cases hx), by simp⟩
  | false =>
    cases g1 : v2 == 1 with
    | true => exact ⟨[0, 0], c2, rfl, h2.mono (by omega), by rw [q2, q1], by unfold in64; decide, by simp⟩
    | false =>
      cases g2 : v2 == 2 with
      | true =>
        obtain ⟨v3, c3, e3, a3, h3, q3⟩ := among_is k h2 (by omega) [(-1), 20, 21, 4611686018427387904] (by decide)
        refine ⟨setI S 0 v3, c3, ?_, h3.mono (by omega), by rw [q3, q2, q1], d1.set _ (hl _ a3).1 (hl _ a3).2, by unfold setI; rw [List.length_set]; omega⟩
        simp only [cond_true, cond_false, e3, Option.bind_some]
        rw [chk_dec (by omega)]
        rfl
      | false =>
        cases g3 : v2 == 3 with
        | true =>
          obtain ⟨S', e3, d3, l3⟩ := socks_loop k c2 (8 - S.length) k S (by omega) d1 (by omega)
          refine ⟨S', c2, ?_, h2.mono (by omega), by rw [q2, q1], d3, by omega⟩
          simp only [cond_true, cond_false]
          rw [show (spec_l1Cur_socks_l1 k c2 S) = iter k (socksF k) (c2, S, ()) from rfl, e3]
          rfl
        | false => exact ⟨S, c2, rfl, h2.mono (by omega), by rw [q2, q1], d1, by omega⟩
theorem cur0 {l : List Int} (h : ∀ x ∈ l, 0 ≤ x ∧ x ≤ 255) : Cur 0 (l, 0, 0, ()) := ⟨h, Int.le_refl _, Int.le_refl _⟩
def Drawn (S : List Int) : Prop := in64 S ∧ S.length ≤ 8
theorem ceta (c : CurT) : (c.1, c.2.1, c.2.2.1, ()) = c := rfl
theorem most_l1 (k : Nat) (x y : Int) : spec_l1Most_f k x y = some ((if x > y then x else y, ()), ()) := by
  unfold spec_l1Most_f; rw [cond_dec]; split <;> rfl
theorem big_is (k : Nat) (l m : List Int) : ∃ b, laws_big_f k l m = some ((b, ()), ()) := by
  unfold laws_big_f
  rw [cond_dec]
  split <;> exact ⟨_, rfl⟩
theorem byte_in {l : List Int} (h : ∀ x ∈ l, (Lit.int .u8 x).wf = true) : ∀ x ∈ l, 0 ≤ x ∧ x ≤ 255 := fun x hx => by
  have := h x hx
  simpa [Lit.wf, IntKind.min, IntKind.max, IntKind.signed, IntKind.bits] using this

def sumN (f : Nat → Nat) : Nat → Nat
  | 0 => 0
  | n + 1 => sumN f n + f n
theorem sumN_congr {f g : Nat → Nat} : ∀ (n : Nat), (∀ i, i < n → f i = g i) → sumN f n = sumN g n
  | 0, _ => rfl
  | n + 1, h => by simp only [sumN]; rw [sumN_congr n fun i hi => h i (by omega), h n (by omega)]
theorem sumN_head (f : Nat → Nat) : ∀ n, sumN f (n + 1) = f 0 + sumN (fun i => f (i + 1)) n
  | 0 => by simp [sumN]
  | n + 1 => by
    rw [sumN, sumN_head f n]
    simp only [sumN]
    omega
def total : List Nat → Nat
  | [] => 0
  | n :: S => n + total S
def halves : List Nat → Nat
  | [] => 0
  | n :: S => n / 2 + halves S

def row (B : Nat) (f : Nat → Nat) : List Int := (List.range B).map fun p => (f p : Int)
theorem row_len (B : Nat) (f : Nat → Nat) : (row B f).length = B := by simp [row]
theorem row_get (B : Nat) (f : Nat → Nat) (p : Nat) (h : p < B) : rd (row B f) (p : Int) = (f p : Int) := by
  rw [rd_nat _ p (by rw [row_len]; exact h)]; simp [row]
theorem map_set {β : Type} (f : Nat → β) (n j : Nat) (v : β) : ((List.range n).map f).set j v = (List.range n).map fun i => if i = j then v else f i := by
  apply List.ext_getElem
  · simp
  · intro i h1 h2
    simp only [List.length_set, List.length_map, List.length_range] at h1
    rw [List.getElem_set]
    simp only [List.getElem_map, List.getElem_range]
    by_cases h : j = i
    · rw [if_pos h, if_pos h.symm]
    · rw [if_neg h, if_neg (fun e => h e.symm)]
theorem row_set (B : Nat) (f : Nat → Nat) (j v : Nat) : setI (row B f) (j : Int) (v : Int) = row B fun i => if i = j then v else f i := by
  unfold setI row
  rw [Int.toNat_natCast, map_set]
  exact List.map_congr_left fun i _ => by by_cases h : i = j <;> simp [h]
structure Good (S : List Int) : Prop where
  l0 : 1 ≤ S.length
  l8 : S.length ≤ 8
  inS : ∀ x ∈ S, 0 ≤ x ∧ x ≤ 20
  pos : 0 < S.sum
def nats' (S : List Int) : List Nat := S.map Int.toNat
theorem total_nats : ∀ {S : List Int}, (∀ x ∈ S, 0 ≤ x ∧ x ≤ 20) → (total (nats' S) : Int) = S.sum
  | [], _ => rfl
  | x :: S, h => by
    have h1 := h x (by simp)
    have := total_nats (S := S) fun y hy => h y (by simp [hy])
    simp only [nats', List.map_cons, total, List.sum_cons] at this ⊢
    omega
theorem nats_len (S : List Int) : (nats' S).length = S.length := by simp [nats']
theorem part_le : ∀ (N : List Nat) (i : Nat) (h : i < N.length), N[i] ≤ total N ∧ N[i] / 2 ≤ halves N
  | n :: N, 0, _ => by simp only [List.getElem_cons_zero, halves, total]; omega
  | n :: N, i + 1, h => by
    have := part_le N i (by simpa using h)
    simp only [List.getElem_cons_succ, halves, total]; omega
  | [], i, h => by simp at h
theorem total_ge : ∀ (N : List Nat), (∀ n ∈ N, n ≤ 20) → total N ≤ 20 * N.length
  | [], _ => Nat.le_refl _
  | n :: N, h => by
    have h1 := h n (by simp)
    have := total_ge N fun x hx => h x (by simp [hx])
    simp only [total, List.length_cons]; omega
theorem nats_in {S : List Int} (h : ∀ x ∈ S, 0 ≤ x ∧ x ≤ 20) : ∀ n ∈ nats' S, n ≤ 20 := by
  intro n hn
  obtain ⟨x, hx, rfl⟩ := List.mem_map.1 hn
  have := h x hx
  omega
def good (S : List Int) : Bool := (decide (1 ≤ (S.length : Int)) && decide ((S.length : Int) ≤ 8)) && (allIn 0 20 S && decide (sumW S > 0))
theorem areSocks_is (k : Nat) (hk : 100 ≤ k) (S : List Int) (h : S.length ≤ 8) : impl_AreSocks_f k S = some ((good S, ()), ()) := by
  unfold impl_AreSocks_f good
  simp only [within_is, Option.bind_some, areWithin_is k S 0 20 (by omega) (by omega), total_is k S (by omega) (by omega)]
  cases (decide (1 ≤ (S.length : Int)) && decide ((S.length : Int) ≤ 8)) with
  | false => rfl
  | true => cases allIn 0 20 S with
    | false => rfl
    | true => rfl
theorem soGood_is (k : Nat) (hk : 100 ≤ k) (S : List Int) (h : S.length ≤ 8) : spec_soGood_f k S = some ((good S, ()), ()) := by
  unfold spec_soGood_f good
  simp only [l1In_is, Option.bind_some, l1All_is k S 0 20 (by omega) (by omega), soSum_is k S (by omega) (by omega)]
  cases (decide (1 ≤ (S.length : Int)) && decide ((S.length : Int) ≤ 8)) with
  | false => rfl
  | true => cases allIn 0 20 S with
    | false => rfl
    | true => rfl
theorem good_is {S : List Int} (h : good S = true) : Good S := by
  unfold good at h
  simp only [Bool.and_eq_true, decide_eq_true_eq] at h
  obtain ⟨⟨h1, h2⟩, h3, h4⟩ := h
  have hi := allIn_mem h3
  rw [sumW_is hi (by omega)] at h4
  exact ⟨by omega, by omega, hi, h4⟩
theorem good_sum {S : List Int} (F : Good S) : sumW S = (total (nats' S) : Int) ∧ total (nats' S) ≤ 160 ∧ 0 < total (nats' S) := by
  have := F.l8
  have h := total_nats F.inS
  have h2 := total_ge (nats' S) (nats_in F.inS)
  rw [nats_len] at h2
  have := F.pos
  exact ⟨by rw [h, sumW_is F.inS (by omega)], by omega, by omega⟩

/-! ### Loops that look for a fault -/
theorem scan {σ α : Type} {F : (σ → Option α) → σ → Option α} (st : Nat → σ) (n : Nat) (p : Nat → Bool) (bad fin : Option α)
    (h : ∀ j, j < n → ∀ rec, F rec (st j) = if p j = true then rec (st (j + 1)) else bad) (he : ∀ rec, F rec (st n) = fin) (k : Nat) (hk : n < k) :
    iter k F (st 0) = if (List.range n).all p = true then fin else bad := by
  have hsplit : ∀ j, j < n → ((List.range' j (n - j)).all p) = (p j && (List.range' (j + 1) (n - (j + 1))).all p) := fun j hj => by
    rw [show n - j = (n - (j + 1)) + 1 by omega, List.range'_succ, List.all_cons]
  have := iter_up (F := F) st (fun j => if (List.range' j (n - j)).all p = true then fin else bad) n (fun j hj => by
    rcases Nat.lt_or_ge j n with h1 | h1
    · by_cases hp : p j = true
      · refine .inr ⟨h1, ?_, fun rec => by rw [h j h1 rec, if_pos hp]⟩
        simp only [hsplit j h1, hp, Bool.true_and]
      · refine .inl fun rec => ?_
        have hp' : p j = false := by cases h : p j <;> simp_all
        rw [h j h1 rec, if_neg hp]
        simp only [hsplit j h1, hp', Bool.false_and]
        rfl
    · obtain rfl : j = n := by omega
      exact .inl fun rec => by rw [he rec]; simp) k 0 (Nat.zero_le _) (by omega)
  rw [this, List.range_eq_range']
  rfl
/-! ### Numbers of a list by their places -/
def at' (S : List Int) (i : Nat) : Nat := (rd S (i : Int)).toNat
def in20 (S : List Int) : Prop := ∀ x ∈ S, 0 ≤ x ∧ x ≤ 20
theorem rd_in {S : List Int} (h : in20 S) (i : Nat) : 0 ≤ rd S (i : Int) ∧ rd S (i : Int) ≤ 20 := by
  rcases Nat.lt_or_ge i S.length with h1 | h1
  · rw [rd_nat S i h1]; exact h _ (List.getElem_mem h1)
  · unfold rd
    rw [Int.toNat_natCast, List.getD_eq_getElem?_getD, List.getElem?_eq_none h1]
    exact ⟨by decide, by decide⟩
theorem at_is {S : List Int} (h : in20 S) (i : Nat) : rd S (i : Int) = (at' S i : Int) := by
  have := rd_in h i
  unfold at'; omega
theorem at_le {S : List Int} (h : in20 S) (i : Nat) : at' S i ≤ 20 := by
  have := rd_in h i
  unfold at'; omega
theorem at_get {S : List Int} (i : Nat) (hi : i < S.length) : at' S i = (nats' S)[i]'(by rw [nats_len]; exact hi) := by
  unfold at'
  rw [rd_nat S i hi]
  simp [nats']
theorem sumN_total : ∀ (N : List Nat) (j : Nat) (hj : j ≤ N.length), sumN (fun i => N.getD i 0) j = total (N.take j)
  | [], j, hj => by
    have : j = 0 := by simpa using hj
    subst this; rfl
  | n :: N, 0, _ => rfl
  | n :: N, j + 1, hj => by
    rw [sumN_head, List.take_succ_cons, total]
    have := sumN_total N j (by simpa using hj)
    simp only [List.getD_cons_zero, List.getD_cons_succ] at this ⊢
    rw [this]
theorem total_at (S : List Int) : total (nats' S) = sumN (at' S) S.length := by
  have := sumN_total (nats' S) S.length (by rw [nats_len]; exact Nat.le_refl _)
  rw [show (nats' S).take S.length = nats' S by rw [← nats_len S, List.take_length]] at this
  rw [← this]
  refine sumN_congr _ fun i hi => ?_
  rw [at_get i hi, List.getD_eq_getElem?_getD, List.getElem?_eq_getElem (by rw [nats_len]; exact hi)]
  rfl
/-! ### What a draw is -/
def isB (S D : List Int) : Bool := decide (D.length = S.length) && (List.range D.length).all fun i => decide (0 ≤ rd D (i : Int)) && decide (rd D (i : Int) ≤ rd S (i : Int))
structure Is (S D : List Int) : Prop where
  len : D.length = S.length
  inD : in20 D
  le : ∀ i, at' D i ≤ at' S i
theorem is_is {S D : List Int} (h : isB S D = true) (hS : in20 S) : Is S D := by
  unfold isB at h
  simp only [Bool.and_eq_true, decide_eq_true_eq, List.all_eq_true, List.mem_range] at h
  obtain ⟨h1, h2⟩ := h
  refine ⟨h1, fun x hx => ?_, fun i => ?_⟩
  · obtain ⟨i, hi, rfl⟩ := List.getElem_of_mem hx
    have h3 := h2 i hi
    rw [rd_nat D i hi] at h3
    have := rd_in hS i
    omega
  · rcases Nat.lt_or_ge i D.length with hi | hi
    · have h3 := h2 i hi
      unfold at'; omega
    · unfold at' rd
      rw [Int.toNat_natCast, List.getD_eq_getElem?_getD, List.getElem?_eq_none hi]
      exact Nat.zero_le _
theorem isDraw_is (k : Nat) (hk : 100 ≤ k) (S D : List Int) (hS : S.length ≤ 8) (hD : D.length ≤ 9) : impl_isDraw_f k S D = some ((good S && isB S D, ()), ()) := by
  unfold impl_isDraw_f impl_IsDraw_f
  rw [areSocks_is k hk S hS]
  cases good S with
  | false => rfl
  | true =>
    simp only [Option.bind_some, Bool.not_true, cond_false]
    unfold isB
    by_cases hl : D.length = S.length
    · have h0 : ((D.length : Int) != (S.length : Int)) = false := by simp [hl]
      rw [h0, cond_false, decide_eq_true hl]
      have h : impl_IsDraw_l1 k S D 0 = if ((List.range D.length).all fun i => decide (0 ≤ rd D (i : Int)) && decide (rd D (i : Int) ≤ rd S (i : Int))) = true then some (.inl ()) else some (.inr ((false, true, ()), ())) := by
        unfold impl_IsDraw_l1
        refine scan (fun j => ((j : Int), ())) D.length _ _ _ (fun j hj rec => ?_) (fun rec => ?_) k (by omega)
        · simp only [impl_IsDraw_l1_b]
          rw [cond_dec, if_pos (by omega), ixk_in (by omega) (by omega), ixk_in (by omega) (by omega), within_is, iw_nat (by omega)]
          simp only [Option.bind_some]
          cases (decide (0 ≤ rd D (j : Int)) && decide (rd D (j : Int) ≤ rd S (j : Int))) <;> rfl
        · simp only [impl_IsDraw_l1_b]
          rw [cond_dec, if_neg (by omega)]
      rw [h]
      cases (List.range D.length).all fun i => decide (0 ≤ rd D (i : Int)) && decide (rd D (i : Int) ≤ rd S (i : Int)) <;> rfl
    · have h0 : ((D.length : Int) != (S.length : Int)) = true := by simp; omega
      rw [h0, decide_eq_false hl]; rfl

theorem tdiv2 (n : Nat) : Int.tdiv (n : Int) 2 = ((n / 2 : Nat) : Int) := by rw [Int.tdiv_eq_ediv_of_nonneg (by omega)]; rfl

theorem halves_at (S : List Int) : halves (nats' S) = sumN (fun i => at' S i / 2) S.length := by
  have h : ∀ (N : List Nat), halves N = sumN (fun i => N.getD i 0 / 2) N.length := by
    intro N
    induction N with
    | nil => rfl
    | cons n N ih =>
      rw [List.length_cons, sumN_head]
      simp only [halves, List.getD_cons_zero, List.getD_cons_succ]
      rw [ih]
  rw [h, nats_len]
  refine sumN_congr _ fun i hi => ?_
  rw [at_get i hi, List.getD_eq_getElem?_getD, List.getElem?_eq_getElem (by rw [nats_len]; exact hi)]
  rfl
theorem row_congr {n : Nat} {f f' : Nat → Nat} (h1 : ∀ i, i < n → f i = f' i) : row n f = row n f' := by
  unfold row
  refine List.map_congr_left fun i hi => ?_
  rw [h1 i (List.mem_range.1 hi)]

theorem row_succ (B : Nat) (f : Nat → Nat) : row (B + 1) f = row B f ++ [(f B : Int)] := by
  unfold row
  rw [List.range_succ, List.map_append]; rfl

theorem in20.snoc {P : List Int} (h : in20 P) {d : Nat} (hd : d ≤ 20) : in20 (P ++ [(d : Int)]) := by
  intro x hx
  rcases List.mem_append.1 hx with hx | hx
  · exact h x hx
  · rw [List.mem_singleton.1 hx]; omega

theorem zSum_is (k : Nat) (l : List Int) (hk : l.length < k) (hl : l.length ≤ 1000) : laws_zSum_f k l = some ((sumW l, ()), ()) := total_is k l hk hl
theorem zSame_is (k : Nat) (hk : 100 ≤ k) (a : List Int) (ha : a.length ≤ 20) : laws_zSame_f k a a = some ((true, ()), ()) := by
  unfold laws_zSame_f
  have e0 : ((a.length : Int) != (a.length : Int)) = false := by simp
  rw [e0]
  have h : laws_zSame_l1 k a a 0 = some (.inl ()) := by
    unfold laws_zSame_l1
    refine iter_to (fun j => ((j : Int), ())) a.length _ (fun j hj rec => ?_) (fun rec => ?_) k (by omega)
    · simp only [laws_zSame_l1_b]
      rw [cond_dec, if_pos (by omega), ixk_in (by omega) (by omega), ixk_in (by omega) (by omega), iw_nat (by omega)]
      simp
    · simp only [laws_zSame_l1_b]
      rw [cond_dec, if_neg (by omega)]
  rw [cond_false, h]; rfl

/-! ### The greatest of some numbers -/
def maxN (f : Nat → Nat) : Nat → Nat
  | 0 => 0
  | j + 1 => max (maxN f j) (f j)
theorem maxN_ge {f : Nat → Nat} : ∀ {j i : Nat}, i < j → f i ≤ maxN f j
  | j + 1, i, h => by
    simp only [maxN]
    rcases Nat.lt_or_ge i j with h1 | h1
    · have := maxN_ge (f := f) h1; omega
    · obtain rfl : i = j := by omega
      omega
theorem maxN_in {f : Nat → Nat} : ∀ {j : Nat}, 0 < j → ∃ i, i < j ∧ maxN f j = f i
  | j + 1, _ => by
    simp only [maxN]
    rcases Nat.eq_zero_or_pos j with rfl | h
    · exact ⟨0, by omega, by simp [maxN]⟩
    · obtain ⟨i, h1, h2⟩ := maxN_in (f := f) h
      rcases Nat.le_total (maxN f j) (f j) with h3 | h3
      · exact ⟨j, by omega, by omega⟩
      · exact ⟨i, by omega, by omega⟩
theorem maxN_le {f : Nat → Nat} {c : Nat} : ∀ {j : Nat}, (∀ i, i < j → f i ≤ c) → maxN f j ≤ c
  | 0, _ => Nat.zero_le _
  | j + 1, h => by
    have h1 := maxN_le (f := f) (c := c) (j := j) fun i hi => h i (by omega)
    have h2 := h j (by omega)
    simp only [maxN]; omega
/-! ### The most socks that have at most so many pairs -/
def cap2 (n p : Nat) : Nat := min n (2 * p + 1) + 1
def M : List Nat → Nat → Nat
  | [], _ => 0
  | n :: S, p => maxN (fun d => d + M S (p - d / 2)) (cap2 n p)
theorem M_ge (n : Nat) (S : List Nat) (p d : Nat) (h1 : d ≤ n) (h2 : d / 2 ≤ p) : d + M S (p - d / 2) ≤ M (n :: S) p := by
  simp only [M]
  exact maxN_ge (f := fun d => d + M S (p - d / 2)) (show d < cap2 n p by unfold cap2; omega)
theorem M_in (n : Nat) (S : List Nat) (p : Nat) : ∃ d, d ≤ n ∧ d / 2 ≤ p ∧ M (n :: S) p = d + M S (p - d / 2) := by
  obtain ⟨d, h1, h2⟩ := maxN_in (f := fun d => d + M S (p - d / 2)) (show 0 < cap2 n p by unfold cap2; omega)
  unfold cap2 at h1
  exact ⟨d, by omega, by omega, by simp only [M]; exact h2⟩
theorem M_le_total : ∀ (S : List Nat) (p : Nat), M S p ≤ total S
  | [], _ => Nat.le_refl _
  | n :: S, p => by
    obtain ⟨d, h1, h2, h3⟩ := M_in n S p
    have := M_le_total S (p - d / 2)
    simp only [total]; omega
theorem M_all : ∀ (S : List Nat) (p : Nat), halves S ≤ p → M S p = total S
  | [], _, _ => rfl
  | n :: S, p, h => by
    simp only [halves] at h
    have h1 := M_ge n S p n (Nat.le_refl _) (by omega)
    rw [M_all S (p - n / 2) (by omega)] at h1
    have h2 := M_le_total (n :: S) p
    simp only [total] at h2 ⊢
    omega
theorem M_lt : ∀ (S : List Nat) (p : Nat), p < halves S → M S p < M S (p + 1)
  | [], p, h => by simp [halves] at h
  | n :: S, p, h => by
    simp only [halves] at h
    obtain ⟨d, h1, h2, h3⟩ := M_in n S p
    rcases Nat.lt_or_ge (p - d / 2) (halves S) with h4 | h4
    · have h5 := M_lt S _ h4
      have h6 := M_ge n S (p + 1) d h1 (by omega)
      rw [show p + 1 - d / 2 = p - d / 2 + 1 by omega] at h6
      omega
    · -- a pair of this colour is free
      have h5 : M S (p - d / 2) = total S := M_all S _ h4
      have h6 := M_ge n S (p + 1) (2 * (d / 2) + 2) (by omega) (by omega)
      rw [show (2 * (d / 2) + 2) / 2 = d / 2 + 1 by omega, show p + 1 - (d / 2 + 1) = p - d / 2 by omega] at h6
      omega
theorem M_step : ∀ (S : List Nat) (p : Nat), M S (p + 1) ≤ M S p + 2
  | [], _ => by simp [M]
  | n :: S, p => by
    obtain ⟨d, h1, h2, h3⟩ := M_in n S (p + 1)
    rcases Nat.lt_or_ge (d / 2) (p + 1) with h4 | h4
    · have h5 := M_step S (p - d / 2)
      have h6 := M_ge n S p d h1 (by omega)
      rw [show p + 1 - d / 2 = p - d / 2 + 1 by omega] at h3
      omega
    · have h6 := M_ge n S p (d - 2) (by omega) (by omega)
      rw [show p - (d - 2) / 2 = 0 by omega] at h6
      rw [show p + 1 - d / 2 = 0 by omega] at h3
      omega
theorem M_low : ∀ (S : List Nat) (p : Nat), p < halves S → 2 * p + 1 ≤ M S p
  | [], p, h => by simp [halves] at h
  | n :: S, p, h => by
    simp only [halves] at h
    rcases Nat.lt_or_ge p (n / 2) with h1 | h1
    · have := M_ge n S p (2 * p + 1) (by omega) (by omega)
      omega
    · have h2 := M_low S (p - n / 2) (by omega)
      have := M_ge n S p (2 * (n / 2)) (by omega) (by omega)
      rw [show 2 * (n / 2) / 2 = n / 2 by omega] at this
      omega
theorem M_zero : ∀ (S : List Nat), M S 0 = sumN (fun i => if S.getD i 0 = 0 then 0 else 1) S.length
  | [] => rfl
  | n :: S => by
    rw [List.length_cons, sumN_head]
    simp only [List.getD_cons_zero, List.getD_cons_succ]
    rw [← M_zero S]
    obtain ⟨d, h1, h2, h3⟩ := M_in n S 0
    rw [Nat.zero_sub] at h3
    by_cases h : n = 0
    · rw [if_pos h]; omega
    · rw [if_neg h]
      have := M_ge n S 0 1 (by omega) (by omega)
      rw [Nat.zero_sub] at this
      omega
/-- Pairs of one colour. -/
def likeN (p : Nat) : List Nat → Nat
  | [] => 0
  | n :: S => min n (2 * p + 1) + likeN p S
theorem M_like : ∀ (S : List Nat) (p q : Nat), q ≤ p → M S q ≤ likeN p S
  | [], _, _, _ => Nat.le_refl _
  | n :: S, p, q, h => by
    obtain ⟨d, h1, h2, h3⟩ := M_in n S q
    have := M_like S p (q - d / 2) (by omega)
    simp only [likeN]; omega
theorem like_le : ∀ (S : List Nat) (p : Nat), likeN p S ≤ total S
  | [], _ => Nat.le_refl _
  | n :: S, p => by have := like_le S p; simp only [likeN, total]; omega
theorem like_lt : ∀ (S : List Nat) (p n : Nat), n ∈ S → 2 * p + 1 < n → likeN p S < total S
  | n' :: S, p, n, hm, h => by
    simp only [likeN, total]
    rcases List.mem_cons.1 hm with rfl | hm
    · have := like_le S p; omega
    · have := like_lt S p n hm h; omega
theorem like_zero : ∀ (S : List Nat), likeN 0 S = M S 0
  | [] => rfl
  | n :: S => by
    obtain ⟨d, h1, h2, h3⟩ := M_in n S 0
    have h4 := M_ge n S 0 (min n 1) (by omega) (by omega)
    rw [Nat.zero_sub] at h3 h4
    simp only [likeN]
    rw [like_zero S]; omega
theorem M_full (k : Nat) : ∀ (p : Nat), 0 < k → 2 * p + 2 ≤ 20 → M (List.replicate k 20) p = 2 * p + k := by
  induction k with
  | zero => intro p h; omega
  | succ k ih =>
    intro p _ hp
    rw [List.replicate_succ]
    obtain ⟨d, h1, h2, h3⟩ := M_in 20 (List.replicate k 20) p
    rcases Nat.eq_zero_or_pos k with rfl | hk
    · have h4 := M_ge 20 [] p (2 * p + 1) (by omega) (by omega)
      simp only [List.replicate_zero, M] at h3 h4 ⊢
      omega
    · rw [ih (p - d / 2) hk (by omega)] at h3
      have h4 := M_ge 20 (List.replicate k 20) p 1 (by omega) (by omega)
      rw [ih (p - 1 / 2) hk (by omega)] at h4
      omega
/-! ### Draws -/
/-- There is a draw of so many socks with so many pairs. -/
def Ach : List Nat → Nat → Nat → Prop
  | [], s, k => s = 0 ∧ k = 0
  | n :: S, s, k => ∃ d, d ≤ n ∧ d ≤ s ∧ d / 2 ≤ k ∧ Ach S (s - d) (k - d / 2)
theorem ach_M : ∀ (S : List Nat) (s k p : Nat), Ach S s k → k ≤ p → s ≤ M S p
  | [], s, k, p, h, _ => by rw [h.1]; exact Nat.zero_le _
  | n :: S, s, k, p, ⟨d, h1, h2, h3, h4⟩, hp => by
    have h5 := ach_M S _ _ (p - d / 2) h4 (by omega)
    have h6 := M_ge n S p d h1 (by omega)
    omega
theorem M_ach : ∀ (S : List Nat) (p : Nat), ∃ k, k ≤ p ∧ Ach S (M S p) k
  | [], p => ⟨0, Nat.zero_le _, rfl, rfl⟩
  | n :: S, p => by
    obtain ⟨d, h1, h2, h3⟩ := M_in n S p
    obtain ⟨k, h4, h5⟩ := M_ach S (p - d / 2)
    refine ⟨k + d / 2, by omega, d, h1, by omega, by omega, ?_⟩
    rw [h3, show d + M S (p - d / 2) - d = M S (p - d / 2) by omega, show k + d / 2 - d / 2 = k by omega]
    exact h5
theorem ach_snoc : ∀ (S : List Nat) (n s k : Nat), Ach (S ++ [n]) s k ↔ ∃ d, d ≤ n ∧ d ≤ s ∧ d / 2 ≤ k ∧ Ach S (s - d) (k - d / 2)
  | [], n, s, k => by simp [Ach]
  | m :: S, n, s, k => by
    simp only [List.cons_append, Ach]
    constructor
    · rintro ⟨e, h1, h2, h3, h4⟩
      obtain ⟨d, h5, h6, h7, h8⟩ := (ach_snoc S n _ _).1 h4
      exact ⟨d, h5, by omega, by omega, e, h1, by omega, by omega, by rw [show s - d - e = s - e - d by omega, show k - d / 2 - e / 2 = k - e / 2 - d / 2 by omega]; exact h8⟩
    · rintro ⟨d, h1, h2, h3, e, h5, h6, h7, h8⟩
      exact ⟨e, h5, by omega, by omega, (ach_snoc S n _ _).2 ⟨d, h1, by omega, by omega, by rw [show s - e - d = s - d - e by omega, show k - e / 2 - d / 2 = k - d / 2 - e / 2 by omega]; exact h8⟩⟩

theorem at_row (n : Nat) (f : Nat → Nat) (i : Nat) (hi : i < n) : at' (row n f) i = f i := by
  unfold at'
  rw [row_get _ _ i hi, Int.toNat_natCast]
theorem in20_row {n : Nat} {f : Nat → Nat} (h : ∀ i, i < n → f i ≤ 20) : in20 (row n f) := by
  intro x hx
  obtain ⟨i, hi, rfl⟩ := List.mem_map.1 hx
  have := h i (List.mem_range.1 hi)
  omega
theorem pairsOf_in (k : Nat) (hk : 1000 ≤ k) {S : List Int} (hin : in20 S) (h8 : S.length ≤ 20) : impl_pairsOf_f k S = some (((halves (nats' S) : Int), ()), ()) := by
  unfold impl_pairsOf_f
  have hs : ∀ (S : List Int) (a : Int), in20 S → 0 ≤ a → a + 20 * S.length ≤ 1000000 → S.foldl (fun a x => iw (a + iw (Int.tdiv x 2))) a = a + (halves (nats' S) : Int) := by
    intro S
    induction S with
    | nil => intro a _ _ _; simp [nats', halves]
    | cons x S ih =>
      intro a h h0 h1
      have h2 := h x (by simp)
      simp only [List.length_cons] at h1
      have e : iw (Int.tdiv x 2) = x / 2 := by rw [Int.tdiv_eq_ediv_of_nonneg (by omega), iw_id (by omega) (by omega)]
      simp only [List.foldl_cons, e]
      rw [iw_id (by omega) (by omega), ih _ (fun y hy => h y (by simp [hy])) (by omega) (by omega)]
      simp only [nats', List.map_cons, halves]
      omega
  have h : impl_pairsOf_l1 k S 0 0 = some (.inl ((halves (nats' S) : Int), ())) := by
    unfold impl_pairsOf_l1
    refine iter_to (fun j => ((S.take j).foldl (fun a x => iw (a + iw (Int.tdiv x 2))) 0, (j : Int), ())) S.length _ (fun j hj rec => ?_) (fun rec => ?_) k (by omega)
    · simp only [impl_pairsOf_l1_b, cond_dec]
      rw [if_pos (by omega), ixk_in (by omega) (by omega), iw_nat (by omega), rd_nat S j hj, take_fold _ _ _ _ hj]
    · simp only [impl_pairsOf_l1_b, cond_dec]
      rw [if_neg (by omega), List.take_length, hs S 0 hin (by omega) (by omega), Int.zero_add]
  rw [h]; rfl
theorem soPairs_in (k : Nat) (hk : 1000 ≤ k) {S : List Int} (hin : in20 S) (h8 : S.length ≤ 20) : spec_soPairs_f k S = some (((halves (nats' S) : Int), ()), ()) := pairsOf_in k hk hin h8
/-! ### Pairs of a draw -/
def pairsVal (S D : List Int) : (Int × Bool × Unit) × Unit := if (good S && isB S D) = true then (((halves (nats' D) : Int), true, ()), ()) else ((0, false, ()), ())
theorem implPairs_is (k : Nat) (hk : 1000 ≤ k) (S D : List Int) (h8 : S.length ≤ 8) (h9 : D.length ≤ 9) : impl_PairsOfDraw_f k S D = some (pairsVal S D) := by
  unfold impl_PairsOfDraw_f pairsVal
  rw [isDraw_is k (by omega) S D h8 h9]
  simp only [Option.bind_some]
  cases h : good S && isB S D with
  | false => rfl
  | true =>
    simp only [Bool.and_eq_true] at h
    have I := is_is h.2 (good_is h.1).inS
    simp only [Bool.not_true, cond_false, if_true]
    rw [pairsOf_in k hk I.inD (by omega)]
    rfl
/-! ### Is it a draw; how many socks -/
def isVal (S D : List Int) : (Bool × Bool × Unit) × Unit := ((good S && isB S D, good S, ()), ())
theorem implIsDraw_is (k : Nat) (hk : 100 ≤ k) (S D : List Int) (h8 : S.length ≤ 8) (h9 : D.length ≤ 9) : impl_IsDraw_f k S D = some (isVal S D) := by
  have hd := isDraw_is k hk S D h8 h9
  unfold impl_isDraw_f at hd
  unfold impl_IsDraw_f isVal at *
  rw [areSocks_is k hk S h8] at hd ⊢
  cases hg : good S with
  | false => rfl
  | true =>
    rw [hg] at hd
    simp only [Option.bind_some, Bool.not_true, cond_false, Bool.true_and] at hd ⊢
    by_cases hl : D.length = S.length
    · have h0 : ((D.length : Int) != (S.length : Int)) = false := by simp [hl]
      rw [h0] at hd ⊢
      simp only [cond_false] at hd ⊢
      have h : impl_IsDraw_l1 k S D 0 = if ((List.range D.length).all fun i => decide (0 ≤ rd D (i : Int)) && decide (rd D (i : Int) ≤ rd S (i : Int))) = true then some (.inl ()) else some (.inr ((false, true, ()), ())) := by
        unfold impl_IsDraw_l1
        refine scan (fun j => ((j : Int), ())) D.length _ _ _ (fun j hj rec => ?_) (fun rec => ?_) k (by omega)
        · simp only [impl_IsDraw_l1_b]
          rw [cond_dec, if_pos (by omega), ixk_in (by omega) (by omega), ixk_in (by omega) (by omega), within_is, iw_nat (by omega)]
          simp only [Option.bind_some]
          cases (decide (0 ≤ rd D (j : Int)) && decide (rd D (j : Int) ≤ rd S (j : Int))) <;> rfl
        · simp only [impl_IsDraw_l1_b]
          rw [cond_dec, if_neg (by omega)]
      unfold isB
      rw [h, decide_eq_true hl]
      cases (List.range D.length).all fun i => decide (0 ≤ rd D (i : Int)) && decide (rd D (i : Int) ≤ rd S (i : Int)) <;> rfl
    · have h0 : ((D.length : Int) != (S.length : Int)) = true := by simp; omega
      unfold isB
      rw [h0, decide_eq_false hl]; rfl
def countS (S : List Int) : (Int × Bool × Unit) × Unit := if good S = true then (((total (nats' S) : Int), true, ()), ()) else ((0, false, ()), ())
theorem implCountS_is (k : Nat) (hk : 100 ≤ k) (S : List Int) (h8 : S.length ≤ 8) : impl_CountSocks_f k S = some (countS S) := by
  unfold impl_CountSocks_f countS
  rw [areSocks_is k hk S h8]
  cases hg : good S with
  | false => rfl
  | true =>
    simp only [Option.bind_some, Bool.not_true, cond_false, if_true]
    rw [total_is k S (by omega) (by omega), (good_sum (good_is hg)).1]
    rfl

theorem nats_drop (S : List Int) (j : Nat) : nats' (S.drop j) = (nats' S).drop j := by simp [nats', List.map_drop]
theorem in20_drop {S : List Int} (h : in20 S) (j : Nat) : in20 (S.drop j) := fun x hx => h x (List.mem_of_mem_drop hx)

theorem getD_at (S : List Int) (j : Nat) : (nats' S).getD j 0 = at' S j := by
  unfold nats' at' rd
  rw [Int.toNat_natCast, List.getD_eq_getElem?_getD, List.getD_eq_getElem?_getD, List.getElem?_map]
  cases S[j]? <;> rfl

/-! ### Sure pairs: the lesser functions -/
def piVal (S : List Int) : (Int × Bool × Unit) × Unit := if good S = true then (((halves (nats' S) : Int), true, ()), ()) else ((0, false, ()), ())
theorem implPI_is (k : Nat) (hk : 1000 ≤ k) (S : List Int) (h8 : S.length ≤ 8) : impl_PairsIn_f k S = some (piVal S) := by
  unfold impl_PairsIn_f piVal
  rw [areSocks_is k (by omega) S h8]
  cases hg : good S with
  | false => rfl
  | true =>
    simp only [Option.bind_some, Bool.not_true, cond_false, if_true]
    rw [pairsOf_in k hk (good_is hg).inS (by omega)]
    rfl
theorem specPI_is (k : Nat) (hk : 1000 ≤ k) (S : List Int) (h8 : S.length ≤ 8) : spec_PairsIn_f k S = some (piVal S) := by
  unfold spec_PairsIn_f piVal
  rw [soGood_is k (by omega) S h8]
  cases hg : good S with
  | false => rfl
  | true =>
    simp only [Option.bind_some, Bool.not_true, cond_false, if_true]
    rw [soPairs_in k hk (good_is hg).inS (by omega)]
    rfl
theorem specCountS_is (k : Nat) (hk : 100 ≤ k) (S : List Int) (h8 : S.length ≤ 8) : spec_CountSocks_f k S = some (countS S) := by
  unfold spec_CountSocks_f countS
  rw [soGood_is k hk S h8]
  cases hg : good S with
  | false => rfl
  | true =>
    simp only [Option.bind_some, Bool.not_true, cond_false, if_true]
    rw [soSum_is k S (by omega) (by omega), (good_sum (good_is hg)).1]
    rfl
theorem specAreS_is (k : Nat) (hk : 100 ≤ k) (S : List Int) (h8 : S.length ≤ 8) : spec_AreSocks_f k S = some ((good S, ()), ()) := by
  unfold spec_AreSocks_f
  rw [soGood_is k hk S h8]; rfl
/-! #### One colour -/
def colG (S : List Int) (c : Int) : Bool := good S && (decide (0 ≤ c) && decide (c ≤ (S.length : Int) - 1))
def socVal (S : List Int) (c n : Int) : (Int × Bool × Unit) × Unit := if (colG S c && (decide (1 ≤ n) && decide (n ≤ rd S c))) = true then (((total (nats' S) : Int) - rd S c + n, true, ()), ()) else ((0, false, ()), ())
theorem isCol_is (k : Nat) (hk : 100 ≤ k) (S : List Int) (h8 : S.length ≤ 8) (c : Int) : impl_isColour_f k S c = some ((colG S c, ()), ()) := by
  unfold impl_isColour_f colG
  rw [areSocks_is k hk S h8]
  cases hg : good S with
  | false => rfl
  | true =>
    have := (good_is hg).l0
    simp only [Option.bind_some, cond_true, within_is, met_inl, Bool.true_and]
    rw [iw_id (by omega) (by omega)]
theorem soCol_is (k : Nat) (hk : 100 ≤ k) (S : List Int) (h8 : S.length ≤ 8) (c : Int) : spec_soColour_f k S c = some ((colG S c, ()), ()) := by
  unfold spec_soColour_f colG
  rw [soGood_is k hk S h8]
  cases hg : good S with
  | false => rfl
  | true =>
    have := (good_is hg).l0
    simp only [Option.bind_some, cond_true, l1In_is, met_inl, Bool.true_and]
    rw [iw_id (by omega) (by omega)]
theorem soc_sum {S : List Int} (hg : good S = true) (c n : Int) (h0 : 0 ≤ c) (h1 : c ≤ (S.length : Int) - 1) (h2 : 1 ≤ n) (h3 : n ≤ rd S c) : iw (iw ((total (nats' S) : Int) - rd S c) + n) = (total (nats' S) : Int) - rd S c + n := by
  obtain ⟨j, rfl⟩ : ∃ j : Nat, c = (j : Int) := ⟨c.toNat, by omega⟩
  have G := good_is hg
  have l8 := G.l8
  have hm := G.inS _ (List.getElem_mem (show j < S.length by omega))
  have hs := good_sum G
  have hb := sum_bound G.inS
  rw [rd_nat S j (by omega)] at h3 ⊢
  have ht : ((total (nats' S) : Nat) : Int) ≤ 160 := by have := hs.1; rw [sumW_is G.inS (by omega)] at this; omega
  rw [iw_id (x := ((total (nats' S) : Nat) : Int) - S[j]) (by omega) (by omega), iw_id (by omega) (by omega)]
theorem implSOC_is (k : Nat) (hk : 100 ≤ k) (S : List Int) (h8 : S.length ≤ 8) (c n : Int) : impl_SureOfColour_f k S c n = some (socVal S c n) := by
  unfold impl_SureOfColour_f socVal
  rw [isCol_is k hk S h8]
  cases hb : colG S c with
  | false => rfl
  | true =>
    unfold colG at hb
    simp only [Bool.and_eq_true, decide_eq_true_eq] at hb
    obtain ⟨hg, h0, h1⟩ := hb
    simp only [Option.bind_some, Bool.not_true, cond_false, within_is, Bool.true_and]
    rw [ixk_in h0 (by omega)]
    simp only [met_inl]
    cases hr : (decide (1 ≤ n) && decide (n ≤ rd S c)) with
    | false => rfl
    | true =>
      simp only [Bool.and_eq_true, decide_eq_true_eq] at hr
      simp only [Bool.not_true, cond_false, if_true]
      rw [ixk_in h0 (by omega), total_is k S (by omega) (by omega), (good_sum (good_is hg)).1]
      simp only [Option.bind_some]
      rw [soc_sum hg c n h0 h1 hr.1 hr.2]
theorem specSOC_is (k : Nat) (hk : 100 ≤ k) (S : List Int) (h8 : S.length ≤ 8) (c n : Int) : spec_SureOfColour_f k S c n = some (socVal S c n) := by
  unfold spec_SureOfColour_f socVal
  rw [soCol_is k hk S h8]
  cases hb : colG S c with
  | false => rfl
  | true =>
    unfold colG at hb
    simp only [Bool.and_eq_true, decide_eq_true_eq] at hb
    obtain ⟨hg, h0, h1⟩ := hb
    simp only [Option.bind_some, Bool.not_true, cond_false, l1In_is, Bool.true_and]
    rw [ixk_in h0 (by omega)]
    simp only [met_inl]
    cases hr : (decide (1 ≤ n) && decide (n ≤ rd S c)) with
    | false => rfl
    | true =>
      simp only [Bool.and_eq_true, decide_eq_true_eq] at hr
      simp only [Bool.not_true, cond_false, if_true]
      rw [ixk_in h0 (by omega), soSum_is k S (by omega) (by omega), (good_sum (good_is hg)).1]
      simp only [Option.bind_some]
      rw [soc_sum hg c n h0 h1 hr.1 hr.2]
theorem implSPO_is (k : Nat) (hk : 100 ≤ k) (S : List Int) (h8 : S.length ≤ 8) (c : Int) : impl_SurePairOf_f k S c = some (socVal S c 2) := by
  unfold impl_SurePairOf_f
  rw [implSOC_is k hk S h8]; rfl
theorem specSPO_is (k : Nat) (hk : 100 ≤ k) (S : List Int) (h8 : S.length ≤ 8) (c : Int) : spec_SurePairOf_f k S c = some (socVal S c 2) := by
  unfold spec_SurePairOf_f
  rw [specSOC_is k hk S h8]; rfl
/-! #### The least socks that are enough -/
def lsB (a b : Int) : Bool := (decide (1 ≤ a) && decide (a ≤ 100)) && (decide (1 ≤ b) && decide (b ≤ 8))
def lsVal (a b : Int) : (Int × Bool × Unit) × Unit := if lsB a b = true then ((2 * a - 1 + b, true, ()), ()) else ((0, false, ()), ())
theorem implLS_is (k : Nat) (a b : Int) : impl_LeastSocks_f k a b = some (lsVal a b) := by
  unfold impl_LeastSocks_f lsVal lsB
  simp only [within_is, Option.bind_some]
  cases h1 : (decide (1 ≤ a) && decide (a ≤ 100)) with
  | false => rfl
  | true =>
    cases h2 : (decide (1 ≤ b) && decide (b ≤ 8)) with
    | false => rfl
    | true =>
      simp only [Bool.and_eq_true, decide_eq_true_eq] at h1 h2
      simp only [Bool.not_true, cond_false, met_inl, Bool.and_self, if_true]
      rw [iw_id (x := 2 * a) (by omega) (by omega), iw_id (x := 2 * a - 1) (by omega) (by omega), iw_id (by omega) (by omega)]
theorem specLS_is (k : Nat) (a b : Int) : spec_LeastSocks_f k a b = some (lsVal a b) := by
  unfold spec_LeastSocks_f lsVal lsB
  simp only [l1In_is, Option.bind_some]
  cases h1 : (decide (1 ≤ a) && decide (a ≤ 100)) with
  | false => rfl
  | true =>
    cases h2 : (decide (1 ≤ b) && decide (b ≤ 8)) with
    | false => rfl
    | true =>
      simp only [Bool.and_eq_true, decide_eq_true_eq] at h1 h2
      simp only [Bool.not_true, cond_false, met_inl, Bool.and_self, if_true]
      rw [iw_id (x := 2 * a) (by omega) (by omega), iw_id (x := 2 * a - 1) (by omega) (by omega), iw_id (by omega) (by omega)]
/-! #### Drawn -/
theorem drawWD_is (k : Nat) (hk : 100 ≤ k) (l : List Int) (h : ∀ x ∈ l, 0 ≤ x ∧ x ≤ 255) : ∃ S p, spec_DrawWorstDraw_f k l = some (((S, p, ()), ())) ∧ S.length ≤ 8 ∧ p ≤ 4611686018427387904 := by
  unfold spec_DrawWorstDraw_f spec_DrawSurePairs_f
  obtain ⟨S, c, e, h1, q1, d1, d2⟩ := socks_is k hk (cur0 h) (by omega)
  rw [e]; simp only [Option.bind_some]
  obtain ⟨v2, c2, e2, a2, h2, q2⟩ := among_is k h1 (by omega) [1, 1, 2, 2, 3, 4, 0, (-1), 4611686018427387904] (by decide)
  rw [ceta, e2]
  have : ∀ x ∈ [(1 : Int), 1, 2, 2, 3, 4, 0, (-1), 4611686018427387904], x ≤ 4611686018427387904 := by decide
  exact ⟨S, v2, rfl, d2, this v2 a2⟩
theorem drawSOC_is (k : Nat) (hk : 100 ≤ k) (l : List Int) (h : ∀ x ∈ l, 0 ≤ x ∧ x ≤ 255) : ∃ S c n, spec_DrawSureOfColour_f k l = some (((S, c, n, ()), ())) ∧ S.length ≤ 8 := by
  unfold spec_DrawSureOfColour_f
  obtain ⟨S, c, e, h1, q1, d1, d2⟩ := socks_is k hk (cur0 h) (by omega)
  rw [e]; simp only [Option.bind_some]
  obtain ⟨v2, c2, e2, a2, b2, h2, q2⟩ := pick_is k h1 (by omega) (iw (((List.length S : Nat) : Int) + 2))
  rw [ceta, e2]
  simp only [Option.bind_some]
  obtain ⟨v3, c3, e3, a3, h3, q3⟩ := among_is k h2 (by omega) [1, 1, 2, 3, 4, 0, (-1), 4611686018427387904] (by decide)
  rw [ceta, e3]
  exact ⟨S, _, v3, rfl, d2⟩
theorem drawSPO_is (k : Nat) (hk : 100 ≤ k) (l : List Int) (h : ∀ x ∈ l, 0 ≤ x ∧ x ≤ 255) : ∃ S c, spec_DrawSurePairOf_f k l = some (((S, c, ()), ())) ∧ S.length ≤ 8 := by
  unfold spec_DrawSurePairOf_f
  obtain ⟨S, c, e, h1, q1, d1, d2⟩ := socks_is k hk (cur0 h) (by omega)
  rw [e]; simp only [Option.bind_some]
  obtain ⟨v2, c2, e2, a2, b2, h2, q2⟩ := pick_is k h1 (by omega) (iw (((List.length S : Nat) : Int) + 2))
  rw [ceta, e2]
  exact ⟨S, _, rfl, d2⟩
theorem drawLS_is (k : Nat) (l : List Int) (h : ∀ x ∈ l, 0 ≤ x ∧ x ≤ 255) : ∃ a b, spec_DrawLeastSocks_f k l = some (((a, b, ()), ())) := by
  unfold spec_DrawLeastSocks_f
  obtain ⟨v2, c2, e2, a2, h2, q2⟩ := among_is k (cur0 h) (by omega) [1, 2, 3, 10, 100, 101, 0] (by decide)
  rw [e2]
  simp only [Option.bind_some]
  obtain ⟨v3, c3, e3, a3, h3, q3⟩ := among_is k h2 (by omega) [1, 2, 3, 5, 8, 9, 0] (by decide)
  rw [ceta, e3]
  exact ⟨v2, v3, rfl⟩

/-! ### Pairs of one colour -/
theorem like_at (q : Nat) : ∀ N : List Nat, sumN (fun j => min (N.getD j 0) (2 * q + 1)) N.length = likeN q N
  | [] => rfl
  | n :: N => by
    rw [List.length_cons, sumN_head]
    simp only [List.getD_cons_zero, List.getD_cons_succ]
    rw [like_at q N]; rfl
theorem like_S (q : Nat) (S : List Int) : sumN (fun i => min (at' S i) (2 * q + 1)) S.length = likeN q (nats' S) := by
  rw [← like_at q (nats' S), nats_len]
  refine sumN_congr _ fun i _ => ?_
  show min (at' S i) _ = min ((nats' S).getD i 0) _
  rw [getD_at]
def mxS (S : List Int) : Nat := maxN (at' S) S.length
def slkB (S : List Int) (p : Int) : Bool := good S && (decide (1 ≤ p) && decide (p ≤ ((mxS S / 2 : Nat) : Int)))
def slkVal (S : List Int) (p : Int) : (Int × Bool × Unit) × Unit := if slkB S p = true then (((likeN (p.toNat - 1) (nats' S) : Int) + 1, true, ()), ()) else ((0, false, ()), ())
theorem sum_le20 {f : Nat → Nat} {c : Nat} (h : ∀ i, f i ≤ c) : ∀ n, sumN f n ≤ c * n
  | 0 => Nat.le_refl _
  | n + 1 => by have := sum_le20 h n; have := h n; simp only [sumN, Nat.mul_succ]; omega
theorem mxS_le {S : List Int} (h : in20 S) : mxS S ≤ 20 := maxN_le fun i _ => at_le h i
theorem max_is (k : Nat) (hk : 100 ≤ k) {S : List Int} (h : in20 S) (l1 : 1 ≤ S.length) (l8 : S.length ≤ 20) : slices_Max_int_int_f k S = some (((mxS S : Int), ()), ()) := by
  unfold slices_Max_int_int_f
  rw [cond_dec, if_neg (by omega)]
  simp only [met_inl]
  rw [chk_dec (by omega)]
  obtain ⟨n, hn⟩ : ∃ n, S.length = n + 1 := ⟨S.length - 1, by omega⟩
  have h0 : rd S 0 = ((maxN (at' S) (0 + 1) : Nat) : Int) := by
    have := at_is h 0
    rw [show ((0 : Nat) : Int) = 0 from rfl] at this
    rw [this]; simp [maxN]
  have hl : slices_Max_int_int_l2 k S (rd S 0) 1 = some (.inl (((mxS S : Nat) : Int), ())) := by
    rw [h0]
    unfold slices_Max_int_int_l2
    refine iter_to (fun j => (((maxN (at' S) (j + 1) : Nat) : Int), ((j + 1 : Nat) : Int), ())) n _ (fun j hj rec => ?_) (fun rec => ?_) k (by omega)
    · have ha := at_is h (j + 1)
      have hb := at_le h (j + 1)
      have hc : maxN (at' S) (j + 1) ≤ 20 := maxN_le fun i _ => at_le h i
      simp only [slices_Max_int_int_l2_b]
      rw [cond_dec, if_pos (by omega), ixk_in (by omega) (by omega), ha, iw_nat (by omega)]
      have e : max2 ((maxN (at' S) (j + 1) : Nat) : Int) ((at' S (j + 1) : Nat) : Int) = ((maxN (at' S) (j + 1 + 1) : Nat) : Int) := by
        show _ = ((max (maxN (at' S) (j + 1)) (at' S (j + 1)) : Nat) : Int)
        unfold max2
        split <;> omega
      rw [e]
    · simp only [slices_Max_int_int_l2_b]
      rw [cond_dec, if_neg (by omega), show mxS S = maxN (at' S) (n + 1) by unfold mxS; rw [hn]]
  rw [hl]; rfl
section
variable (k : Nat) (hk : 100 ≤ k) (S : List Int) (h8 : S.length ≤ 8) (p : Int)
include hk h8
theorem implSLK_is : impl_SurePairsLike_f k S p = some (slkVal S p) := by
  unfold impl_SurePairsLike_f slkVal slkB
  rw [areSocks_is k hk S h8]
  cases hg : good S with
  | false => rfl
  | true =>
    have G := good_is hg
    have hm := mxS_le G.inS
    simp only [Option.bind_some, Bool.not_true, cond_false]
    rw [max_is k hk G.inS G.l0 (by omega)]
    simp only [Option.bind_some, within_is, met_inl, tdiv2, Bool.true_and]
    rw [iw_id (x := ((mxS S / 2 : Nat) : Int)) (by omega) (by omega)]
    cases hr : (decide (1 ≤ p) && decide (p ≤ ((mxS S / 2 : Nat) : Int))) with
    | false => rfl
    | true =>
      simp only [Bool.and_eq_true, decide_eq_true_eq] at hr
      obtain ⟨q, rfl⟩ : ∃ q : Nat, p = ((q + 1 : Nat) : Int) := ⟨p.toNat - 1, by omega⟩
      simp only [Bool.not_true, cond_false, if_true, Int.toNat_natCast, Nat.add_sub_cancel]
      have hl : impl_SurePairsLike_l2 k S ((q + 1 : Nat) : Int) 0 0 = some (.inl (((likeN q (nats' S) : Nat) : Int), ())) := by
        rw [← like_S q S]
        unfold impl_SurePairsLike_l2
        refine iter_to (fun j => (((sumN (fun i => min (at' S i) (2 * q + 1)) j : Nat) : Int), (j : Int), ())) S.length _ (fun j hj rec => ?_) (fun rec => ?_) k (by omega)
        · have ha := at_is G.inS j
          have hb := at_le G.inS j
          have hs : sumN (fun i => min (at' S i) (2 * q + 1)) j ≤ 20 * j := sum_le20 (c := 20) (fun i => by have := at_le G.inS i; omega) j
          simp only [impl_SurePairsLike_l2_b]
          rw [cond_dec, if_pos (by omega), ixk_in (by omega) (by omega), ha, iw_id (x := 2 * ((q + 1 : Nat) : Int)) (by omega) (by omega), iw_id (x := 2 * ((q + 1 : Nat) : Int) - 1) (by omega) (by omega)]
          have e : min2 ((at' S j : Nat) : Int) (2 * ((q + 1 : Nat) : Int) - 1) = ((min (at' S j) (2 * q + 1) : Nat) : Int) := by
            unfold min2
            split <;> omega
          rw [e, iw_id (by omega) (by omega), iw_nat (by omega)]
          rfl
        · simp only [impl_SurePairsLike_l2_b]
          rw [cond_dec, if_neg (by omega)]
      rw [hl]
      have ht := like_le (nats' S) q
      have := (good_sum G).2.1
      simp only [met_inl]
      rw [iw_id (by omega) (by omega)]
theorem specSLK_is : spec_SurePairsLike_f k S p = some (slkVal S p) := by
  unfold spec_SurePairsLike_f slkVal slkB
  rw [soGood_is k hk S h8]
  cases hg : good S with
  | false => rfl
  | true =>
    have G := good_is hg
    have hm := mxS_le G.inS
    simp only [Option.bind_some, Bool.not_true, cond_false, met_inl, Bool.true_and]
    by_cases hp : p < 1
    · rw [decide_eq_true hp, decide_eq_false (show ¬ 1 ≤ p by omega)]
      rfl
    · rw [decide_eq_false hp, decide_eq_true (show 1 ≤ p by omega)]
      obtain ⟨q, rfl⟩ : ∃ q : Nat, p = ((q + 1 : Nat) : Int) := ⟨p.toNat - 1, by omega⟩
      simp only [cond_false, Bool.true_and, Int.toNat_natCast, Nat.add_sub_cancel]
      have hl : spec_SurePairsLike_l2 k S ((q + 1 : Nat) : Int) 0 false 0 = some (.inl (((likeN q (nats' S) : Nat) : Int), decide (q + 1 ≤ mxS S / 2), ())) := by
        rw [← like_S q S]
        unfold spec_SurePairsLike_l2
        have h0 : (false : Bool) = decide (q + 1 ≤ maxN (at' S) 0 / 2) := by simp [maxN]
        conv => lhs; rw [h0]
        refine iter_to (fun j => (((sumN (fun i => min (at' S i) (2 * q + 1)) j : Nat) : Int), decide (q + 1 ≤ maxN (at' S) j / 2), (j : Int), ())) S.length _ (fun j hj rec => ?_) (fun rec => ?_) k (by omega)
        · have ha := at_is G.inS j
          have hb := at_le G.inS j
          have hs : sumN (fun i => min (at' S i) (2 * q + 1)) j ≤ 20 * j := sum_le20 (c := 20) (fun i => by have := at_le G.inS i; omega) j
          have hmx : maxN (at' S) (j + 1) = max (maxN (at' S) j) (at' S j) := rfl
          have hss : sumN (fun i => min (at' S i) (2 * q + 1)) (j + 1) = sumN (fun i => min (at' S i) (2 * q + 1)) j + min (at' S j) (2 * q + 1) := rfl
          simp only [spec_SurePairsLike_l2_b]
          rw [cond_dec, if_pos (by omega), ixk_in (by omega) (by omega), ha, tdiv2, iw_id (x := ((at' S j / 2 : Nat) : Int)) (by omega) (by omega), cond_dec]
          by_cases hge : ((at' S j / 2 : Nat) : Int) ≥ ((q + 1 : Nat) : Int)
          · rw [if_pos hge]
            simp only [met_inl]
            rw [iw_id (x := 2 * ((q + 1 : Nat) : Int)) (by omega) (by omega), iw_id (x := 2 * ((q + 1 : Nat) : Int) - 1) (by omega) (by omega), iw_id (by omega) (by omega), iw_nat (by omega), hmx, hss, decide_eq_true (show q + 1 ≤ max (maxN (at' S) j) (at' S j) / 2 by omega), show (((sumN (fun i => min (at' S i) (2 * q + 1)) j + min (at' S j) (2 * q + 1) : Nat) : Int)) = ((sumN (fun i => min (at' S i) (2 * q + 1)) j : Nat) : Int) + (2 * ((q + 1 : Nat) : Int) - 1) by omega]
          · rw [if_neg hge]
            simp only [met_inl]
            rw [iw_id (by omega) (by omega), iw_nat (by omega), hmx, hss, show decide (q + 1 ≤ max (maxN (at' S) j) (at' S j) / 2) = decide (q + 1 ≤ maxN (at' S) j / 2) from decide_eq_decide.2 (by omega), show (((sumN (fun i => min (at' S i) (2 * q + 1)) j + min (at' S j) (2 * q + 1) : Nat) : Int)) = ((sumN (fun i => min (at' S i) (2 * q + 1)) j : Nat) : Int) + ((at' S j : Nat) : Int) by omega]
        · simp only [spec_SurePairsLike_l2_b]
          rw [cond_dec, if_neg (by omega)]
          rfl
      rw [hl]
      have ht := like_le (nats' S) q
      have := (good_sum G).2.1
      simp only [met_inl]
      by_cases hq : q + 1 ≤ mxS S / 2
      · rw [decide_eq_true hq, decide_eq_true (show ((q + 1 : Nat) : Int) ≤ ((mxS S / 2 : Nat) : Int) by omega)]
        simp only [Bool.not_true, cond_false, if_true]
        rw [iw_id (by omega) (by omega)]
      · rw [decide_eq_false hq, decide_eq_false (show ¬ ((q + 1 : Nat) : Int) ≤ ((mxS S / 2 : Nat) : Int) by omega)]
        rfl
end

/-! ### The worst draws' table -/
def tabF (n : Nat) (f : Nat → List Int) : List (List Int) := (List.range n).map f
theorem tabF_len (n : Nat) (f : Nat → List Int) : (tabF n f).length = n := by simp [tabF]
theorem tabF_get (n : Nat) (f : Nat → List Int) (i : Nat) (h : i < n) : rdG [] (tabF n f) (i : Int) = f i := by
  rw [rdG_nat _ _ i (by rw [tabF_len]; exact h)]; simp [tabF]
theorem tabF_congr {n : Nat} {f g : Nat → List Int} (h : ∀ i, i < n → f i = g i) : tabF n f = tabF n g := List.map_congr_left fun i hi => h i (List.mem_range.1 hi)
theorem tabF_set (n : Nat) (f : Nat → List Int) (i : Nat) (r : List Int) : setI (tabF n f) (i : Int) r = tabF n (fun j => if j = i then r else f j) := by
  show (tabF n f).set _ _ = _
  rw [Int.toNat_natCast]
  apply List.ext_getElem
  · simp [tabF]
  · intro j h1 h2
    rw [List.getElem_set]
    simp only [tabF, List.getElem_map, List.getElem_range]
    by_cases h : i = j
    · rw [if_pos h, if_pos h.symm]
    · rw [if_neg h, if_neg (Ne.symm h)]
def Md (S : List Int) (j p : Nat) : Nat := M ((nats' S).drop j) p
theorem Md_step {S : List Int} (j p : Nat) (h : j < S.length) : Md S j p = maxN (fun d => d + Md S (j + 1) (p - d / 2)) (cap2 (at' S j) p) := by
  unfold Md
  have hl : j < (nats' S).length := by rw [nats_len]; exact h
  rw [List.drop_eq_getElem_cons hl, at_get j h]
  rfl
theorem Md_end {S : List Int} (p : Nat) : Md S S.length p = 0 := by
  unfold Md
  rw [List.drop_eq_nil_of_le (by rw [nats_len]; exact Nat.le_refl _)]; rfl
theorem total_le20 : ∀ N : List Nat, (∀ x ∈ N, x ≤ 20) → total N ≤ 20 * N.length
  | [], _ => Nat.zero_le _
  | n :: N, h => by
    have := total_le20 N fun x hx => h x (by simp [hx])
    have := h n (by simp)
    simp only [total, List.length_cons]; omega
theorem Md_le {S : List Int} (h : in20 S) (l8 : S.length ≤ 8) (j p : Nat) : Md S j p ≤ 160 := by
  have h1 := M_le_total ((nats' S).drop j) p
  have h2 := total_le20 ((nats' S).drop j) fun x hx => nats_in h x (List.mem_of_mem_drop hx)
  rw [List.length_drop, nats_len] at h2
  unfold Md; omega
section
variable (k : Nat) (hk : 1000 ≤ k) {S : List Int} (h : in20 S) (l8 : S.length ≤ 8) (P : Nat) (hP : P ≤ 100)
include hk h l8 hP
theorem worst3 (i : Nat) (hi : i < S.length) (p : Nat) (hp : p ≤ P) (H : Nat → Nat) (F : Nat → List Int) (hF : F (i + 1) = row (P + 1) (Md S (i + 1))) :
    impl_worst_l3 k S (i : Int) (p : Int) (tabF (S.length + 1) fun j => if j = i then row (P + 1) (fun q => if q = p then 0 else H q) else F j) 0 = some (.inl (tabF (S.length + 1) (fun j => if j = i then row (P + 1) (fun q => if q = p then Md S i p else H q) else F j), ())) := by
  rw [Md_step i p hi]
  have hai := at_le h i
  unfold impl_worst_l3
  refine iter_to (fun d => (tabF (S.length + 1) (fun j => if j = i then row (P + 1) (fun q => if q = p then maxN (fun d => d + Md S (i + 1) (p - d / 2)) d else H q) else F j), (d : Int), ())) (cap2 (at' S i) p) _ (fun d hd rec => ?_) (fun rec => ?_) k (by unfold cap2; omega)
  · unfold cap2 at hd
    have g1 : rdG [] (tabF (S.length + 1) (fun j => if j = i then row (P + 1) (fun q => if q = p then maxN (fun d => d + Md S (i + 1) (p - d / 2)) d else H q) else F j)) (i : Int) = row (P + 1) (fun q => if q = p then maxN (fun d => d + Md S (i + 1) (p - d / 2)) d else H q) := by
      rw [tabF_get _ _ i (by omega), if_pos rfl]
    have g2 : rdG [] (tabF (S.length + 1) (fun j => if j = i then row (P + 1) (fun q => if q = p then maxN (fun d => d + Md S (i + 1) (p - d / 2)) d else H q) else F j)) ((i + 1 : Nat) : Int) = row (P + 1) (Md S (i + 1)) := by
      rw [tabF_get _ _ (i + 1) (by omega), if_neg (by omega), hF]
    have e2 := tdiv2 d
    have b1 := Md_le h l8 (i + 1) (p - d / 2)
    simp only [impl_worst_l3_b]
    rw [ixk_in (by omega) (by omega), at_is h i, cond_dec, if_pos (by omega), e2, iw_id (x := ((d / 2 : Nat) : Int)) (by omega) (by omega), decide_eq_true (show ((d / 2 : Nat) : Int) ≤ (p : Int) by omega)]
    simp only [met_inl, cond_true]
    rw [iw_id (x := (i : Int) + 1) (by omega) (by omega), show (i : Int) + 1 = ((i + 1 : Nat) : Int) by omega, iw_id (x := (p : Int) - ((d / 2 : Nat) : Int)) (by omega) (by omega), show (p : Int) - ((d / 2 : Nat) : Int) = ((p - d / 2 : Nat) : Int) by omega]
    rw [ixk_in (by omega) (by rw [tabF_len]; omega), ixk_in (by omega) (by rw [tabF_len]; omega), ixk_in (by omega) (by rw [g1, row_len]; omega), ixk_in (by omega) (by rw [tabF_len]; omega), ixk_in (by omega) (by rw [g2, row_len]; omega), ixk_in (by omega) (by rw [g1, row_len]; omega)]
    rw [g1, g2, row_get _ _ _ (show p < P + 1 by omega), row_get _ _ _ (show p - d / 2 < P + 1 by omega), if_pos rfl]
    have e3 : max2 ((maxN (fun d => d + Md S (i + 1) (p - d / 2)) d : Nat) : Int) (iw ((d : Int) + ((Md S (i + 1) (p - d / 2) : Nat) : Int))) = ((maxN (fun d => d + Md S (i + 1) (p - d / 2)) (d + 1) : Nat) : Int) := by
      rw [iw_id (by omega) (by omega)]
      show _ = ((max (maxN (fun d => d + Md S (i + 1) (p - d / 2)) d) (d + Md S (i + 1) (p - d / 2)) : Nat) : Int)
      unfold max2
      split <;> omega
    rw [e3, row_set, tabF_set, iw_nat (by omega)]
    congr 2
    refine tabF_congr fun j _ => ?_
    by_cases hj : j = i
    · rw [if_pos hj, if_pos hj]
      refine row_congr fun q _ => ?_
      by_cases hq : q = p
      · rw [if_pos hq, if_pos hq]
      · rw [if_neg hq, if_neg hq, if_neg hq]
    · rw [if_neg hj, if_neg hj, if_neg hj]
  · simp only [impl_worst_l3_b]
    rw [ixk_in (by omega) (by omega), at_is h i, cond_dec]
    by_cases h1 : ((cap2 (at' S i) p : Nat) : Int) ≤ ((at' S i : Nat) : Int)
    · unfold cap2 at h1 ⊢
      rw [if_pos h1, tdiv2, iw_id (by omega) (by omega), decide_eq_false (by omega)]
      rfl
    · rw [if_neg h1]
      rfl
end

theorem rep_row (m : Nat) : List.replicate m (0 : Int) = row m (fun _ => 0) := by simp [row, List.map_const']
def tabW (S : List Int) (P : Nat) : List (List Int) := tabF (S.length + 1) fun r => row (P + 1) (Md S r)
section
variable (k : Nat) (hk : 1000 ≤ k) {S : List Int} (h : in20 S) (l8 : S.length ≤ 8) (P : Nat) (hP : P ≤ 100)
include hk h l8 hP
theorem worst2 (i : Nat) (hi : i < S.length) (F : Nat → List Int) (hF : F (i + 1) = row (P + 1) (Md S (i + 1))) :
    impl_worst_l2 k S (P : Int) (tabF (S.length + 1) F) (i : Int) (setI (tabF (S.length + 1) F) (i : Int) (List.replicate (Int.toNat (iw ((P : Int) + 1))) (0 : Int))) 0 = some (.inl (tabF (S.length + 1) (fun j => if j = i then row (P + 1) (Md S i) else F j), ())) := by
  have e0 : Int.toNat (iw ((P : Int) + 1)) = P + 1 := by rw [iw_id (by omega) (by omega)]; omega
  have es : setI (tabF (S.length + 1) F) (i : Int) (List.replicate (Int.toNat (iw ((P : Int) + 1))) (0 : Int)) = tabF (S.length + 1) (fun j => if j = i then row (P + 1) (fun q => if q < 0 then Md S i q else 0) else F j) := by
    rw [e0, rep_row, tabF_set]
    refine tabF_congr fun j _ => ?_
    by_cases hj : j = i
    · rw [if_pos hj, if_pos hj]; exact row_congr fun q _ => by rw [if_neg (Nat.not_lt_zero q)]
    · rw [if_neg hj, if_neg hj]
  have hlen : List.length (rdG [] (setI (tabF (S.length + 1) F) (i : Int) (List.replicate (Int.toNat (iw ((P : Int) + 1))) (0 : Int))) (i : Int)) = P + 1 := by
    rw [es, tabF_get _ _ i (by omega), if_pos rfl, row_len]
  conv => lhs; rw [es]
  unfold impl_worst_l2
  refine iter_to (fun p => (tabF (S.length + 1) (fun j => if j = i then row (P + 1) (fun q => if q < p then Md S i q else 0) else F j), (p : Int), ())) (P + 1) _ (fun p hp rec => ?_) (fun rec => ?_) k (by omega)
  · have h3 := worst3 k hk h l8 P hP i hi p (by omega) (fun q => if q < p then Md S i q else 0) F hF
    have a1 : (tabF (S.length + 1) fun j => if j = i then row (P + 1) (fun q => if q = p then 0 else if q < p then Md S i q else 0) else F j) = tabF (S.length + 1) (fun j => if j = i then row (P + 1) (fun q => if q < p then Md S i q else 0) else F j) := by
      refine tabF_congr fun j _ => ?_
      by_cases hj : j = i
      · rw [if_pos hj, if_pos hj]
        refine row_congr fun q _ => ?_
        by_cases hq : q = p
        · rw [if_pos hq, if_neg (by omega)]
        · rw [if_neg hq]
      · rw [if_neg hj, if_neg hj]
    have a2 : (tabF (S.length + 1) fun j => if j = i then row (P + 1) (fun q => if q = p then Md S i p else if q < p then Md S i q else 0) else F j) = tabF (S.length + 1) (fun j => if j = i then row (P + 1) (fun q => if q < p + 1 then Md S i q else 0) else F j) := by
      refine tabF_congr fun j _ => ?_
      by_cases hj : j = i
      · rw [if_pos hj, if_pos hj]
        refine row_congr fun q _ => ?_
        by_cases hq : q = p
        · rw [if_pos hq, if_pos (by omega), hq]
        · rw [if_neg hq]
          by_cases hl : q < p
          · rw [if_pos hl, if_pos (by omega)]
          · rw [if_neg hl, if_neg (by omega)]
      · rw [if_neg hj, if_neg hj]
    rw [a1, a2] at h3
    simp only [impl_worst_l2_b]
    rw [hlen, cond_dec, if_pos (by omega), h3]
    simp only [met_inl]
    rw [iw_nat (by omega)]
  · simp only [impl_worst_l2_b]
    rw [hlen, cond_dec, if_neg (by omega)]
    congr 3
    refine tabF_congr fun j _ => ?_
    by_cases hj : j = i
    · rw [if_pos hj, if_pos hj]; exact row_congr fun q hq => by rw [if_pos hq]
    · rw [if_neg hj, if_neg hj]
theorem worst1 : impl_worst_l1 k S (P : Int) (tabF (S.length + 1) fun r => if S.length ≤ r then row (P + 1) (Md S r) else []) ((S.length : Int) - 1) = some (.inl (tabW S P, ())) := by
  have e0 : iw ((P : Int) + 1) = ((P + 1 : Nat) : Int) := by rw [iw_id (by omega) (by omega)]; omega
  have e2 : (S.length : Int) - 1 = (S.length : Int) - 1 - ((0 : Nat) : Int) := by omega
  have e3 : (tabF (S.length + 1) fun r => if S.length - S.length ≤ r then row (P + 1) (Md S r) else []) = tabW S P := tabF_congr fun r _ => by rw [if_pos (by omega)]
  conv => lhs; rw [e2]
  unfold impl_worst_l1
  refine iter_to (fun j => (tabF (S.length + 1) (fun r => if S.length - j ≤ r then row (P + 1) (Md S r) else []), (S.length : Int) - 1 - (j : Int), ())) S.length _ (fun j hj rec => ?_) (fun rec => ?_) k (by omega)
  · obtain ⟨i, hi⟩ : ∃ i, S.length = j + 1 + i := ⟨S.length - j - 1, by omega⟩
    have ei : (S.length : Int) - 1 - (j : Int) = (i : Int) := by omega
    have h2 := worst2 k hk h l8 P hP i (by omega) (fun r => if S.length - j ≤ r then row (P + 1) (Md S r) else []) (by
      show (if S.length - j ≤ i + 1 then _ else _) = _
      rw [if_pos (by omega)])
    have a2 : (tabF (S.length + 1) fun r => if r = i then row (P + 1) (Md S i) else if S.length - j ≤ r then row (P + 1) (Md S r) else []) = tabF (S.length + 1) (fun r => if S.length - (j + 1) ≤ r then row (P + 1) (Md S r) else []) := by
      refine tabF_congr fun r _ => ?_
      by_cases hr : r = i
      · rw [if_pos hr, if_pos (by omega), hr]
      · rw [if_neg hr]
        by_cases hl : S.length - j ≤ r
        · rw [if_pos hl, if_pos (by omega)]
        · rw [if_neg hl, if_neg (by omega)]
    rw [a2] at h2
    simp only [impl_worst_l1_b]
    rw [ei, cond_dec, if_pos (by omega)]
    rw [chk_dec (by rw [e0]; omega), chk_dec (by rw [e0]; omega), ixk_in (by omega) (by rw [tabF_len]; omega), ixk_in (by omega) (by rw [tabF_set, tabF_len]; omega), h2]
    simp only [met_inl]
    rw [iw_id (by omega) (by omega), show (i : Int) - 1 = (S.length : Int) - 1 - ((j + 1 : Nat) : Int) by omega]
  · simp only [impl_worst_l1_b]
    rw [cond_dec, if_neg (by omega), e3]
theorem worst_is : impl_worst_f k S (P : Int) = some ((tabW S P, ()), ()) := by
  have e0 : iw ((P : Int) + 1) = ((P + 1 : Nat) : Int) := by rw [iw_id (by omega) (by omega)]; omega
  have e1 : iw ((S.length : Int) + 1) = ((S.length + 1 : Nat) : Int) := by rw [iw_id (by omega) (by omega)]; omega
  unfold impl_worst_f
  rw [e0, e1, chk_dec (by omega), chk_dec (by omega), chk_dec (by omega), chk_dec (by omega), ixk_in (by omega) (by simp; omega), iw_id (x := (S.length : Int) - 1) (by omega) (by omega), Int.toNat_natCast, Int.toNat_natCast]
  have e2 : List.replicate (S.length + 1) ([] : List Int) = tabF (S.length + 1) (fun _ => []) := by simp [tabF, List.map_const']
  have e3 : setI (List.replicate (S.length + 1) ([] : List Int)) ((S.length : Nat) : Int) (List.replicate (P + 1) (0 : Int)) = tabF (S.length + 1) (fun r => if S.length ≤ r then row (P + 1) (Md S r) else []) := by
    rw [e2, rep_row, tabF_set]
    refine tabF_congr fun r hr => ?_
    by_cases hz : r = S.length
    · rw [if_pos hz, if_pos (by omega), hz]
      exact row_congr fun q _ => (Md_end q).symm
    · rw [if_neg hz, if_neg (by omega)]
  rw [e3, worst1 k hk h l8 P hP]
  rfl
end

/-! ### Sure pairs -/
theorem halves_le80 : ∀ N : List Nat, (∀ x ∈ N, x ≤ 20) → halves N ≤ 10 * N.length
  | [], _ => Nat.zero_le _
  | n :: N, h => by
    have := halves_le80 N fun x hx => h x (by simp [hx])
    have := h n (by simp)
    simp only [halves, List.length_cons]; omega
theorem halves_80 {S : List Int} (h : in20 S) (l8 : S.length ≤ 8) : halves (nats' S) ≤ 80 := by
  have := halves_le80 (nats' S) (nats_in h)
  rw [nats_len] at this; omega
theorem tabW_get (S : List Int) (P i p : Nat) (hi : i ≤ S.length) (hp : p ≤ P) : rd (rdG [] (tabW S P) (i : Int)) (p : Int) = (Md S i p : Int) := by
  unfold tabW
  rw [tabF_get _ _ i (by omega), row_get _ _ _ (by omega)]
theorem tabW_row (S : List Int) (P i : Nat) (hi : i ≤ S.length) : (rdG [] (tabW S P) (i : Int)).length = P + 1 := by
  unfold tabW
  rw [tabF_get _ _ i (by omega), row_len]
theorem Md_0 (S : List Int) (p : Nat) : Md S 0 p = M (nats' S) p := rfl
def spB (S : List Int) (p : Int) : Bool := good S && (decide (1 ≤ p) && decide (p ≤ (halves (nats' S) : Int)))
def spVal (S : List Int) (p : Int) : (Int × Bool × Unit) × Unit := if spB S p = true then (((M (nats' S) (p.toNat - 1) : Int) + 1, true, ()), ()) else ((0, false, ()), ())
section
variable (k : Nat) (hk : 1000 ≤ k) (S : List Int) (h8 : S.length ≤ 8) (p : Int)
include hk h8
theorem implSP_is : impl_SurePairs_f k S p = some (spVal S p) := by
  unfold impl_SurePairs_f spVal spB
  rw [areSocks_is k (by omega) S h8]
  cases hg : good S with
  | false => rfl
  | true =>
    have G := good_is hg
    have hh := halves_80 G.inS h8
    simp only [Option.bind_some, Bool.not_true, cond_false]
    rw [pairsOf_in k hk G.inS (by omega)]
    simp only [Option.bind_some, within_is, met_inl, Bool.true_and]
    cases hr : (decide (1 ≤ p) && decide (p ≤ (halves (nats' S) : Int))) with
    | false => rfl
    | true =>
      simp only [Bool.and_eq_true, decide_eq_true_eq] at hr
      obtain ⟨q, rfl⟩ : ∃ q : Nat, p = ((q + 1 : Nat) : Int) := ⟨p.toNat - 1, by omega⟩
      simp only [Bool.not_true, cond_false, if_true, Int.toNat_natCast, Nat.add_sub_cancel]
      have e0 : iw (((q + 1 : Nat) : Int) - 1) = (q : Int) := by rw [iw_id (by omega) (by omega)]; omega
      rw [e0, worst_is k hk G.inS h8 q (by omega)]
      simp only [Option.bind_some]
      have g := tabW_get S q 0 q (Nat.zero_le _) (Nat.le_refl _)
      have gl := tabW_row S q 0 (Nat.zero_le _)
      rw [show ((0 : Nat) : Int) = 0 from rfl] at g gl
      have hm := Md_le G.inS h8 0 q
      have ht : (tabW S q).length = S.length + 1 := tabF_len _ _
      rw [chk_dec (by omega), ixk_in (by omega) (by omega), g, iw_id (by omega) (by omega)]
      rfl
end
/-! #### Exact pairs -/
def rowZ (m : Nat) (f : Nat → Int) : List Int := (List.range m).map f
theorem rowZ_len (m : Nat) (f : Nat → Int) : (rowZ m f).length = m := by simp [rowZ]
theorem rowZ_get (m : Nat) (f : Nat → Int) (p : Nat) (h : p < m) : rd (rowZ m f) (p : Int) = f p := by
  rw [rd_nat _ p (by rw [rowZ_len]; exact h)]; simp [rowZ]
theorem rowZ_congr {m : Nat} {f g : Nat → Int} (h : ∀ i, i < m → f i = g i) : rowZ m f = rowZ m g := List.map_congr_left fun i hi => h i (List.mem_range.1 hi)
theorem rowZ_set (m : Nat) (f : Nat → Int) (i : Nat) (r : Int) : setI (rowZ m f) (i : Int) r = rowZ m (fun j => if j = i then r else f j) := by
  show (rowZ m f).set _ _ = _
  rw [Int.toNat_natCast]
  apply List.ext_getElem
  · simp [rowZ]
  · intro j h1 h2
    rw [List.getElem_set]
    simp only [rowZ, List.getElem_map, List.getElem_range]
    by_cases h : i = j
    · rw [if_pos h, if_pos h.symm]
    · rw [if_neg h, if_neg (Ne.symm h)]
theorem rep_rowZ (m : Nat) (v : Int) : List.replicate m v = rowZ m (fun _ => v) := by simp [rowZ, List.map_const']
def exB (e : Nat → Int) (p : Nat) : Nat → Int
  | 0 => -1
  | d + 1 => if 0 ≤ e (p - d / 2) then (if exB e p d > e (p - d / 2) + d then exB e p d else e (p - d / 2) + d) else exB e p d
def ex (S : List Int) : Nat → Nat → Int
  | 0, p => if p = 0 then 0 else -1
  | j + 1, p => exB (ex S j) p (cap2 (at' S j) p)
def IsEx (N : List Nat) (p : Nat) (v : Int) : Prop := (v = -1 ∧ ∀ s, ¬ Ach N s p) ∨ ∃ s : Nat, v = (s : Int) ∧ Ach N s p ∧ ∀ s', Ach N s' p → s' ≤ s
theorem exB_is (e : Nat → Int) (p : Nat) (he : ∀ q, -1 ≤ e q) : ∀ d, (exB e p d = -1 ∧ ∀ x, x < d → e (p - x / 2) = -1) ∨ ((∃ x, x < d ∧ 0 ≤ e (p - x / 2) ∧ exB e p d = e (p - x / 2) + x) ∧ ∀ x, x < d → 0 ≤ e (p - x / 2) → e (p - x / 2) + x ≤ exB e p d)
  | 0 => .inl ⟨rfl, fun x hx => absurd hx (Nat.not_lt_zero _)⟩
  | d + 1 => by
    have hd := he (p - d / 2)
    simp only [exB]
    by_cases h0 : 0 ≤ e (p - d / 2)
    · rw [if_pos h0]
      rcases exB_is e p he d with ⟨h1, h2⟩ | ⟨⟨x, hx, hx2, hx3⟩, h2⟩
      · rw [h1, if_neg (by omega)]
        refine .inr ⟨⟨d, by omega, h0, rfl⟩, fun x hx hx0 => ?_⟩
        by_cases hxd : x = d
        · rw [hxd]; exact Int.le_refl _
        · have := h2 x (by omega); omega
      · by_cases hgt : exB e p d > e (p - d / 2) + d
        · rw [if_pos hgt]
          refine .inr ⟨⟨x, by omega, hx2, hx3⟩, fun y hy hy0 => ?_⟩
          by_cases hyd : y = d
          · rw [hyd]; omega
          · exact h2 y (by omega) hy0
        · rw [if_neg hgt]
          refine .inr ⟨⟨d, by omega, h0, rfl⟩, fun y hy hy0 => ?_⟩
          by_cases hyd : y = d
          · rw [hyd]; exact Int.le_refl _
          · have := h2 y (by omega) hy0; omega
    · rw [if_neg h0]
      rcases exB_is e p he d with ⟨h1, h2⟩ | ⟨⟨x, hx, hx2, hx3⟩, h2⟩
      · refine .inl ⟨h1, fun x hx => ?_⟩
        by_cases hxd : x = d
        · rw [hxd]; omega
        · exact h2 x (by omega)
      · refine .inr ⟨⟨x, by omega, hx2, hx3⟩, fun y hy hy0 => ?_⟩
        by_cases hyd : y = d
        · rw [hyd] at hy0; omega
        · exact h2 y (by omega) hy0
theorem IsEx.ge {N : List Nat} {p : Nat} {v : Int} (h : IsEx N p v) : -1 ≤ v := by
  rcases h with ⟨h, _⟩ | ⟨s, h, _⟩ <;> omega
theorem ex_is (S : List Int) : ∀ j, j ≤ S.length → ∀ p, IsEx ((nats' S).take j) p (ex S j p) := by
  intro j
  induction j with
  | zero =>
    intro _ p
    simp only [ex, List.take_zero]
    by_cases hp : p = 0
    · rw [if_pos hp]
      exact .inr ⟨0, rfl, ⟨rfl, hp⟩, fun s' hs => Nat.le_of_eq hs.1⟩
    · rw [if_neg hp]
      exact .inl ⟨rfl, fun s hs => hp hs.2⟩
  | succ j ih =>
    intro hj p
    have IH := ih (by omega)
    have hl : j < (nats' S).length := by rw [nats_len]; omega
    have ht : (nats' S).take (j + 1) = (nats' S).take j ++ [at' S j] := by rw [at_get j (by omega)]; exact List.take_succ_eq_append_getElem hl
    rw [ht]
    simp only [ex]
    have hcap : ∀ d, d < cap2 (at' S j) p ↔ d ≤ at' S j ∧ d / 2 ≤ p := fun d => by unfold cap2; omega
    rcases exB_is (ex S j) p (fun q => (IH q).ge) (cap2 (at' S j) p) with ⟨h1, h2⟩ | ⟨⟨x, hx, hx2, hx3⟩, h2⟩
    · refine .inl ⟨h1, fun s hs => ?_⟩
      obtain ⟨d, d1, d2, d3, d4⟩ := (ach_snoc _ _ _ _).1 hs
      have := h2 d ((hcap d).2 ⟨d1, d3⟩)
      rcases IH (p - d / 2) with ⟨_, q⟩ | ⟨s', q, _⟩
      · exact q _ d4
      · omega
    · have hxc := (hcap x).1 hx
      rcases IH (p - x / 2) with ⟨q, _⟩ | ⟨s, q1, q2, q3⟩
      · omega
      · refine .inr ⟨s + x, by rw [hx3, q1]; omega, (ach_snoc _ _ _ _).2 ⟨x, hxc.1, by omega, hxc.2, by rw [Nat.add_sub_cancel]; exact q2⟩, fun s' hs => ?_⟩
        obtain ⟨d, d1, d2, d3, d4⟩ := (ach_snoc _ _ _ _).1 hs
        rcases IH (p - d / 2) with ⟨_, q⟩ | ⟨s2, r1, r2, r3⟩
        · exact absurd d4 (q _)
        · have a1 := h2 d ((hcap d).2 ⟨d1, d3⟩) (by omega)
          have a2 := r3 _ d4
          omega

/-! ### Exact pairs by the reference -/
def mxE (f : Nat → Int) : Nat → Int
  | 0 => 0
  | j + 1 => if mxE f j > f j then mxE f j else f j
theorem mxE_is (f : Nat → Int) : ∀ j, 0 ≤ mxE f j ∧ (∀ i, i < j → f i ≤ mxE f j) ∧ (mxE f j = 0 ∨ ∃ i, i < j ∧ mxE f j = f i)
  | 0 => ⟨Int.le_refl _, fun i hi => absurd hi (Nat.not_lt_zero _), .inl rfl⟩
  | j + 1 => by
    obtain ⟨h1, h2, h3⟩ := mxE_is f j
    simp only [mxE]
    by_cases h : mxE f j > f j
    · rw [if_pos h]
      refine ⟨h1, fun i hi => ?_, ?_⟩
      · by_cases e : i = j
        · rw [e]; omega
        · exact h2 i (by omega)
      · rcases h3 with h3 | ⟨i, hi, h3⟩
        · exact .inl h3
        · exact .inr ⟨i, by omega, h3⟩
    · rw [if_neg h]
      refine ⟨by omega, fun i hi => ?_, .inr ⟨j, by omega, rfl⟩⟩
      by_cases e : i = j
      · rw [e]; exact Int.le_refl _
      · have := h2 i (by omega); omega
theorem ex_M {S : List Int} (P : Nat) : mxE (ex S S.length) (P + 1) = (M (nats' S) P : Int) := by
  have hex : ∀ p, IsEx (nats' S) p (ex S S.length p) := fun p => by
    have := ex_is S S.length (Nat.le_refl _) p
    rwa [List.take_of_length_le (by rw [nats_len]; exact Nat.le_refl _)] at this
  obtain ⟨h1, h2, h3⟩ := mxE_is (ex S S.length) (P + 1)
  obtain ⟨q, hq, ha⟩ := M_ach (nats' S) P
  have hlow : (M (nats' S) P : Int) ≤ mxE (ex S S.length) (P + 1) := by
    have := h2 q (by omega)
    rcases hex q with ⟨_, e⟩ | ⟨s, e1, _, e3⟩
    · exact absurd ha (e _)
    · have := e3 _ ha; omega
  rcases h3 with h3 | ⟨i, hi, h3⟩
  · omega
  · rcases hex i with ⟨e, _⟩ | ⟨s, e1, e2, _⟩
    · omega
    · have := ach_M _ _ _ P e2 (by omega)
      omega
theorem ex_le {S : List Int} (h : in20 S) (l8 : S.length ≤ 8) (j p : Nat) (hj : j ≤ S.length) : ex S j p ≤ 160 ∧ -1 ≤ ex S j p := by
  refine ⟨?_, (ex_is S j hj p).ge⟩
  rcases ex_is S j hj p with ⟨e, _⟩ | ⟨s, e1, e2, _⟩
  · omega
  · have h1 := ach_M _ _ _ p e2 (Nat.le_refl _)
    have h2 := M_le_total ((nats' S).take j) p
    have h3 := total_le20 ((nats' S).take j) fun x hx => nats_in h x (List.mem_of_mem_take hx)
    rw [List.length_take, nats_len] at h3
    omega
section
variable (k : Nat) (hk : 1000 ≤ k) {S : List Int} (h : in20 S) (l8 : S.length ≤ 8) (P : Nat) (hP : P ≤ 100)
include hk h l8 hP
theorem most5 (i : Nat) (hi : i < S.length) (p : Nat) (hp : p ≤ P) (H : Nat → Int) :
    spec_soMost_l5 k S (i : Int) (rowZ (P + 1) (ex S i)) (p : Int) (rowZ (P + 1) fun q => if q = p then -1 else H q) 0 = some (.inl (rowZ (P + 1) (fun q => if q = p then ex S (i + 1) p else H q), ())) := by
  have hai := at_le h i
  rw [show ex S (i + 1) p = exB (ex S i) p (cap2 (at' S i) p) from rfl]
  unfold spec_soMost_l5
  refine iter_to (fun d => (rowZ (P + 1) (fun q => if q = p then exB (ex S i) p d else H q), (d : Int), ())) (cap2 (at' S i) p) _ (fun d hd rec => ?_) (fun rec => ?_) k (by unfold cap2; omega)
  · unfold cap2 at hd
    have e2 := tdiv2 d
    have b1 := ex_le h l8 i (p - d / 2) (by omega)
    have g1 := rowZ_get (P + 1) (fun q => if q = p then exB (ex S i) p d else H q) p (by omega)
    have g2 := rowZ_get (P + 1) (ex S i) (p - d / 2) (by omega)
    simp only [if_true] at g1
    simp only [spec_soMost_l5_b]
    rw [at_is h i, cond_dec, if_pos (by omega), e2, iw_id (x := ((d / 2 : Nat) : Int)) (by omega) (by omega), decide_eq_true (show ((d / 2 : Nat) : Int) ≤ (p : Int) by omega)]
    simp only [met_inl, cond_true]
    rw [iw_id (x := (p : Int) - ((d / 2 : Nat) : Int)) (by omega) (by omega), show (p : Int) - ((d / 2 : Nat) : Int) = ((p - d / 2 : Nat) : Int) by omega, ixk_in (by omega) (by rw [rowZ_len]; omega), g2, cond_dec]
    by_cases h0 : ex S i (p - d / 2) ≥ 0
    · rw [if_pos h0, ixk_in (by omega) (by rw [rowZ_len]; omega), ixk_in (by omega) (by rw [rowZ_len]; omega), g1, iw_id (x := ex S i (p - d / 2) + (d : Int)) (by omega) (by omega), most_l1]
      simp only [Option.bind_some]
      rw [ixk_in (by omega) (by rw [rowZ_len]; omega)]
      simp only [met_inl]
      rw [rowZ_set, iw_nat (by omega)]
      congr 2
      refine rowZ_congr fun q _ => ?_
      by_cases hq : q = p
      · rw [if_pos hq, if_pos hq]
        simp only [exB]
        rw [if_pos h0]
      · rw [if_neg hq, if_neg hq, if_neg hq]
    · rw [if_neg h0]
      simp only [met_inl]
      rw [iw_nat (by omega)]
      congr 2
      refine rowZ_congr fun q _ => ?_
      by_cases hq : q = p
      · rw [if_pos hq, if_pos hq]
        simp only [exB]
        rw [if_neg h0]
      · rw [if_neg hq, if_neg hq]
  · simp only [spec_soMost_l5_b]
    rw [at_is h i, cond_dec]
    by_cases h1 : ((cap2 (at' S i) p : Nat) : Int) ≤ ((at' S i : Nat) : Int)
    · unfold cap2 at h1 ⊢
      rw [if_pos h1, tdiv2, iw_id (by omega) (by omega), decide_eq_false (by omega)]
      rfl
    · rw [if_neg h1]
      rfl
theorem most4 (i : Nat) (hi : i < S.length) : spec_soMost_l4 k S (P : Int) (i : Int) (rowZ (P + 1) (ex S i)) (List.replicate (P + 1) (0 : Int)) 0 = some (.inl (rowZ (P + 1) (ex S (i + 1)), ())) := by
  have e0 : Int.toNat (iw ((P : Int) + 1)) = P + 1 := by rw [iw_id (by omega) (by omega)]; omega
  have es : List.replicate (P + 1) (0 : Int) = rowZ (P + 1) (fun q => if q < 0 then ex S (i + 1) q else 0) := by
    rw [rep_rowZ]; exact rowZ_congr fun q _ => by rw [if_neg (Nat.not_lt_zero q)]
  conv => lhs; rw [es]
  unfold spec_soMost_l4
  refine iter_to (fun p => (rowZ (P + 1) (ex S i), rowZ (P + 1) (fun q => if q < p then ex S (i + 1) q else 0), (p : Int), ())) (P + 1) _ (fun p hp rec => ?_) (fun rec => ?_) k (by omega)
  · have h5 := most5 k hk h l8 P hP i hi p (by omega) (fun q => if q < p then ex S (i + 1) q else 0)
    have a2 : (rowZ (P + 1) fun q => if q = p then ex S (i + 1) p else if q < p then ex S (i + 1) q else 0) = rowZ (P + 1) (fun q => if q < p + 1 then ex S (i + 1) q else 0) := by
      refine rowZ_congr fun q _ => ?_
      by_cases hq : q = p
      · rw [if_pos hq, if_pos (by omega), hq]
      · rw [if_neg hq]
        by_cases hl : q < p
        · rw [if_pos hl, if_pos (by omega)]
        · rw [if_neg hl, if_neg (by omega)]
    rw [a2] at h5
    simp only [spec_soMost_l4_b]
    rw [e0, List.length_replicate, cond_dec, if_pos (by omega), ixk_in (by omega) (by rw [rowZ_len]; omega), rowZ_set, h5]
    simp only [met_inl]
    rw [iw_nat (by omega)]
  · simp only [spec_soMost_l4_b]
    rw [e0, List.length_replicate, cond_dec, if_neg (by omega)]
    congr 3
    exact rowZ_congr fun q hq => by rw [if_pos hq]
theorem soMost_is : spec_soMost_f k S (P : Int) = some ((rowZ (P + 1) (ex S S.length), ()), ()) := by
  have e0 : iw ((P : Int) + 1) = ((P + 1 : Nat) : Int) := by rw [iw_id (by omega) (by omega)]; omega
  unfold spec_soMost_f
  rw [e0, chk_dec (by omega), chk_dec (by omega), Int.toNat_natCast]
  have h1 : spec_soMost_l1 k (P : Int) (List.replicate (P + 1) (0 : Int)) 0 = some (.inl (rowZ (P + 1) (fun _ => -1), ())) := by
    have es : List.replicate (P + 1) (0 : Int) = rowZ (P + 1) (fun q => if q < 0 then -1 else 0) := by
      rw [rep_rowZ]; exact rowZ_congr fun q _ => by rw [if_neg (Nat.not_lt_zero q)]
    conv => lhs; rw [es]
    unfold spec_soMost_l1
    refine iter_to (fun j => (rowZ (P + 1) (fun q => if q < j then -1 else 0), (j : Int), ())) (P + 1) _ (fun j hj rec => ?_) (fun rec => ?_) k (by omega)
    · simp only [spec_soMost_l1_b]
      rw [e0, Int.toNat_natCast, List.length_replicate, cond_dec, if_pos (by omega), ixk_in (by omega) (by rw [rowZ_len]; omega), rowZ_set, iw_nat (by omega)]
      congr 2
      refine rowZ_congr fun q _ => ?_
      by_cases hq : q = j
      · rw [if_pos hq, if_pos (by omega)]
      · rw [if_neg hq]
        by_cases hl : q < j
        · rw [if_pos hl, if_pos (by omega)]
        · rw [if_neg hl, if_neg (by omega)]
    · simp only [spec_soMost_l1_b]
      rw [e0, Int.toNat_natCast, List.length_replicate, cond_dec, if_neg (by omega)]
      congr 3
      exact rowZ_congr fun q hq => by rw [if_pos hq]
  rw [h1]
  simp only [met_inl]
  rw [chk_dec (by rw [rowZ_len]; omega)]
  have e1 : setI (rowZ (P + 1) fun _ => (-1 : Int)) 0 0 = rowZ (P + 1) (ex S 0) := by
    have := rowZ_set (P + 1) (fun _ => (-1 : Int)) 0 0
    rw [show ((0 : Nat) : Int) = 0 from rfl] at this
    rw [this]; rfl
  have h3 : spec_soMost_l3 k S (P : Int) (rowZ (P + 1) (ex S 0)) 0 = some (.inl (rowZ (P + 1) (ex S S.length), ())) := by
    unfold spec_soMost_l3
    refine iter_to (fun j => (rowZ (P + 1) (ex S j), (j : Int), ())) S.length _ (fun j hj rec => ?_) (fun rec => ?_) k (by omega)
    · simp only [spec_soMost_l3_b]
      rw [cond_dec, if_pos (by omega), ixk_in (by omega) (by omega), e0, chk_dec (by omega), chk_dec (by omega), Int.toNat_natCast, most4 k hk h l8 P hP j hj]
      simp only [met_inl]
      rw [iw_nat (by omega)]
    · simp only [spec_soMost_l3_b]
      rw [cond_dec, if_neg (by omega)]
  rw [e1, h3]
  rfl
theorem soFewer_is : spec_soFewer_f k S ((P + 1 : Nat) : Int) = some (((M (nats' S) P : Int), ()), ()) := by
  unfold spec_soFewer_f
  rw [show iw (((P + 1 : Nat) : Int) - 1) = (P : Int) by rw [iw_id (by omega) (by omega)]; omega, soMost_is k hk h l8 P hP]
  simp only [Option.bind_some]
  have hl : spec_soFewer_l1 k ((rowZ (P + 1) (ex S S.length), ()), ()) 0 (rowZ (P + 1) (ex S S.length)) 0 = some (.inl (mxE (ex S S.length) (P + 1), ())) := by
    unfold spec_soFewer_l1
    refine iter_to (fun j => (mxE (ex S S.length) j, rowZ (P + 1) (ex S S.length), (j : Int), ())) (P + 1) _ (fun j hj rec => ?_) (fun rec => ?_) k (by omega)
    · simp only [spec_soFewer_l1_b]
      rw [cond_dec, if_pos (by rw [rowZ_len]; omega), ixk_in (by omega) (by rw [rowZ_len]; omega), rowZ_get _ _ _ hj, most_l1]
      simp only [Option.bind_some]
      rw [iw_nat (by omega)]
      rfl
    · simp only [spec_soFewer_l1_b]
      rw [cond_dec, if_neg (by rw [rowZ_len]; omega)]
  rw [hl, ex_M]
  rfl
end
section
variable (k : Nat) (hk : 1000 ≤ k) (S : List Int) (h8 : S.length ≤ 8) (p : Int)
include hk h8
theorem specSP_is : spec_SurePairs_f k S p = some (spVal S p) := by
  unfold spec_SurePairs_f spVal spB
  rw [soGood_is k (by omega) S h8]
  cases hg : good S with
  | false => rfl
  | true =>
    have G := good_is hg
    have hh := halves_80 G.inS h8
    simp only [Option.bind_some, Bool.not_true, cond_false]
    rw [soPairs_in k hk G.inS (by omega)]
    simp only [Option.bind_some, l1In_is, met_inl, Bool.true_and]
    cases hr : (decide (1 ≤ p) && decide (p ≤ (halves (nats' S) : Int))) with
    | false => rfl
    | true =>
      simp only [Bool.and_eq_true, decide_eq_true_eq] at hr
      obtain ⟨q, rfl⟩ : ∃ q : Nat, p = ((q + 1 : Nat) : Int) := ⟨p.toNat - 1, by omega⟩
      simp only [Bool.not_true, cond_false, if_true, Int.toNat_natCast, Nat.add_sub_cancel]
      rw [soFewer_is k hk G.inS h8 q (by omega)]
      simp only [Option.bind_some]
      have hm := Md_le G.inS h8 0 q
      rw [Md_0] at hm
      rw [iw_id (by omega) (by omega)]
end

/-! ### The worst draw -/
def fstD (c : Nat → Bool) : Nat → Nat → Nat
  | 0, d => d
  | f + 1, d => bif c d then d else fstD c f (d + 1)
theorem fstD_is (c : Nat → Bool) : ∀ f d x, d ≤ x → x < d + f → c x = true → d ≤ fstD c f d ∧ fstD c f d ≤ x ∧ c (fstD c f d) = true ∧ ∀ y, d ≤ y → y < fstD c f d → c y = false
  | 0, d, x, h1, h2, _ => by omega
  | f + 1, d, x, h1, h2, h3 => by
    simp only [fstD]
    cases hc : c d with
    | true => exact ⟨Nat.le_refl _, h1, hc, fun y h4 h5 => by simp only [cond_true] at h5; omega⟩
    | false =>
      have hne : x ≠ d := fun e => by rw [e, hc] at h3; cases h3
      obtain ⟨q1, q2, q3, q4⟩ := fstD_is c f (d + 1) x (by omega) (by omega) h3
      simp only [cond_false]
      exact ⟨by omega, q2, q3, fun y h4 h5 => by
        by_cases e : y = d
        · rw [e, hc]
        · exact q4 y (by omega) h5⟩
def wdC (S : List Int) (i left d : Nat) : Bool := decide (d / 2 ≤ left ∧ Md S i left ≤ d + Md S (i + 1) (left - d / 2))
def wdD (S : List Int) (i left : Nat) : Nat := fstD (wdC S i left) 21 0
theorem Md_ge {S : List Int} (i left d : Nat) (hi : i < S.length) (h1 : d ≤ at' S i) (h2 : d / 2 ≤ left) : d + Md S (i + 1) (left - d / 2) ≤ Md S i left := by
  rw [Md_step i left hi]
  exact maxN_ge (f := fun d => d + Md S (i + 1) (left - d / 2)) (show d < cap2 (at' S i) left by unfold cap2; omega)
theorem wdD_is {S : List Int} (h : in20 S) (i left : Nat) (hi : i < S.length) : wdD S i left ≤ at' S i ∧ wdD S i left / 2 ≤ left ∧ wdD S i left + Md S (i + 1) (left - wdD S i left / 2) = Md S i left ∧ ∀ y, y < wdD S i left → ¬ (y / 2 ≤ left ∧ Md S i left ≤ y + Md S (i + 1) (left - y / 2)) := by
  have hai := at_le h i
  obtain ⟨x, hx, he⟩ := maxN_in (f := fun d => d + Md S (i + 1) (left - d / 2)) (j := cap2 (at' S i) left) (by unfold cap2; omega)
  rw [← Md_step i left hi] at he
  unfold cap2 at hx
  have hc : wdC S i left x = true := decide_eq_true ⟨by omega, Nat.le_of_eq he⟩
  obtain ⟨q1, q2, q3, q4⟩ := fstD_is (wdC S i left) 21 0 x (Nat.zero_le _) (by omega) hc
  have q5 := of_decide_eq_true q3
  have q6 := Md_ge i left (wdD S i left) hi (by unfold wdD; omega) q5.1
  refine ⟨by unfold wdD; omega, q5.1, Nat.le_antisymm q6 q5.2, fun y hy hq => ?_⟩
  have := q4 y (Nat.zero_le _) hy
  rw [wdC, decide_eq_true hq] at this
  cases this
def lf (S : List Int) (P : Nat) : Nat → Nat
  | 0 => P
  | j + 1 => lf S P j - wdD S j (lf S P j) / 2
theorem lf_le (S : List Int) (P : Nat) : ∀ j, lf S P j ≤ P
  | 0 => Nat.le_refl _
  | j + 1 => by have := lf_le S P j; simp only [lf]; omega
def worstL (S : List Int) (P : Nat) : List Int := row S.length fun i => wdD S i (lf S P i)
def minP (S : List Int) (p : Int) : Nat := min (p.toNat - 1) (halves (nats' S))
def wdB (S : List Int) (p : Int) : Bool := good S && decide (1 ≤ p)
def wdVal (S : List Int) (p : Int) : (List Int × Bool × Unit) × Unit := if wdB S p = true then ((worstL S (minP S p), true, ()), ()) else (([], false, ()), ())
section
variable (k : Nat) (hk : 1000 ≤ k) {S : List Int} (h : in20 S) (l8 : S.length ≤ 8) (P : Nat) (hP : P ≤ 100)
include hk h l8 hP
theorem wd3 (i : Nat) (hi : i < S.length) (left : Nat) (hl : left ≤ P) (D : List Int) :
    impl_WorstDraw_l3 k (left : Int) (i : Int) (tabW S P) D 0 = some (.inl (tabW S P, D, (wdD S i left : Int), ())) := by
  obtain ⟨w1, w2, w3, w4⟩ := wdD_is h i left hi
  have hai := at_le h i
  have ht : (tabW S P).length = S.length + 1 := tabF_len _ _
  have r1 := tabW_row S P i (by omega)
  have r2 := tabW_row S P (i + 1) (by omega)
  have g1 := tabW_get S P i left (by omega) hl
  have b1 := Md_le h l8 i left
  unfold impl_WorstDraw_l3
  have step : ∀ (d : Nat) (hd : d / 2 ≤ left) (hd2 : d ≤ 40) (rec : (List (List Int) × List Int × Int × Unit) → _), impl_WorstDraw_l3_b k (left : Int) (i : Int) (fun x7_1 x8_1 x10 => rec (x7_1, x8_1, x10, ())) (tabW S P) D (d : Int) = if d + Md S (i + 1) (left - d / 2) < Md S i left then rec (tabW S P, D, ((d + 1 : Nat) : Int), ()) else some (.inl (tabW S P, D, (d : Int), ())) := fun d hd hd2 rec => by
    have b2 := Md_le h l8 (i + 1) (left - d / 2)
    have g2 := tabW_get S P (i + 1) (left - d / 2) (by omega) (by omega)
    simp only [impl_WorstDraw_l3_b]
    rw [tdiv2, iw_id (x := ((d / 2 : Nat) : Int)) (by omega) (by omega), cond_dec, if_neg (by omega), iw_id (x := (i : Int) + 1) (by omega) (by omega), show (i : Int) + 1 = ((i + 1 : Nat) : Int) by omega, iw_id (x := (left : Int) - ((d / 2 : Nat) : Int)) (by omega) (by omega), show (left : Int) - ((d / 2 : Nat) : Int) = ((left - d / 2 : Nat) : Int) by omega]
    rw [ixk_in (by omega) (by omega), ixk_in (by omega) (by omega), ixk_in (by omega) (by omega), ixk_in (by omega) (by omega), g1, g2, iw_id (x := (d : Int) + ((Md S (i + 1) (left - d / 2) : Nat) : Int)) (by omega) (by omega)]
    simp only [met_inl]
    rw [cond_dec]
    by_cases hlt : d + Md S (i + 1) (left - d / 2) < Md S i left
    · rw [if_pos (by omega), if_pos hlt, iw_nat (by omega)]
    · rw [if_neg (by omega), if_neg hlt]
  refine iter_to (fun d => (tabW S P, D, (d : Int), ())) (wdD S i left) _ (fun d hd rec => ?_) (fun rec => ?_) k (by omega)
  · have := w4 d hd
    show impl_WorstDraw_l3_b k _ _ _ _ _ _ = _
    rw [step d (by omega) (by omega), if_pos (by have : d / 2 ≤ left := by omega
                                                 omega)]
  · show impl_WorstDraw_l3_b k _ _ _ _ _ _ = _
    rw [step _ w2 (by omega), if_neg (by omega)]
theorem wd2 : impl_WorstDraw_l2 k S (P : Int) (tabW S P) [] 0 = some (.inl (worstL S P, ())) := by
  unfold impl_WorstDraw_l2 worstL
  refine iter_to (fun j => ((lf S P j : Int), tabW S P, row j (fun i => wdD S i (lf S P i)), (j : Int), ())) S.length _ (fun j hj rec => ?_) (fun rec => ?_) k (by omega)
  · have hl := lf_le S P j
    obtain ⟨w1, w2, w3, w4⟩ := wdD_is h j (lf S P j) hj
    have hai := at_le h j
    simp only [impl_WorstDraw_l2_b]
    rw [cond_dec, if_pos (by omega), wd3 k hk h l8 P hP j hj (lf S P j) hl]
    simp only [met_inl]
    rw [chk_dec (by rw [row_len]; simp; omega), tdiv2, iw_id (x := ((wdD S j (lf S P j) / 2 : Nat) : Int)) (by omega) (by omega), iw_id (x := ((lf S P j : Nat) : Int) - ((wdD S j (lf S P j) / 2 : Nat) : Int)) (by omega) (by omega)]
    simp only [met_inl]
    rw [iw_nat (by omega), show ((lf S P j : Nat) : Int) - ((wdD S j (lf S P j) / 2 : Nat) : Int) = ((lf S P (j + 1) : Nat) : Int) by simp only [lf]; omega, row_succ]
  · simp only [impl_WorstDraw_l2_b]
    rw [cond_dec, if_neg (by omega)]
end
section
variable (k : Nat) (hk : 1000 ≤ k) (S : List Int) (h8 : S.length ≤ 8) (p : Int)
include hk h8
theorem implWD_is (hp : p ≤ 4611686018427387904) : impl_WorstDraw_f k S p = some (wdVal S p) := by
  unfold impl_WorstDraw_f wdVal wdB
  rw [areSocks_is k (by omega) S h8]
  cases hg : good S with
  | false => rfl
  | true =>
    have G := good_is hg
    have hh := halves_80 G.inS h8
    simp only [Option.bind_some, Bool.not_true, cond_false, met_inl, Bool.true_and]
    by_cases h1 : p < 1
    · rw [decide_eq_true h1, decide_eq_false (show ¬ 1 ≤ p by omega)]
      rfl
    · rw [decide_eq_false h1, decide_eq_true (show 1 ≤ p by omega)]
      simp only [cond_false, if_true]
      rw [pairsOf_in k hk G.inS (by omega)]
      simp only [Option.bind_some]
      have e : min2 (iw (p - 1)) ((halves (nats' S) : Nat) : Int) = ((minP S p : Nat) : Int) := by
        rw [iw_id (by omega) (by omega)]
        unfold min2 minP
        split <;> omega
      have hm : minP S p ≤ 80 := by unfold minP; omega
      rw [e, worst_is k hk G.inS h8 _ (by omega)]
      simp only [Option.bind_some]
      rw [wd2 k hk G.inS h8 _ (by omega)]
      rfl
end

/-! ### The worst draw by the reference -/
def sumD (S : List Int) (P j : Nat) : Nat := sumN (fun i => wdD S i (lf S P i)) j
theorem sumD_inv {S : List Int} (h : in20 S) (P : Nat) : ∀ j, j ≤ S.length → sumD S P j + Md S j (lf S P j) = M (nats' S) P
  | 0, _ => by
    show 0 + Md S 0 P = _
    rw [Md_0]; omega
  | j + 1, hj => by
    have ih := sumD_inv h P j (by omega)
    obtain ⟨_, _, w3, _⟩ := wdD_is h j (lf S P j) (by omega)
    show sumD S P j + wdD S j (lf S P j) + Md S (j + 1) (lf S P j - wdD S j (lf S P j) / 2) = _
    omega
theorem Md_drop (S : List Int) (j p : Nat) : M (nats' (S.drop j)) p = Md S j p := by
  unfold Md; rw [nats_drop]
section
variable (k : Nat) (hk : 1000 ≤ k) {S : List Int} (h : in20 S) (l8 : S.length ≤ 8) (P : Nat) (hP : P ≤ 90)
include hk h l8 hP
theorem swd3 (i : Nat) (hi : i < S.length) (D : List Int) (hD : D.length ≤ 8) :
    spec_WorstDraw_l3 k S ((((P + 1 : Nat) : Int), ()), ()) (((M (nats' S) P : Int), ()), ()) (i : Int) D (sumD S P i : Int) ((P : Int) - (lf S P i : Int)) 0 = some (.inl (D ++ [(wdD S i (lf S P i) : Int)], (sumD S P (i + 1) : Int), (P : Int) - (lf S P (i + 1) : Int), ())) := by
  obtain ⟨w1, w2, w3, w4⟩ := wdD_is h i (lf S P i) hi
  have hl := lf_le S P i
  have inv := sumD_inv h P i (by omega)
  have hai := at_le h i
  have hM : M (nats' S) P ≤ 160 := by have := Md_le h l8 0 P; rwa [Md_0] at this
  have e1 : ((sumD S P (i + 1) : Nat) : Int) = ((sumD S P i : Nat) : Int) + ((wdD S i (lf S P i) : Nat) : Int) := by
    have : sumD S P (i + 1) = sumD S P i + wdD S i (lf S P i) := rfl
    omega
  have e2 : (P : Int) - (lf S P (i + 1) : Int) = ((P : Int) - (lf S P i : Int)) + ((wdD S i (lf S P i) / 2 : Nat) : Int) := by simp only [lf]; omega
  rw [e1, e2]
  unfold spec_WorstDraw_l3
  have step : ∀ (d : Nat) (hd : d / 2 ≤ lf S P i) (hd2 : d ≤ at' S i) (rec : (List Int × Int × Int × Int × Unit) → _), spec_WorstDraw_l3_b k S ((((P + 1 : Nat) : Int), ()), ()) (((M (nats' S) P : Int), ()), ()) (i : Int) (fun x7_1 x8_1 x9_1 x12 => rec (x7_1, x8_1, x9_1, x12, ())) D (sumD S P i : Int) ((P : Int) - (lf S P i : Int)) (d : Int) = if d + Md S (i + 1) (lf S P i - d / 2) = Md S i (lf S P i) then some (.inl (D ++ [(d : Int)], (sumD S P i : Int) + (d : Int), ((P : Int) - (lf S P i : Int)) + ((d / 2 : Nat) : Int), ())) else rec (D, (sumD S P i : Int), (P : Int) - (lf S P i : Int), ((d + 1 : Nat) : Int), ()) := fun d hd hd2 rec => by
    have b2 := Md_le h l8 (i + 1) (lf S P i - d / 2)
    have dl : (S.drop (i + 1)).length ≤ 8 := by rw [List.length_drop]; omega
    have f := soFewer_is k hk (in20_drop h (i + 1)) dl (lf S P i - d / 2) (by omega)
    rw [Md_drop] at f
    simp only [spec_WorstDraw_l3_b]
    rw [at_is h i, cond_dec, if_pos (by omega), tdiv2, iw_id (x := ((d / 2 : Nat) : Int)) (by omega) (by omega), iw_id (x := ((P + 1 : Nat) : Int) - 1) (by omega) (by omega), iw_id (x := ((P + 1 : Nat) : Int) - 1 - ((P : Int) - (lf S P i : Int))) (by omega) (by omega), iw_id (x := ((P + 1 : Nat) : Int) - 1 - ((P : Int) - (lf S P i : Int)) - ((d / 2 : Nat) : Int)) (by omega) (by omega), cond_dec, if_pos (by omega), iw_id (x := (i : Int) + 1) (by omega) (by omega), chk_dec (by omega), chk_dec (by omega), show ((i : Int) + 1).toNat = i + 1 by omega]
    rw [iw_id (x := ((P + 1 : Nat) : Int) - 1 - ((P : Int) - (lf S P i : Int)) - ((d / 2 : Nat) : Int) + 1) (by omega) (by omega), show ((P + 1 : Nat) : Int) - 1 - ((P : Int) - (lf S P i : Int)) - ((d / 2 : Nat) : Int) + 1 = ((lf S P i - d / 2 + 1 : Nat) : Int) by omega, f]
    simp only [Option.bind_some, met_inl]
    rw [iw_id (x := ((sumD S P i : Nat) : Int) + (d : Int)) (by omega) (by omega), iw_id (x := ((sumD S P i : Nat) : Int) + (d : Int) + ((Md S (i + 1) (lf S P i - d / 2) : Nat) : Int)) (by omega) (by omega)]
    by_cases he : d + Md S (i + 1) (lf S P i - d / 2) = Md S i (lf S P i)
    · rw [if_pos he, show (((sumD S P i : Nat) : Int) + (d : Int) + ((Md S (i + 1) (lf S P i - d / 2) : Nat) : Int) == ((M (nats' S) P : Nat) : Int)) = true by rw [beq_iff_eq]; omega, cond_true, chk_dec (by simp; omega), iw_id (by omega) (by omega)]
    · rw [if_neg he, show (((sumD S P i : Nat) : Int) + (d : Int) + ((Md S (i + 1) (lf S P i - d / 2) : Nat) : Int) == ((M (nats' S) P : Nat) : Int)) = false by rw [beq_eq_false_iff_ne]; omega, cond_false, iw_nat (by omega)]
  refine iter_to (fun d => (D, (sumD S P i : Int), (P : Int) - (lf S P i : Int), (d : Int), ())) (wdD S i (lf S P i)) _ (fun d hd rec => ?_) (fun rec => ?_) k (by omega)
  · have h1 := w4 d hd
    have h2 : d / 2 ≤ lf S P i := by omega
    show spec_WorstDraw_l3_b k _ _ _ _ _ _ _ _ _ = _
    rw [step d h2 (by omega), if_neg (fun e => h1 ⟨h2, Nat.le_of_eq e.symm⟩)]
  · show spec_WorstDraw_l3_b k _ _ _ _ _ _ _ _ _ = _
    rw [step _ w2 w1, if_pos w3]
theorem swd2 : spec_WorstDraw_l2 k S ((((P + 1 : Nat) : Int), ()), ()) (((M (nats' S) P : Int), ()), ()) [] 0 0 0 = some (.inl (worstL S P, ())) := by
  have e0 : (0 : Int) = (P : Int) - (lf S P 0 : Int) := by simp only [lf]; omega
  have key : spec_WorstDraw_l2 k S ((((P + 1 : Nat) : Int), ()), ()) (((M (nats' S) P : Int), ()), ()) [] 0 ((P : Int) - (lf S P 0 : Int)) 0 = some (.inl (worstL S P, ())) := by
    unfold spec_WorstDraw_l2 worstL
    refine iter_to (fun j => (row j (fun i => wdD S i (lf S P i)), (sumD S P j : Int), (P : Int) - (lf S P j : Int), (j : Int), ())) S.length _ (fun j hj rec => ?_) (fun rec => ?_) k (by omega)
    · simp only [spec_WorstDraw_l2_b]
      rw [cond_dec, if_pos (by omega), ixk_in (by omega) (by omega), swd3 k hk h l8 P hP j hj _ (by rw [row_len]; omega)]
      simp only [met_inl]
      rw [iw_nat (by omega), row_succ]
    · simp only [spec_WorstDraw_l2_b]
      rw [cond_dec, if_neg (by omega)]
  rw [← e0] at key
  exact key
end
theorem least_i (k : Nat) (x y : Int) : spec_l1Least_f k x y = some ((if x < y then x else y, ()), ()) := by
  unfold spec_l1Least_f
  rw [cond_dec]
  split <;> rfl
section
variable (k : Nat) (hk : 1000 ≤ k) (S : List Int) (h8 : S.length ≤ 8) (p : Int)
include hk h8
theorem specWD_is : spec_WorstDraw_f k S p = some (wdVal S p) := by
  unfold spec_WorstDraw_f wdVal wdB
  rw [soGood_is k (by omega) S h8]
  cases hg : good S with
  | false => rfl
  | true =>
    have G := good_is hg
    have hh := halves_80 G.inS h8
    simp only [Option.bind_some, Bool.not_true, cond_false, met_inl, Bool.true_and]
    by_cases h1 : p < 1
    · rw [decide_eq_true h1, decide_eq_false (show ¬ 1 ≤ p by omega)]
      rfl
    · rw [decide_eq_false h1, decide_eq_true (show 1 ≤ p by omega)]
      simp only [cond_false, if_true]
      rw [soPairs_in k hk G.inS (by omega)]
      simp only [Option.bind_some]
      have hm : minP S p ≤ 80 := by unfold minP; omega
      rw [iw_id (by omega) (by omega), least_i]
      simp only [Option.bind_some]
      have e : (if p < ((halves (nats' S) : Nat) : Int) + 1 then p else ((halves (nats' S) : Nat) : Int) + 1) = ((minP S p + 1 : Nat) : Int) := by
        unfold minP
        split <;> omega
      rw [e, soFewer_is k hk G.inS h8 _ (by omega)]
      simp only [Option.bind_some]
      rw [swd2 k hk G.inS h8 _ (by omega)]
      rfl
end

/-! ### Sure colours -/
/-- The sum of the m greatest. -/
def lastS (T : List Int) (m : Nat) : Int := (T.drop (T.length - m)).sum
theorem set_perm (L A : List Int) (t : Int) (i : Nat) (hi : i < L.length) (ht : L[i] = t) (hp : L.Perm (t :: A)) : (L.set i 0).Perm (0 :: A) := by
  have e : L = L.take i ++ t :: L.drop (i + 1) := by
    rw [← ht, ← List.drop_eq_getElem_cons hi, List.take_append_drop]
  have es : L.set i 0 = L.take i ++ 0 :: L.drop (i + 1) := List.set_eq_take_append_cons_drop.trans (if_pos hi)
  have h1 : (t :: (L.take i ++ L.drop (i + 1))).Perm (t :: A) := by
    refine List.Perm.trans ?_ hp
    refine List.perm_middle.symm.trans ?_
    rw [← e]
  have h2 := List.Perm.cons_inv h1
  rw [es]
  exact List.perm_middle.trans (h2.cons 0)
theorem last_step (A : List Int) (t : Int) (m : Nat) (hm : m ≤ A.length) : lastS (A ++ [t]) (m + 1) = lastS (0 :: A) m + t := by
  unfold lastS
  rw [List.length_append, List.length_cons, List.length_cons, List.length_nil, show A.length + (0 + 1) - (m + 1) = A.length - m by omega, show A.length + 1 - m = (A.length - m) + 1 by omega, List.drop_succ_cons, List.drop_append_of_le_length (by omega), List.sum_append]
  simp
theorem sorted_last {T : List Int} (hs : T.Pairwise (· ≤ ·)) (hT : T ≠ []) : ∃ A t, T = A ++ [t] ∧ (∀ x ∈ T, x ≤ t) ∧ A.Pairwise (· ≤ ·) := by
  refine ⟨T.dropLast, T.getLast hT, (List.dropLast_concat_getLast hT).symm, fun x hx => ?_, ?_⟩
  · have e := (List.dropLast_concat_getLast hT).symm
    rw [e] at hs hx
    have := List.pairwise_append.1 hs
    rcases List.mem_append.1 hx with hx | hx
    · exact this.2.2 x hx _ (by simp)
    · rw [List.mem_singleton.1 hx]; exact Int.le_refl _
  · have e := (List.dropLast_concat_getLast hT).symm
    rw [e] at hs
    exact (List.pairwise_append.1 hs).1
abbrev SCR7 := ((List Int) × Int × Unit) ⊕ (((List Int) × Int × Unit) ⊕ ((Int × Unit) ⊕ ((Int × Bool × Unit) × Unit)))
noncomputable def scF7 (k : Nat) (L : List Int) (rec : (List Int × Int × Unit × Int × Unit) → Option SCR7) (x : List Int × Int × Unit × Int × Unit) : Option SCR7 := spec_SureColours_l7_b k L (fun x6_2 x12 x43 x45 => rec (x6_2, x12, x43, x45, ())) x.1 x.2.1 x.2.2.1 x.2.2.2.1
abbrev SCR6 := (Int × Unit) ⊕ ((Int × Bool × Unit) × Unit)
noncomputable def scF6 (k : Nat) (p : Int) (rec : (List Int × Int × Int × Unit) → Option SCR6) (x : List Int × Int × Int × Unit) : Option SCR6 := spec_SureColours_l6_b k p (fun x6_1 x7 x11 => rec (x6_1, x7, x11, ())) x.1 x.2.1 x.2.2.1
section
variable (k : Nat) (hk : 1000 ≤ k)
include hk
theorem maxat_is (L : List Int) (l1 : 1 ≤ L.length) (l8 : L.length ≤ 20) : ∃ i, i < L.length ∧ (∀ x ∈ L, x ≤ rd L (i : Int)) ∧ spec_SureColours_l7 k L L 0 () 0 = some (.inl (L, (i : Int), ())) := by
  have key : ∀ (d j i f : Nat), j + d = L.length → i < L.length → (∀ q, q < j → rd L (q : Int) ≤ rd L (i : Int)) → d < f →
      ∃ i', i' < L.length ∧ (∀ q, q < L.length → rd L (q : Int) ≤ rd L (i' : Int)) ∧ iter f (scF7 k L) (L, (i : Int), (), (j : Int), ()) = some (.inl (L, (i' : Int), ())) := by
    intro d
    induction d with
    | zero =>
      intro j i f hj hi hq hf
      obtain ⟨f, rfl⟩ : ∃ f', f = f' + 1 := ⟨f - 1, by omega⟩
      refine ⟨i, hi, fun q hq' => hq q (by omega), ?_⟩
      show scF7 k L _ _ = _
      simp only [scF7, spec_SureColours_l7_b]
      rw [cond_dec, if_neg (by omega)]
    | succ d ih =>
      intro j i f hj hi hq hf
      obtain ⟨f, rfl⟩ : ∃ f', f = f' + 1 := ⟨f - 1, by omega⟩
      by_cases hgt : rd L (j : Int) > rd L (i : Int)
      · obtain ⟨i', a1, a2, a3⟩ := ih (j + 1) j f (by omega) (by omega) (fun q hq' => by
          by_cases e : q = j
          · rw [e]; exact Int.le_refl _
          · have := hq q (by omega); omega) (by omega)
        refine ⟨i', a1, a2, ?_⟩
        rw [← a3]
        show scF7 k L _ _ = _
        simp only [scF7, spec_SureColours_l7_b]
        rw [cond_dec, if_pos (by omega), ixk_in (by omega) (by omega), ixk_in (by omega) (by omega), cond_dec, if_pos hgt]
        simp only [met_inl]
        rw [iw_nat (by omega)]
      · obtain ⟨i', a1, a2, a3⟩ := ih (j + 1) i f (by omega) hi (fun q hq' => by
          by_cases e : q = j
          · rw [e]; omega
          · exact hq q (by omega)) (by omega)
        refine ⟨i', a1, a2, ?_⟩
        rw [← a3]
        show scF7 k L _ _ = _
        simp only [scF7, spec_SureColours_l7_b]
        rw [cond_dec, if_pos (by omega), ixk_in (by omega) (by omega), ixk_in (by omega) (by omega), cond_dec, if_neg hgt]
        simp only [met_inl]
        rw [iw_nat (by omega)]
  obtain ⟨i, h1, h2, h3⟩ := key L.length 0 0 k (by omega) (by omega) (fun q hq => absurd hq (Nat.not_lt_zero _)) (by omega)
  refine ⟨i, h1, fun x hx => ?_, h3⟩
  obtain ⟨q, hq, rfl⟩ := List.mem_iff_getElem.1 hx
  have := h2 q hq
  rwa [rd_nat L q hq] at this
theorem greedy_is (P : Nat) : ∀ (m : Nat) (L T : List Int) (acc c f : Nat), m < f → c + m = P → P ≤ 100 → acc ≤ 20 * c + 20 → L.length ≤ 8 → m ≤ L.length → (∀ x ∈ L, 0 ≤ x ∧ x ≤ 20) → T.Perm L → T.Pairwise (· ≤ ·) →
    iter f (scF6 k (P : Int)) (L, (acc : Int), (c : Int), ()) = some (.inl ((acc : Int) + lastS T m, ())) := by
  intro m
  induction m with
  | zero =>
    intro L T acc c f hf hc hP ha h8 hm hL hp hs
    obtain ⟨f, rfl⟩ : ∃ f', f = f' + 1 := ⟨f - 1, by omega⟩
    show scF6 k _ _ _ = _
    simp only [scF6, spec_SureColours_l6_b]
    rw [cond_dec, if_neg (by omega)]
    unfold lastS
    rw [Nat.sub_zero, List.drop_eq_nil_of_le (Nat.le_refl _)]
    simp
  | succ m ih =>
    intro L T acc c f hf hc hP ha h8 hm hL hp hs
    obtain ⟨f, rfl⟩ : ∃ f', f = f' + 1 := ⟨f - 1, by omega⟩
    have hTl : T.length = L.length := hp.length_eq
    obtain ⟨A, t, rfl, ht, hA⟩ := sorted_last hs (by intro e; rw [e] at hTl; simp at hTl; omega)
    obtain ⟨i, hi, hmx, h7⟩ := maxat_is k hk L (by omega) (by omega)
    have hri : rd L (i : Int) = L[i] := rd_nat L i hi
    have h1 : t ≤ L[i] := by rw [← hri]; exact hmx t (hp.mem_iff.1 (by simp))
    have h2 : L[i] ≤ t := ht _ (hp.mem_iff.2 (List.getElem_mem hi))
    have hti : L[i] = t := by omega
    have hpA : L.Perm (t :: A) := hp.symm.trans (List.perm_append_singleton t A)
    have hset := set_perm L A t i hi hti hpA
    have ht0 := hL _ (List.getElem_mem hi)
    obtain ⟨tn, rfl⟩ : ∃ tn : Nat, t = (tn : Int) := ⟨t.toNat, by omega⟩
    have hA0 : ∀ x ∈ A, 0 ≤ x ∧ x ≤ 20 := fun x hx => hL x (hpA.mem_iff.2 (by simp [hx]))
    have hAl : A.length + 1 = L.length := by rw [← hTl]; simp
    have := ih (L.set i 0) (0 :: A) (acc + tn) (c + 1) f (by omega) (by omega) hP (by omega) (by rw [List.length_set]; exact h8) (by rw [List.length_set]; omega) (fun x hx => by
      rcases List.mem_cons.1 (hset.mem_iff.1 hx) with rfl | hx
      · omega
      · exact hA0 x hx) hset.symm (List.pairwise_cons.2 ⟨fun x hx => (hA0 x hx).1, hA⟩)
    rw [last_step A (tn : Int) m (by omega)]
    rw [show (acc : Int) + (lastS (0 :: A) m + (tn : Int)) = ((acc + tn : Nat) : Int) + lastS (0 :: A) m by omega, ← this]
    show scF6 k _ _ _ = _
    simp only [scF6, spec_SureColours_l6_b]
    rw [cond_dec, if_pos (by omega), h7]
    simp only [met_inl]
    rw [ixk_in (by omega) (by omega), ixk_in (by omega) (by omega), hri, hti, iw_id (by omega) (by omega), iw_nat (by omega)]
    simp only [met_inl]
    rw [show setI L (i : Int) 0 = L.set i 0 by unfold setI; rw [Int.toNat_natCast], show (acc : Int) + (tn : Int) = ((acc + tn : Nat) : Int) by omega]
end

theorem sortI_perm (S : List Int) : (sortI S).Perm S := List.mergeSort_perm _ _
theorem sortI_sorted (S : List Int) : (sortI S).Pairwise (· ≤ ·) := by
  have := List.pairwise_mergeSort (le := fun x y : Int => decide (x ≤ y)) (fun a b c h1 h2 => by simp only [decide_eq_true_eq] at *; omega) (fun a b => by simp only [Bool.or_eq_true, decide_eq_true_eq]; omega) S
  exact this.imp fun h => by simpa using h
def cntS (S : List Int) : Nat := sumN (fun i => if at' S i = 0 then 0 else 1) S.length
theorem cntS_M (S : List Int) : cntS S = M (nats' S) 0 := by
  rw [M_zero, nats_len]
  exact sumN_congr _ fun i _ => by rw [getD_at]
def cntL : List Int → Nat
  | [] => 0
  | x :: l => (if x.toNat = 0 then 0 else 1) + cntL l
theorem cntS_L : ∀ S : List Int, cntS S = cntL S
  | [] => rfl
  | x :: l => by
    unfold cntS
    rw [List.length_cons, sumN_head]
    have ih := cntS_L l
    unfold cntS at ih
    have e : sumN (fun i => if at' (x :: l) (i + 1) = 0 then 0 else 1) l.length = sumN (fun i => if at' l i = 0 then 0 else 1) l.length := sumN_congr _ fun i _ => by
      rw [show at' (x :: l) (i + 1) = at' l i by rw [← getD_at, ← getD_at]; simp [nats']]
    rw [e, ih, show at' (x :: l) 0 = x.toNat by rw [← getD_at]; simp [nats']]
    rfl
def nz (l : List Int) : List Int := keepI (fun x => x == 0) l
theorem nz_len : ∀ l : List Int, (∀ x ∈ l, 0 ≤ x ∧ x ≤ 20) → (nz l).length = cntL l
  | [], _ => rfl
  | x :: l, h => by
    have ih := nz_len l fun y hy => h y (by simp [hy])
    have hx := h x (by simp)
    unfold nz keepI at ih ⊢
    simp only [cntL]
    by_cases h0 : x = 0
    · subst h0
      rw [List.filter_cons_of_neg (by simp), ih]; simp
    · rw [List.filter_cons_of_pos (by simpa using h0), List.length_cons, ih, if_neg (by omega)]; omega
theorem nz_perm {l l' : List Int} (h : l.Perm l') : (nz l).length = (nz l').length := (h.filter _).length_eq
theorem nz_le (l : List Int) : (nz l).length ≤ l.length := List.length_filter_le _ _
theorem nz_drop : ∀ T : List Int, (∀ x ∈ T, 0 ≤ x ∧ x ≤ 20) → T.Pairwise (· ≤ ·) → nz T = T.drop (T.length - (nz T).length)
  | [], _, _ => rfl
  | x :: l, h, hs => by
    have hx := h x (by simp)
    have ih := nz_drop l (fun y hy => h y (by simp [hy])) (List.pairwise_cons.1 hs).2
    have hl := nz_le l
    by_cases h0 : x = 0
    · have e : nz (x :: l) = nz l := by
        unfold nz keepI
        rw [List.filter_cons_of_neg (by simp [h0])]
      rw [e, List.length_cons, show l.length + 1 - (nz l).length = (l.length - (nz l).length) + 1 by omega, List.drop_succ_cons, ← ih]
    · have e : nz (x :: l) = x :: l := by
        unfold nz keepI
        refine List.filter_eq_self.2 fun y hy => ?_
        have : y ≠ 0 := by
          rcases List.mem_cons.1 hy with rfl | hy
          · exact h0
          · have := (List.pairwise_cons.1 hs).1 y hy; omega
        simpa using this
      rw [e, Nat.sub_self, List.drop_zero]
theorem nz_last {T : List Int} (h : ∀ x ∈ T, 0 ≤ x ∧ x ≤ 20) (hs : T.Pairwise (· ≤ ·)) (m : Nat) (hm : m ≤ (nz T).length) : lastS (nz T) m = lastS T m := by
  have hl := nz_le T
  have e := nz_drop T h hs
  unfold lastS
  conv => lhs; rw [e]
  rw [List.drop_drop, List.length_drop]
  congr 2
  omega
def scoB (S : List Int) (p : Int) : Bool := good S && (decide (1 ≤ p) && decide (p ≤ (cntS S : Int)))
def scoVal (S : List Int) (p : Int) : (Int × Bool × Unit) × Unit := if scoB S p = true then ((lastS (sortI S) (p.toNat - 1) + 1, true, ()), ()) else ((0, false, ()), ())
theorem lastS_bound {T : List Int} (h : ∀ x ∈ T, 0 ≤ x ∧ x ≤ 20) (hl : T.length ≤ 8) (m : Nat) : 0 ≤ lastS T m ∧ lastS T m ≤ 160 := by
  have := sum_bound (l := T.drop (T.length - m)) fun x hx => h x (List.mem_of_mem_drop hx)
  rw [List.length_drop] at this
  unfold lastS
  omega
section
variable (k : Nat) (hk : 1000 ≤ k) (S : List Int) (h8 : S.length ≤ 8) (p : Int)
include hk h8
theorem implSCO_is : impl_SureColours_f k S p = some (scoVal S p) := by
  unfold impl_SureColours_f scoVal scoB
  rw [areSocks_is k (by omega) S h8]
  cases hg : good S with
  | false => rfl
  | true =>
    have G := good_is hg
    have l0 := G.l0
    have hp := sortI_perm S
    have hT : ∀ x ∈ sortI S, 0 ≤ x ∧ x ≤ 20 := fun x hx => G.inS x (hp.mem_iff.1 hx)
    have hlT : (sortI S).length = S.length := hp.length_eq
    have hn : (nz (sortI S)).length = cntS S := by rw [nz_perm hp, nz_len S G.inS, cntS_L]
    have hc := nz_le (sortI S)
    simp only [Option.bind_some, Bool.not_true, cond_false, Bool.true_and]
    rw [chk_dec (by omega), chk_dec (by omega), chk_dec (by omega)]
    rw [show keepI (fun x => x == 0) (sortI S) = nz (sortI S) from rfl, hn, within_is]
    simp only [Option.bind_some]
    cases hr : (decide (1 ≤ p) && decide (p ≤ (cntS S : Int))) with
    | false => rfl
    | true =>
      simp only [Bool.and_eq_true, decide_eq_true_eq] at hr
      obtain ⟨q, rfl⟩ : ∃ q : Nat, p = ((q + 1 : Nat) : Int) := ⟨p.toNat - 1, by omega⟩
      simp only [Bool.not_true, cond_false, if_true, Int.toNat_natCast, Nat.add_sub_cancel]
      have e1 : iw (iw (((cntS S : Nat) : Int) - ((q + 1 : Nat) : Int)) + 1) = ((cntS S - q : Nat) : Int) := by
        rw [iw_id (x := ((cntS S : Nat) : Int) - ((q + 1 : Nat) : Int)) (by omega) (by omega), iw_id (by omega) (by omega)]; omega
      have hz : ∀ x ∈ (nz (sortI S)).drop (cntS S - q), 0 ≤ x ∧ x ≤ 20 := fun x hx => hT x (List.mem_filter.1 (List.mem_of_mem_drop hx)).1
      rw [e1, chk_dec (by omega), chk_dec (by omega), Int.toNat_natCast, total_is k _ (by rw [List.length_drop]; omega) (by rw [List.length_drop]; omega), sumW_is hz (by rw [List.length_drop]; omega)]
      simp only [Option.bind_some]
      have hb := lastS_bound hT (by omega) q
      have e2 : ((nz (sortI S)).drop (cntS S - q)).sum = lastS (sortI S) q := by
        rw [← nz_last hT (sortI_sorted S) q (by omega)]
        unfold lastS
        rw [hn]
      rw [e2, iw_id (by omega) (by omega)]
theorem specSCO_is : spec_SureColours_f k S p = some (scoVal S p) := by
  unfold spec_SureColours_f scoVal scoB
  rw [soGood_is k (by omega) S h8]
  cases hg : good S with
  | false => rfl
  | true =>
    have G := good_is hg
    have hp := sortI_perm S
    have hT : ∀ x ∈ sortI S, 0 ≤ x ∧ x ≤ 20 := fun x hx => G.inS x (hp.mem_iff.1 hx)
    have hlT : (sortI S).length = S.length := hp.length_eq
    simp only [Option.bind_some, Bool.not_true, cond_false, met_inl, Bool.true_and]
    by_cases h1 : p < 1
    · rw [decide_eq_true h1, decide_eq_false (show ¬ 1 ≤ p by omega)]
      rfl
    · rw [decide_eq_false h1, decide_eq_true (show 1 ≤ p by omega)]
      simp only [cond_false, Bool.true_and]
      unfold spec_l1Own_f
      rw [chk_dec (by omega)]
      simp only [Option.bind_some]
      have hcle : cntS S ≤ 1 * S.length := sum_le20 (c := 1) (f := fun i => if at' S i = 0 then 0 else 1) (fun i => by split <;> omega) _
      have hl2 : spec_SureColours_l2 k S S 0 0 = some (.inl (S, (cntS S : Int), ())) := by
        unfold spec_SureColours_l2 cntS
        refine iter_to (fun j => (S, ((sumN (fun i => if at' S i = 0 then 0 else 1) j : Nat) : Int), (j : Int), ())) S.length _ (fun j hj rec => ?_) (fun rec => ?_) k (by omega)
        · have hs : sumN (fun i => if at' S i = 0 then 0 else 1) j ≤ 1 * j := sum_le20 (c := 1) (f := fun i => if at' S i = 0 then 0 else 1) (fun i => by split <;> omega) _
          have hss : sumN (fun i => if at' S i = 0 then 0 else 1) (j + 1) = sumN (fun i => if at' S i = 0 then 0 else 1) j + (if at' S j = 0 then 0 else 1) := rfl
          simp only [spec_SureColours_l2_b]
          rw [cond_dec, if_pos (by omega), ixk_in (by omega) (by omega), at_is G.inS j, cond_dec, hss]
          by_cases hz : at' S j = 0
          · rw [if_neg (by omega), if_pos hz]
            simp only [met_inl]
            rw [iw_nat (by omega)]; rfl
          · rw [if_pos (by omega), if_neg hz]
            simp only [met_inl]
            rw [iw_id (by omega) (by omega), iw_nat (by omega)]; rfl
        · simp only [spec_SureColours_l2_b]
          rw [cond_dec, if_neg (by omega)]
      rw [hl2]
      simp only [met_inl]
      rw [cond_dec]
      by_cases h2 : p > ((cntS S : Nat) : Int)
      · rw [if_pos h2, decide_eq_false (show ¬ p ≤ ((cntS S : Nat) : Int) by omega)]
        rfl
      · rw [if_neg h2, decide_eq_true (show p ≤ ((cntS S : Nat) : Int) by omega)]
        obtain ⟨q, rfl⟩ : ∃ q : Nat, p = ((q + 1 : Nat) : Int) := ⟨p.toNat - 1, by omega⟩
        simp only [if_true, Int.toNat_natCast, Nat.add_sub_cancel]
        have hgd := greedy_is k hk (q + 1) q S (sortI S) 0 1 k (by omega) (by omega) (by omega) (by omega) h8 (by omega) G.inS hp (sortI_sorted S)
        rw [show spec_SureColours_l6 k ((q + 1 : Nat) : Int) S 0 1 = iter k (scF6 k ((q + 1 : Nat) : Int)) (S, ((0 : Nat) : Int), ((1 : Nat) : Int), ()) from rfl, hgd]
        have hb := lastS_bound hT (by omega) q
        simp only [met_inl]
        rw [iw_id (by omega) (by omega)]
        simp
end

noncomputable def sgWorstU (k : Nat) (y72 : (List Int × Int × Unit) × Unit) (y78 : (List Int × Bool × Unit) × Unit) (y90 : (Int × Bool × Unit) × Unit) (y135 : (Int × Bool × Unit) × Unit) : Option (Unit ⊕ ((Bool × Unit) × Unit)) :=
  (cond y78.1.2.1 (Option.bind (impl_IsDraw_f k y72.1.1 y78.1.1) (fun y250 => (Option.bind (impl_PairsOfDraw_f k y72.1.1 y78.1.1) (fun y256 => (met (cond (!y250.1.2.1) (some (.inl (true, ()))) (cond (!y250.1.1) (some (.inl (true, ()))) (cond (!y256.1.2.1) (some (.inl (true, ()))) (cond (decide (y256.1.1 ≥ y72.1.2.1)) (some (.inl (true, ()))) (cond y90.1.2.1 (Option.bind (laws_zSum_f k y78.1.1) (fun y279 => (cond (y90.1.1 != (iw (y279.1.1 + 1))) (some (.inl (true, ()))) (cond (!y90.1.2.1) (Option.bind (laws_zSum_f k y78.1.1) (fun y289 => (some (.inl ((y289.1.1 != y135.1.1), ()))))) (some (.inl (false, ()))))))) (cond (!y90.1.2.1) (Option.bind (laws_zSum_f k y78.1.1) (fun y289_1 => (some (.inl ((y289_1.1.1 != y135.1.1), ()))))) (some (.inl (false, ()))))))))) (fun j2 => (cond j2.1 (some (.inr ((false, ()), ()))) (some (.inl ()))))))))) (some (.inl ())))
noncomputable def sgSurePU (k : Nat) (y72 : (List Int × Int × Unit) × Unit) (y90 : (Int × Bool × Unit) × Unit) (y102 : (Int × Bool × Unit) × Unit) (y135 : (Int × Bool × Unit) × Unit) : Option (Unit ⊕ ((Bool × Unit) × Unit)) :=
  (cond y90.1.2.1 (met (cond (decide (y90.1.1 > y135.1.1)) (some (.inl (true, ()))) (cond (decide (y90.1.1 < (iw (2 * y72.1.2.1)))) (some (.inl (true, ()))) (cond y102.1.2.1 (cond (decide (y102.1.1 < y90.1.1)) (some (.inl (true, ()))) (some (.inl ((decide (y102.1.1 > y135.1.1)), ())))) (some (.inl (false, ())))))) (fun j4 => (cond j4.1 (some (.inr ((false, ()), ()))) (met (cond (y72.1.2.1 == 1) (met (laws_FnSocksSure_l5 k y72 0 0) (fun j8 => (met (cond (y90.1.1 != (iw (j8.1 + 1))) (some (.inl (true, ()))) (cond y102.1.2.1 (some (.inl ((y102.1.1 != y90.1.1), ()))) (some (.inl (false, ()))))) (fun j9 => (cond j9.1 (some (.inr (.inr ((false, ()), ())))) (some (.inl ()))))))) (some (.inl ()))) (fun j10 => (met (cond (decide (y72.1.2.1 > 1)) (Option.bind (impl_SurePairs_f k y72.1.1 (iw (y72.1.2.1 - 1))) (fun y348 => (met (cond (!y348.1.2.1) (some (.inl (true, ()))) (cond (decide (y348.1.1 ≥ y90.1.1)) (some (.inl (true, ()))) (some (.inl ((decide (y90.1.1 > (iw (y348.1.1 + 2)))), ()))))) (fun j11 => (cond j11.1 (some (.inr (.inr ((false, ()), ())))) (some (.inl ()))))))) (some (.inl ()))) (fun j12 => (some (.inl ()))))))))) (some (.inl ())))
noncomputable def sgColU (k : Nat) (y377 : (List Int × Int × Int × Unit) × Unit) (y385 : (Int × Bool × Unit) × Unit) (j15 : List Int × List Int × Bool × Unit) : Option (Unit ⊕ ((Bool × Unit) × Unit)) :=
  (cond y385.1.2.1 (Option.bind (impl_CountSocks_f k j15.1) (fun y460 => (met (cond (!y460.1.2.1) (some (.inl (true, ()))) (ixk y377.1.2.1 (List.length j15.1) (some (.inl (((iw (y460.1.1 - y385.1.1)) != (iw ((rd j15.1 y377.1.2.1) - y377.1.2.2.1))), ()))))) (fun j16 => (cond j16.1 (some (.inr ((false, ()), ()))) (some (.inl ()))))))) (some (.inl ())))
noncomputable def sgPairU (k : Nat) (y397 : (List Int × Int × Unit) × Unit) (y403 : (Int × Bool × Unit) × Unit) (j15 : List Int × List Int × Bool × Unit) : Option (Unit ⊕ ((Bool × Unit) × Unit)) :=
  (cond y403.1.2.1 (Option.bind (impl_SureOfColour_f k j15.2.1 y397.1.2.1 2) (fun y481 => (met (cond (!y481.1.2.1) (some (.inl (true, ()))) (some (.inl ((y481.1.1 != y403.1.1), ())))) (fun j18 => (cond j18.1 (some (.inr ((false, ()), ()))) (some (.inl ()))))))) (some (.inl ())))
noncomputable def sgLeastU (k : Nat) (y414 : (Int × Int × Unit) × Unit) (y420 : (Int × Bool × Unit) × Unit) : Option (((Bool × Unit) × Unit)) :=
  (met (cond y420.1.2.1 (some (.inl ((decide ((iw (2 * y414.1.1)) ≤ 20)), ()))) (some (.inl (false, ())))) (fun j20 => (met (cond j20.1 (met (laws_FnSocksSure_l21 k y414 [] 0) (fun j22 => (Option.bind (impl_SurePairs_f k j22.1 y414.1.1) (fun y508 => (met (cond (!y508.1.2.1) (some (.inl (true, ()))) (some (.inl ((y508.1.1 != y420.1.1), ())))) (fun j23 => (cond j23.1 (some (.inr ((false, ()), ()))) (some (.inl ()))))))))) (some (.inl ()))) (fun j24 => (some ((true, ()), ()))))))
noncomputable def law6_f (k : Nat) (p1 : List Int) : Option (((Bool × Unit) × Unit)) :=
  (Option.bind (spec_DrawSureOfColour_f k p1) (fun y377 => (Option.bind (impl_SureOfColour_f k y377.1.1 y377.1.2.1 y377.1.2.2.1) (fun y385 => (Option.bind (spec_SureOfColour_f k y377.1.1 y377.1.2.1 y377.1.2.2.1) (fun y392 => (Option.bind (spec_DrawSurePairOf_f k p1) (fun y397 => (Option.bind (impl_SurePairOf_f k y397.1.1 y397.1.2.1) (fun y403 => (Option.bind (spec_SurePairOf_f k y397.1.1 y397.1.2.1) (fun y409 => (Option.bind (spec_DrawLeastSocks_f k p1) (fun y414 => (Option.bind (impl_LeastSocks_f k y414.1.1 y414.1.2.1) (fun y420 => (Option.bind (spec_LeastSocks_f k y414.1.1 y414.1.2.1) (fun y426 => (met (cond (!(y385.1.2.1 == y392.1.2.1)) (some (.inl (y377.1.1, y397.1.1, true, ()))) (cond (y385.1.1 != y392.1.1) (some (.inl (y377.1.1, y397.1.1, true, ()))) (cond (!(y403.1.2.1 == y409.1.2.1)) (some (.inl (y377.1.1, y397.1.1, true, ()))) (cond (y403.1.1 != y409.1.1) (some (.inl (y377.1.1, y397.1.1, true, ()))) (cond (!(y420.1.2.1 == y426.1.2.1)) (some (.inl (y377.1.1, y397.1.1, true, ()))) (some (.inl (y377.1.1, y397.1.1, (y420.1.1 != y426.1.1), ())))))))) (fun j15 => (cond j15.2.2.1 (some ((false, ()), ())) (met (cond y385.1.2.1 (Option.bind (impl_CountSocks_f k j15.1) (fun y460 => (met (cond (!y460.1.2.1) (some (.inl (true, ()))) (ixk y377.1.2.1 (List.length j15.1) (some (.inl (((iw (y460.1.1 - y385.1.1)) != (iw ((rd j15.1 y377.1.2.1) - y377.1.2.2.1))), ()))))) (fun j16 => (cond j16.1 (some (.inr ((false, ()), ()))) (some (.inl ()))))))) (some (.inl ()))) (fun j17 => (met (cond y403.1.2.1 (Option.bind (impl_SureOfColour_f k j15.2.1 y397.1.2.1 2) (fun y481 => (met (cond (!y481.1.2.1) (some (.inl (true, ()))) (some (.inl ((y481.1.1 != y403.1.1), ())))) (fun j18 => (cond j18.1 (some (.inr ((false, ()), ()))) (some (.inl ()))))))) (some (.inl ()))) (fun j19 => (met (cond y420.1.2.1 (some (.inl ((decide ((iw (2 * y414.1.1)) ≤ 20)), ()))) (some (.inl (false, ())))) (fun j20 => (met (cond j20.1 (met (laws_FnSocksSure_l21 k y414 [] 0) (fun j22 => (Option.bind (impl_SurePairs_f k j22.1 y414.1.1) (fun y508 => (met (cond (!y508.1.2.1) (some (.inl (true, ()))) (some (.inl ((y508.1.1 != y420.1.1), ())))) (fun j23 => (cond j23.1 (some (.inr ((false, ()), ()))) (some (.inl ()))))))))) (some (.inl ()))) (fun j24 => (some ((true, ()), ())))))))))))))))))))))))))))))))

theorem met_goG {α β : Type} {o : Option (β ⊕ α)} {K : β → Option α} {r : Option α} (v : β) (h : o = some (.inl v)) (h2 : K v = r) : met o K = r := by rw [h]; exact h2
theorem worst_isB {S : List Int} (h : in20 S) (P : Nat) : isB S (worstL S P) = true := by
  have hl : (worstL S P).length = S.length := row_len _ _
  unfold isB
  rw [hl, decide_eq_true rfl, Bool.true_and]
  refine List.all_eq_true.2 fun i hi => ?_
  have hi := List.mem_range.1 hi
  have w := wdD_is h i (lf S P i) hi
  have e : rd (worstL S P) (i : Int) = (wdD S i (lf S P i) : Int) := row_get _ _ _ hi
  rw [e, at_is h i, Bool.and_eq_true, decide_eq_true_eq, decide_eq_true_eq]
  omega
theorem worst_at {S : List Int} (P i : Nat) (hi : i < S.length) : at' (worstL S P) i = wdD S i (lf S P i) := at_row _ _ _ hi
theorem worst_tot {S : List Int} (h : in20 S) (P : Nat) : total (nats' (worstL S P)) = M (nats' S) P := by
  have hl : (worstL S P).length = S.length := row_len _ _
  have inv := sumD_inv h P S.length (Nat.le_refl _)
  rw [Md_end] at inv
  rw [total_at, hl]
  rw [show sumN (at' (worstL S P)) S.length = sumD S P S.length from sumN_congr _ fun i hi => worst_at P i hi]
  omega
theorem worst_hal {S : List Int} (h : in20 S) (P : Nat) : halves (nats' (worstL S P)) ≤ P := by
  have hl : (worstL S P).length = S.length := row_len _ _
  have key : ∀ j, j ≤ S.length → sumN (fun i => wdD S i (lf S P i) / 2) j + lf S P j = P := by
    intro j
    induction j with
    | zero => intro _; simp only [sumN, lf]; omega
    | succ j ih =>
      intro hj
      have := ih (by omega)
      have w := wdD_is h j (lf S P j) (by omega)
      simp only [sumN, lf]; omega
  rw [halves_at, hl]
  rw [show sumN (fun i => at' (worstL S P) i / 2) S.length = sumN (fun i => wdD S i (lf S P i) / 2) S.length from sumN_congr _ fun i hi => by rw [worst_at P i hi]]
  have := key S.length (Nat.le_refl _)
  omega
theorem mx_half {S : List Int} (hl : 1 ≤ S.length) : ∃ n ∈ nats' S, n = mxS S := by
  obtain ⟨i, hi, he⟩ := maxN_in (f := at' S) (j := S.length) (by omega)
  refine ⟨at' S i, ?_, he.symm⟩
  rw [at_get i hi]; exact List.getElem_mem _
theorem mx_halves {S : List Int} (hl : 1 ≤ S.length) : mxS S / 2 ≤ halves (nats' S) := by
  obtain ⟨n, hn, he⟩ := mx_half hl
  obtain ⟨i, hi, rfl⟩ := List.mem_iff_getElem.1 hn
  rw [← he]; exact (part_le _ i hi).2
theorem perm_sum {l l' : List Int} (h : l.Perm l') : l.sum = l'.sum := by
  induction h with
  | nil => rfl
  | cons x _ ih => simp [ih]
  | swap x y l => simp only [List.sum_cons]; omega
  | trans _ _ h1 h2 => exact h1.trans h2
theorem nz_sum : ∀ l : List Int, (nz l).sum = l.sum
  | [] => rfl
  | x :: l => by
    have ih := nz_sum l
    unfold nz keepI at ih ⊢
    by_cases h0 : x = 0
    · subst h0
      rw [List.filter_cons_of_neg (by simp), ih]; simp
    · rw [List.filter_cons_of_pos (by simpa using h0), List.sum_cons, ih, List.sum_cons]
theorem pos_sum : ∀ l : List Int, (∀ x ∈ l, 1 ≤ x) → (l.length : Int) ≤ l.sum
  | [], _ => by simp
  | x :: l, h => by
    have := pos_sum l fun y hy => h y (by simp [hy])
    have := h x (by simp)
    rw [List.sum_cons, List.length_cons]; omega
theorem sco_facts {S : List Int} (G : Good S) (q : Nat) (hq : q < cntS S) : (q : Int) ≤ lastS (sortI S) q ∧ lastS (sortI S) q + 1 ≤ (total (nats' S) : Int) := by
  have hp := sortI_perm S
  have hT : ∀ x ∈ sortI S, 0 ≤ x ∧ x ≤ 20 := fun x hx => G.inS x (hp.mem_iff.1 hx)
  have hn : (nz (sortI S)).length = cntS S := by rw [nz_perm hp, nz_len S G.inS, cntS_L]
  have h1 : ∀ x ∈ nz (sortI S), 1 ≤ x := fun x hx => by
    obtain ⟨a, b⟩ := List.mem_filter.1 hx
    have := hT x a
    have : x ≠ 0 := by simpa using b
    omega
  have hsum : (nz (sortI S)).sum = (total (nats' S) : Int) := by
    rw [nz_sum, perm_sum hp, ← sumW_is G.inS (by have := G.l8; omega), (good_sum G).1]
  rw [← nz_last hT (sortI_sorted S) q (by omega)]
  have hsplit : ((nz (sortI S)).take ((nz (sortI S)).length - q)).sum + lastS (nz (sortI S)) q = (nz (sortI S)).sum := by
    unfold lastS
    rw [← List.sum_append, List.take_append_drop]
  have b1 := pos_sum ((nz (sortI S)).take ((nz (sortI S)).length - q)) fun x hx => h1 x (List.mem_of_mem_take hx)
  have b2 := pos_sum ((nz (sortI S)).drop ((nz (sortI S)).length - q)) fun x hx => h1 x (List.mem_of_mem_drop hx)
  rw [List.length_take] at b1
  rw [List.length_drop] at b2
  have b3 : lastS (nz (sortI S)) q = ((nz (sortI S)).drop ((nz (sortI S)).length - q)).sum := rfl
  omega
section
variable (k : Nat) (hk : 1000 ≤ k) (S : List Int) (h8 : S.length ≤ 8) (p : Int)
include hk h8
theorem sgWorst_is : sgWorstU k ((S, p, ()), ()) (wdVal S p) (spVal S p) (countS S) = some (.inl ()) := by
  unfold sgWorstU
  cases hb : wdB S p with
  | false => unfold wdVal; rw [hb]; rfl
  | true =>
    unfold wdVal
    rw [hb]
    unfold wdB at hb
    simp only [Bool.and_eq_true, decide_eq_true_eq] at hb
    obtain ⟨hg, h1⟩ := hb
    have G := good_is hg
    have hl : (worstL S (minP S p)).length = S.length := row_len _ _
    have hB := worst_isB G.inS (minP S p)
    have ht := worst_tot G.inS (minP S p)
    have hh := worst_hal G.inS (minP S p)
    have h160 := (good_sum G).2.1
    have hMt := M_le_total (nats' S) (minP S p)
    have hzs : sumW (worstL S (minP S p)) = ((M (nats' S) (minP S p) : Nat) : Int) := by
      have hin : in20 (worstL S (minP S p)) := in20_row fun i hi => by
        have := wdD_is G.inS i (lf S (minP S p) i) hi
        have := at_le G.inS i
        omega
      rw [← ht]
      have : ∀ (l : List Int), in20 l → l.sum = (total (nats' l) : Int) := by
        intro l
        induction l with
        | nil => intro _; rfl
        | cons x l ih =>
          intro hx
          have h0 := hx x (by simp)
          have := ih fun y hy => hx y (by simp [hy])
          rw [List.sum_cons, this]
          simp only [nats', List.map_cons, total]
          omega
      rw [sumW_is hin (by omega), this _ hin]
    simp only [if_true, cond_true]
    rw [implIsDraw_is k (by omega) S _ h8 (by omega), implPairs_is k hk S _ h8 (by omega)]
    unfold isVal pairsVal
    rw [hg, hB]
    simp only [Option.bind_some, Bool.and_self, if_true, Bool.not_true, cond_false, zSum_is k _ (show (worstL S (minP S p)).length < k by omega) (show (worstL S (minP S p)).length ≤ 1000 by omega), hzs]
    have hmp : minP S p ≤ p.toNat - 1 := by unfold minP; omega
    rw [cond_dec, if_neg (by omega)]
    cases hs : spB S p with
    | true =>
      unfold spVal
      rw [hs]
      unfold spB at hs
      simp only [Bool.and_eq_true, decide_eq_true_eq] at hs
      have e : minP S p = p.toNat - 1 := by unfold minP; omega
      simp only [if_true, cond_true, Option.bind_some, Bool.not_true, cond_false]
      rw [e, iw_id (by rw [e] at hMt; omega) (by rw [e] at hMt; omega), bne_self_eq_false]
      rfl
    | false =>
      have hnp : ¬ (p ≤ (halves (nats' S) : Int)) := fun h => by
        unfold spB at hs
        rw [hg, decide_eq_true h1, decide_eq_true h] at hs
        cases hs
      have e : minP S p = halves (nats' S) := by unfold minP; omega
      unfold spVal countS
      rw [hs, hg]
      simp only [if_true, Bool.false_eq_true, if_false, cond_false, Bool.not_false, cond_true, Option.bind_some]
      rw [e, M_all _ _ (Nat.le_refl _), bne_self_eq_false]
      rfl
theorem sgSureP_is : sgSurePU k ((S, p, ()), ()) (spVal S p) (slkVal S p) (countS S) = some (.inl ()) := by
  unfold sgSurePU
  cases hb : spB S p with
  | false => unfold spVal; rw [hb]; rfl
  | true =>
    have e90 : spVal S p = (((M (nats' S) (p.toNat - 1) : Int) + 1, true, ()), ()) := by unfold spVal; rw [hb]; rfl
    unfold spB at hb
    simp only [Bool.and_eq_true, decide_eq_true_eq] at hb
    obtain ⟨hg, h1, h2⟩ := hb
    obtain ⟨q, rfl⟩ : ∃ q : Nat, p = ((q + 1 : Nat) : Int) := ⟨p.toNat - 1, by omega⟩
    have G := good_is hg
    have hh := halves_80 G.inS h8
    have h160 := (good_sum G).2.1
    have m1 := M_lt (nats' S) q (by omega)
    have m2 := M_le_total (nats' S) (q + 1)
    have m3 := M_low (nats' S) q (by omega)
    have m4 := M_like (nats' S) q q (Nat.le_refl _)
    have e135 : countS S = (((total (nats' S) : Int), true, ()), ()) := by unfold countS; rw [hg]; rfl
    rw [e90, e135]
    simp only [Int.toNat_natCast, Nat.add_sub_cancel, cond_true]
    have i2 : iw (2 * ((q + 1 : Nat) : Int)) = 2 * ((q + 1 : Nat) : Int) := iw_id (by omega) (by omega)
    have hlk : slkB S ((q + 1 : Nat) : Int) = true → likeN q (nats' S) < total (nats' S) := fun hs => by
      unfold slkB at hs
      simp only [Bool.and_eq_true, decide_eq_true_eq] at hs
      obtain ⟨n, hn, he⟩ := mx_half G.l0
      exact like_lt _ _ n hn (by omega)
    have e102 : slkVal S ((q + 1 : Nat) : Int) = if slkB S ((q + 1 : Nat) : Int) = true then (((likeN q (nats' S) : Int) + 1, true, ()), ()) else ((0, false, ()), ()) := rfl
    refine met_goG (false, ()) ?_ ?_
    · rw [cond_dec, if_neg (by omega), i2, cond_dec, if_neg (by omega), e102]
      cases hs : slkB S ((q + 1 : Nat) : Int) with
      | false => rfl
      | true =>
        have := hlk hs
        simp only [if_true, cond_true]
        rw [cond_dec, if_neg (by omega), decide_eq_false (by omega)]
    · simp only [cond_false]
      refine met_goG () ?_ ?_
      · by_cases hq : q = 0
        · subst hq
          have hl5 : laws_FnSocksSure_l5 k ((S, ((0 + 1 : Nat) : Int), ()), ()) 0 0 = some (.inl ((cntS S : Int), ())) := by
            unfold laws_FnSocksSure_l5 cntS
            refine iter_to (fun j => (((sumN (fun i => if at' S i = 0 then 0 else 1) j : Nat) : Int), (j : Int), ())) S.length _ (fun j hj rec => ?_) (fun rec => ?_) k (by omega)
            · have hs : sumN (fun i => if at' S i = 0 then 0 else 1) j ≤ 1 * j := sum_le20 (c := 1) (f := fun i => if at' S i = 0 then 0 else 1) (fun i => by split <;> omega) _
              have hss : sumN (fun i => if at' S i = 0 then 0 else 1) (j + 1) = sumN (fun i => if at' S i = 0 then 0 else 1) j + (if at' S j = 0 then 0 else 1) := rfl
              simp only [laws_FnSocksSure_l5_b]
              rw [cond_dec, if_pos (by omega), ixk_in (by omega) (by omega), at_is G.inS j, cond_dec, hss]
              by_cases hz : at' S j = 0
              · rw [if_neg (by omega), if_pos hz]
                simp only [met_inl]
                rw [iw_nat (by omega)]; rfl
              · rw [if_pos (by omega), if_neg hz]
                simp only [met_inl]
                rw [iw_id (by omega) (by omega), iw_nat (by omega)]; rfl
            · simp only [laws_FnSocksSure_l5_b]
              rw [cond_dec, if_neg (by omega)]
          rw [show ((((0 + 1 : Nat) : Int)) == 1) = true from rfl, cond_true, hl5]
          simp only [met_inl]
          rw [cntS_M, iw_id (by omega) (by omega), bne_self_eq_false, e102, like_zero]
          cases slkB S ((0 + 1 : Nat) : Int) with
          | false => rfl
          | true =>
            simp only [if_true, cond_true, cond_false, bne_self_eq_false]
            rfl
        · rw [show ((((q + 1 : Nat) : Int)) == 1) = false by rw [beq_eq_false_iff_ne]; omega]
          rfl
      · refine met_goG () ?_ rfl
        by_cases hq : q = 0
        · subst hq; rfl
        · obtain ⟨r, rfl⟩ : ∃ r, q = r + 1 := ⟨q - 1, by omega⟩
          have n1 := M_lt (nats' S) r (by omega)
          have n2 := M_step (nats' S) r
          rw [decide_eq_true (show ((r + 1 + 1 : Nat) : Int) > 1 by omega), cond_true, iw_id (x := ((r + 1 + 1 : Nat) : Int) - 1) (by omega) (by omega), show ((r + 1 + 1 : Nat) : Int) - 1 = ((r + 1 : Nat) : Int) by omega, implSP_is k hk S h8]
          have es : spVal S ((r + 1 : Nat) : Int) = (((M (nats' S) r : Int) + 1, true, ()), ()) := by
            unfold spVal spB
            rw [hg, decide_eq_true (show 1 ≤ ((r + 1 : Nat) : Int) by omega), decide_eq_true (show ((r + 1 : Nat) : Int) ≤ ((halves (nats' S) : Nat) : Int) by omega)]
            rfl
          rw [es]
          simp only [Option.bind_some, Bool.not_true, cond_false]
          rw [cond_dec, if_neg (by omega), iw_id (by omega) (by omega), decide_eq_false (by omega)]
          rfl
end
theorem sgCol_is (k : Nat) (hk : 1000 ≤ k) (S T : List Int) (h8 : S.length ≤ 8) (c n : Int) (b : Bool) : sgColU k ((S, c, n, ()), ()) (socVal S c n) (S, T, b, ()) = some (.inl ()) := by
  unfold sgColU socVal
  cases hb : (colG S c && (decide (1 ≤ n) && decide (n ≤ rd S c))) with
  | false => rfl
  | true =>
    unfold colG at hb
    simp only [Bool.and_eq_true, decide_eq_true_eq] at hb
    obtain ⟨⟨hg, h0, h1⟩, h2, h3⟩ := hb
    have G := good_is hg
    have h160 := (good_sum G).2.1
    simp only [if_true, cond_true]
    rw [implCountS_is k (by omega) S h8]
    unfold countS
    rw [hg]
    simp only [if_true, Option.bind_some, Bool.not_true, cond_false]
    obtain ⟨j, rfl⟩ : ∃ j : Nat, c = (j : Int) := ⟨c.toNat, by omega⟩
    have hj := at_le G.inS j
    rw [at_is G.inS j] at h3 ⊢
    rw [ixk_in (by omega) (by omega), iw_id (x := ((at' S j : Nat) : Int) - n) (by omega) (by omega), iw_id (by omega) (by omega), show ((total (nats' S) : Nat) : Int) - (((total (nats' S) : Nat) : Int) - ((at' S j : Nat) : Int) + n) = ((at' S j : Nat) : Int) - n by omega, bne_self_eq_false]
    rfl
theorem sgPair_is (k : Nat) (hk : 1000 ≤ k) (S T : List Int) (h8 : S.length ≤ 8) (c : Int) (b : Bool) : sgPairU k ((S, c, ()), ()) (socVal S c 2) (T, S, b, ()) = some (.inl ()) := by
  unfold sgPairU
  cases hf : (socVal S c 2).1.2.1 with
  | false => rfl
  | true =>
    simp only [cond_true]
    rw [implSOC_is k (by omega) S h8]
    simp only [Option.bind_some, hf, Bool.not_true, cond_false, bne_self_eq_false]
    rfl
theorem sgLeast_is (k : Nat) (hk : 1000 ≤ k) (a b : Int) : sgLeastU k ((a, b, ()), ()) (lsVal a b) = some ((true, ()), ()) := by
  unfold sgLeastU
  cases hb : lsB a b with
  | false =>
    have : lsVal a b = ((0, false, ()), ()) := by unfold lsVal; rw [hb]; rfl
    rw [this]; rfl
  | true =>
    have e : lsVal a b = ((2 * a - 1 + b, true, ()), ()) := by unfold lsVal; rw [hb]; rfl
    rw [e]
    unfold lsB at hb
    simp only [Bool.and_eq_true, decide_eq_true_eq] at hb
    obtain ⟨⟨a1, a2⟩, b1, b2⟩ := hb
    obtain ⟨p, rfl⟩ : ∃ p : Nat, a = ((p + 1 : Nat) : Int) := ⟨a.toNat - 1, by omega⟩
    obtain ⟨n, rfl⟩ : ∃ n : Nat, b = (n : Int) := ⟨b.toNat, by omega⟩
    simp only [cond_true, met_inl]
    rw [iw_id (x := 2 * ((p + 1 : Nat) : Int)) (by omega) (by omega)]
    by_cases h20 : 2 * ((p + 1 : Nat) : Int) ≤ 20
    · rw [decide_eq_true h20]
      have hl : laws_FnSocksSure_l21 k (((((p + 1 : Nat) : Int)), (n : Int), ()), ()) [] 0 = some (.inl (List.replicate n 20, ())) := by
        unfold laws_FnSocksSure_l21
        refine iter_to (fun j => (List.replicate j (20 : Int), (j : Int), ())) n _ (fun j hj rec => ?_) (fun rec => ?_) k (by omega)
        · simp only [laws_FnSocksSure_l21_b]
          rw [cond_dec, if_pos (by omega), chk_dec (by simp; omega), iw_nat (by omega), List.replicate_succ']
        · simp only [laws_FnSocksSure_l21_b]
          rw [cond_dec, if_neg (by omega)]
      rw [cond_true, hl]
      simp only [met_inl]
      have hn : nats' (List.replicate n (20 : Int)) = List.replicate n 20 := by simp [nats']
      have hM := M_full n p (by omega) (by omega)
      have hhal : ∀ n : Nat, halves (List.replicate n 20) = 10 * n := by
        intro n
        induction n with
        | zero => rfl
        | succ n ih => rw [List.replicate_succ]; simp only [halves]; rw [ih]; omega
      have hin : in20 (List.replicate n (20 : Int)) := fun x hx => by rw [(List.mem_replicate.1 hx).2]; omega
      have hsm : ∀ n : Nat, (List.replicate n (20 : Int)).sum = 20 * n := by
        intro n
        induction n with
        | zero => rfl
        | succ n ih => rw [List.replicate_succ, List.sum_cons, ih]; omega
      have hg : good (List.replicate n (20 : Int)) = true := by
        unfold good
        rw [List.length_replicate, decide_eq_true (show 1 ≤ (n : Int) by omega), decide_eq_true (show (n : Int) ≤ 8 by omega), sumW_is hin (by rw [List.length_replicate]; omega), hsm, decide_eq_true (show 20 * (n : Int) > 0 by omega)]
        have : allIn 0 20 (List.replicate n (20 : Int)) = true := List.all_eq_true.2 fun x hx => by
          have := hin x hx
          simp only [Bool.and_eq_true, decide_eq_true_eq]; omega
        rw [this]; rfl
      rw [implSP_is k hk _ (by rw [List.length_replicate]; omega)]
      have es : spVal (List.replicate n (20 : Int)) ((p + 1 : Nat) : Int) = ((((2 * p + n : Nat) : Int) + 1, true, ()), ()) := by
        unfold spVal spB
        rw [hg, hn, hhal, decide_eq_true (show 1 ≤ ((p + 1 : Nat) : Int) by omega), decide_eq_true (show ((p + 1 : Nat) : Int) ≤ ((10 * n : Nat) : Int) by omega)]
        simp only [Bool.and_self, if_true, Int.toNat_natCast, Nat.add_sub_cancel]
        rw [hM]
      rw [es]
      simp only [Option.bind_some, Bool.not_true, cond_false]
      rw [show ((2 * p + n : Nat) : Int) + 1 = 2 * ((p + 1 : Nat) : Int) - 1 + (n : Int) by omega, bne_self_eq_false]
      rfl
    · rw [decide_eq_false h20]
      rfl

end Go.Proofs.YtobeolfihkhlgaaV.Law

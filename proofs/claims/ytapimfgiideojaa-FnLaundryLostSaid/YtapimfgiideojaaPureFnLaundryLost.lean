/- The law FnLaundryLost holds: whatever is drawn from the bytes, counts, means, likeliest numbers, pairs to buy and washings are as the reference's, and as the law says of them. No condition. -/
import Derived.Test.YtapimfgiideojaaPFnLaundryLostx5
namespace Go.Proofs.Ytapimfgiideojaa.Pure
open Go.RowKit Go.Proofs.Ytapimfgiideojaa.PFnLaundryLost Go.Proofs.YtapimfgiideojaaW.PrintWords Go.Proofs.YtapimfgiideojaaW.PrintLast
set_option linter.unusedVariables false
set_option linter.unusedSimpArgs false
/-! ### Plain words -/
theorem w1 {n : Nat} (h : n < 4611686018427387904) : wrap64 ((n : Int) + 1) = ((n + 1 : Nat) : Int) := by unfold wrap64; omega
theorem w0 {x : Int} (h1 : -9223372036854775808 ≤ x) (h2 : x ≤ 9223372036854775807) : wrap64 x = x := by unfold wrap64; omega
theorem wfi {x : Int} (h : (Lit.int .i64 x).wf = true) : -9223372036854775808 ≤ x ∧ x ≤ 9223372036854775807 := by
  simpa [Lit.wf, IntKind.min, IntKind.max, IntKind.signed, IntKind.bits] using h
theorem getD_nat {α : Type} (l : List α) (z : α) (n : Nat) (h : n < l.length) : l.getD ((n : Int)).toNat z = l[n] := by
  simp [List.getD_eq_getElem?_getD, h]
theorem fill_set {α β : Type} (f : α → β) (l : List α) (z : β) (n : Nat) (h : n < l.length) :
    ((l.take n).map f ++ List.replicate (l.length - n) z).set n (f l[n]) = (l.take (n + 1)).map f ++ List.replicate (l.length - (n + 1)) z := by
  obtain ⟨d, hd⟩ : ∃ d, l.length - n = d + 1 := ⟨l.length - n - 1, by omega⟩
  rw [List.set_append, if_neg (by simp; omega), List.take_succ_eq_append_getElem h]
  have h1 : n - ((l.take n).map f).length = 0 := by simp; omega
  have h2 : l.length - (n + 1) = d := by omega
  rw [h1, h2, hd, List.replicate_succ, List.set_cons_zero, List.map_append]
  simp
theorem getD_set {α : Type} (l : List α) (z : α) (i j : Nat) (v : α) (hi : i < l.length) : (l.set i v).getD j z = if j = i then v else l.getD j z := by
  by_cases h : j = i
  · subst h; simp [List.getD_eq_getElem?_getD, hi]
  · rw [if_neg h]; simp [List.getD_eq_getElem?_getD, Ne.symm h]
/-- A way that needs no rounds. -/
theorem ev_now {α : Type} {g : Nat → Option α} {r : α} (h : ∀ k, g k = some r) : Ev g r := ⟨0, fun k _ => h k⟩
theorem ev_late {α : Type} {g : Nat → Option α} {r : α} (n : Nat) (h : ∀ k, g (k + n) = some r) : Ev g r := ⟨n, fun k hk => by
  obtain ⟨m, rfl⟩ : ∃ m, k = m + n := ⟨k - n, by omega⟩
  exact h m⟩
theorem ev_eq {α : Type} {g : Nat → Option α} {r s : α} (h : Ev g r) (e : r = s) : Ev g s := e ▸ h
theorem rdI (xs : List Int) (n : Nat) (h : n < xs.length) : rd xs (n : Int) = xs[n] := getD_nat xs 0 n h
/-! ### The draws: what is picked lies where it may -/
def bytesIn (l : List Int) : Prop := l.length ≤ 1048576 ∧ ∀ x ∈ l, 0 ≤ x ∧ x ≤ 255
theorem u64_63 (n : Int) (h0 : 0 ≤ n) (h1 : n < 2 ^ 63) : IntKind.u64.wrap n = n := by rw [IntKind.wrap_u64]; omega
theorem and255 (x : Int) (h0 : 0 ≤ x) (h1 : x < 2 ^ 62) : Go.bits .and .u64 x 255 = x % 256 := by
  have h := Go.bits_mask .u64 63 (by decide) u64_63 8 (by decide) x h0 (by omega)
  simpa using h
theorem next_is (l : List Int) (hb : bytesIn l) (a s : Int) (ha : 0 ≤ a ∧ a ≤ 1000) : ∃ v s', spec_l1Cur_next.f l a s = some (v, a + 1, s') ∧ 0 ≤ v ∧ v ≤ 255 := by
  obtain ⟨hl, hb⟩ := hb
  have hw : wrap64 (a + 1) = a + 1 := w0 (by omega) (by omega)
  unfold spec_l1Cur_next.f
  simp only [hw]
  by_cases h : a < (l.length : Int)
  · rw [if_pos h, if_pos ha.1, if_pos (show a + 1 ≤ (l.length : Int) by omega)]
    have hr : 0 ≤ rd l a ∧ rd l a ≤ 255 := by
      have e : rd l a = l[a.toNat]'(by omega) := by
        have := rdI l a.toNat (by omega)
        rw [← this]; congr 1; omega
      rw [e]; exact hb _ (List.getElem_mem _)
    refine ⟨_, _, rfl, ?_⟩
    rw [w0 (by omega) (by omega)]; exact hr
  · rw [if_neg h, if_neg (show ¬ a + 1 ≤ (l.length : Int) by omega)]
    refine ⟨_, _, rfl, ?_⟩
    obtain ⟨y, hy⟩ : ∃ y, y = IntKind.u64.wrap ((IntKind.u64.wrap ((IntKind.u64.wrap (s * 6364136223846793005)) + 0)) + 1442695040888963407) := ⟨_, rfl⟩
    rw [← hy]
    have h1 : 0 ≤ y ∧ y < 18446744073709551616 := by rw [hy, IntKind.wrap_u64]; omega
    rw [and255 (y / 1099511627776) (by omega) (by omega), w0 (by omega) (by omega)]
    omega
theorem pick_is (l : List Int) (hb : bytesIn l) (a s n : Int) (ha : 0 ≤ a ∧ a ≤ 1000) (hn : 0 ≤ n ∧ n ≤ 200) : ∃ v a' s', spec_l1Cur_pick.f l a s n = some (v, a', s') ∧ (0 ≤ a' ∧ a' ≤ a + 1) ∧ 0 ≤ v ∧ (v < n ∨ v = 0) := by
  unfold spec_l1Cur_pick.f
  by_cases h : n ≤ 1
  · rw [if_pos h]; exact ⟨0, a, s, rfl, by omega, by omega, .inr rfl⟩
  · obtain ⟨v, s', hv, h0, h1⟩ := next_is l hb a s ha
    rw [if_neg h, hv]
    simp only [Option.bind_some]
    rw [if_neg (show ¬ n > 200 by omega), if_neg (show ¬ n = 0 by omega)]
    refine ⟨_, _, _, rfl, by omega, ?_⟩
    rw [Int.tmod_eq_emod_of_nonneg h0]
    exact ⟨Int.emod_nonneg _ (by omega), .inl (Int.emod_lt_of_pos _ (by omega))⟩
theorem among_is (l : List Int) (hb : bytesIn l) (a s : Int) (xs : List Int) (ha : 0 ≤ a ∧ a ≤ 1000) (hn : 0 < xs.length ∧ xs.length ≤ 200) : ∃ v a' s', spec_l1Cur_among.f l a s xs = some (v, a', s') ∧ (0 ≤ a' ∧ a' ≤ a + 1) ∧ v ∈ xs := by
  obtain ⟨v, a', s', hv, h1, h2, h3⟩ := pick_is l hb a s (xs.length : Int) ha (by omega)
  unfold spec_l1Cur_among.f
  rw [hv]
  simp only [Option.bind_some]
  rw [if_pos h2, if_pos (by omega)]
  refine ⟨_, _, _, rfl, h1, ?_⟩
  have e : rd xs v = xs[v.toNat]'(by omega) := by
    have := rdI xs v.toNat (by omega)
    rw [← this]; congr 1; omega
  rw [e]; exact List.getElem_mem _
theorem one_is (l : List Int) (hb : bytesIn l) (a s n : Int) (ha : 0 ≤ a ∧ a ≤ 1000) (hn : 0 ≤ n ∧ n ≤ 200) : ∃ (v : Bool) (a' s' : Int), spec_l1Cur_one.f l a s n = some (v, a', s') ∧ (0 ≤ a' ∧ a' ≤ a + 1) := by
  obtain ⟨v, a', s', hv, h1, _⟩ := pick_is l hb a s n ha hn
  unfold spec_l1Cur_one.f
  rw [hv]; exact ⟨_, _, _, rfl, h1⟩
def pairsAll : List Int := [0, -1, 20, 21, 4611686018427387904, 1, 2, 3, 4, 5, 6]
theorem pairs_is (l : List Int) (hb : bytesIn l) (a s : Int) (ha : 0 ≤ a ∧ a ≤ 900) : ∃ v a' s', spec_l1Cur_pairs.f l a s = some (v, a', s') ∧ (0 ≤ a' ∧ a' ≤ a + 2) ∧ v ∈ pairsAll := by
  obtain ⟨b, a1, s1, h1, h2⟩ := one_is l hb a s 14 (by omega) (by omega)
  unfold spec_l1Cur_pairs.f
  rw [h1]
  simp only [Option.bind_some]
  cases b
  · obtain ⟨v, a2, s2, h3, h4, h5, h6⟩ := pick_is l hb a1 s1 6 (by omega) (by omega)
    rw [h3]
    refine ⟨1 + v, a2, s2, ?_, by omega, ?_⟩
    · simp only [Bool.false_eq_true, if_false, Option.bind_some]; rw [w0 (by omega) (by omega)]
    rcases (show v = 0 ∨ v = 1 ∨ v = 2 ∨ v = 3 ∨ v = 4 ∨ v = 5 by omega) with rfl | rfl | rfl | rfl | rfl | rfl <;> decide
  · obtain ⟨v, a2, s2, h3, h4, h5⟩ := among_is l hb a1 s1 [0, -1, 20, 21, 4611686018427387904] (by omega) (by decide)
    simp only [if_true]
    rw [h3]
    refine ⟨v, a2, s2, rfl, by omega, ?_⟩
    simp only [List.mem_cons, List.not_mem_nil, or_false] at h5
    rcases h5 with rfl | rfl | rfl | rfl | rfl <;> decide
def mid6 (p : Int) : Int := if p < 6 then (if 0 > p then 0 else p) else 6
theorem mid6_is (p : Int) : (spec_l1Least.f p 6).bind (fun t => spec_l1Most.f 0 t) = some (mid6 p) := by
  unfold spec_l1Least.f spec_l1Most.f mid6
  by_cases h : p < 6
  · simp only [h, if_true, Option.bind_some]; split <;> rfl
  · simp only [h, if_false, Option.bind_some]; rfl
theorem mid6_in (p : Int) : 0 ≤ mid6 p ∧ mid6 p ≤ 6 := by unfold mid6; split <;> (try split) <;> omega
mutual
def sh_l0 : Nat → Int → Int → Int → Int → Int → Int → Int → Int → Int → Int → Int → Option Bool
  | 0, _, _, _, _, _, _, _, _, _, _, _ => none
  | k + 1, x5, x6, x7, x8, x13, x17, x21, x25, x26, x27, x28 => if x28 ≤ x5 then ((impl_CountLosses.f k x5 x6 x28).bind fun bt296 => (if bt296.2 = true then (if x28 ≥ x17 then (sh_j1 k x5 x6 x7 x8 x13 x17 x21 x25 x26 x27 x28 bt296.1 ((decide (bt296.1 > 0)) != (decide (x28 ≤ x13)))) else (sh_j1 k x5 x6 x7 x8 x13 x17 x21 x25 x26 x27 x28 bt296.1 ((decide (bt296.1 > 0)) != false))) else (some false))) else ((impl_CountLosses.f k x5 x6 x21).bind fun bt301 => ((laws_zLow.f k x7 x8).bind fun t303 => (if t303 = true then (if x25 < 1 then (some false) else (if x8 = 0 then (none) else (if (Int.tmod x25 x8) = 0 then (if (wrap64 (x7 * (wrap64 (Int.tdiv x25 x8)))) = x26 then (if bt301.2 = true then (if bt301.1 = x27 then (sh_l1 k x5 x6 x25 x27 (wrap64 (x21 + 1))) else (some false)) else (some false)) else (some false)) else (some false)))) else (some false))))
def sh_j1 : Nat → Int → Int → Int → Int → Int → Int → Int → Int → Int → Int → Int → Int → Bool → Option Bool
  | 0, _, _, _, _, _, _, _, _, _, _, _, _, _ => none
  | k + 1, x5, x6, x7, x8, x13, x17, x21, x25, x26, x27, x28, x29, x229 => if x229 = true then (some false) else (if x29 > x27 then (sh_l0 k x5 x6 x7 x8 x13 x17 x21 (wrap64 (x25 + x29)) (wrap64 (x26 + (wrap64 (x28 * x29)))) x29 (wrap64 (x28 + 1))) else (sh_l0 k x5 x6 x7 x8 x13 x17 x21 (wrap64 (x25 + x29)) (wrap64 (x26 + (wrap64 (x28 * x29)))) x27 (wrap64 (x28 + 1))))
def sh_l1 : Nat → Int → Int → Int → Int → Int → Option Bool
  | 0, _, _, _, _, _ => none
  | k + 1, x5, x6, x25, x27, x33 => if x33 ≤ x5 then ((impl_CountLosses.f k x5 x6 x33).bind fun bt312 => (if bt312.2 = true then (if bt312.1 = x27 then (some false) else (sh_l1 k x5 x6 x25 x27 (wrap64 (x33 + 1)))) else (some false))) else (sh_l2 k x5 x6 x25 0)
def sh_l2 : Nat → Int → Int → Int → Int → Option Bool
  | 0, _, _, _, _ => none
  | k + 1, x5, x6, x25, x36 => if x36 ≤ x5 then ((impl_CountLosses.f k x5 x6 x36).bind fun bt326 => ((impl_ChanceComplete.f k x5 x6 x36).bind fun bt328 => (if bt326.2 = true then (if bt328.2.2 = true then ((laws_zLow.f k bt328.1 bt328.2.1).bind fun t331 => (if t331 = true then (if bt328.2.1 = 0 then (none) else (if (Int.tmod x25 bt328.2.1) = 0 then (if (wrap64 (bt328.1 * (wrap64 (Int.tdiv x25 bt328.2.1)))) = bt326.1 then (sh_l2 k x5 x6 x25 (wrap64 (x36 + 1))) else (some false)) else (some false))) else (some false))) else (some false)) else (some false)))) else (some true)
end
def sh_j8 : Nat → Int → Int → Int → Bool → Option Bool
  | 0, _, _, _, _ => none
  | k + 1, x55, x56, x57, x572 => if x572 = true then ((impl_LeastComplete.f (wrap64 (x57 - 1)) x55).bind fun bt463 => (if bt463.2 = true then (if bt463.1 ≥ x56 then (some false) else (some true)) else (some true))) else (some true)
def sh_j7 : Nat → Int → Int → Int → Option Bool
  | 0, _, _, _ => none
  | k + 1, x55, x56, x57 => if x57 ≥ 2 then (sh_j8 k x55 x56 x57 (decide ((wrap64 (x57 - 1)) ≤ 20))) else (sh_j8 k x55 x56 x57 false)
def sh_j6 : Nat → Int → Int → Int → Bool → Option Bool
  | 0, _, _, _, _ => none
  | k + 1, x55, x56, x57, x552 => if x552 = true then ((impl_LeastComplete.f x57 x55).bind fun bt455 => (if bt455.2 = true then (if bt455.1 < x56 then (some false) else (sh_j7 k x55 x56 x57)) else (some false))) else (sh_j7 k x55 x56 x57)
def sh_j5 : Nat → Int → Int → Int → Bool → Option Bool
  | 0, _, _, _, _ => none
  | k + 1, x55, x56, x57, x546 => if x546 = true then (some false) else (if x57 ≥ 1 then (sh_j6 k x55 x56 x57 (decide (x57 ≤ 20))) else (sh_j6 k x55 x56 x57 false))
def sh_f (k : Nat) (p l : Int) : Option Bool := ((impl_MeanComplete.f k p l).bind fun bt272 => ((spec_MeanComplete.f k p l).bind fun bt275 => ((impl_MostComplete.f p l).bind fun bt278 => ((spec_MostComplete.f p l).bind fun bt280 => ((impl_LeastComplete.f p l).bind fun bt282 => ((spec_LeastComplete.f p l).bind fun bt284 => ((impl_LikeliestComplete.f k p l).bind fun bt286 => ((spec_LikeliestComplete.f k p l).bind fun bt288 => (if (bt272.2.2 != bt275.2.2) = true then (some false) else (if bt272.1 = bt275.1 then (if bt272.2.1 = bt275.2.1 then (if (bt278.2 != bt280.2) = true then (some false) else (if bt278.1 = bt280.1 then (if (bt282.2 != bt284.2) = true then (some false) else (if bt282.1 = bt284.1 then (if (bt286.2 != bt288.2) = true then (some false) else (if bt286.1 = bt288.1 then (if (bt278.2 != bt272.2.2) = true then (some false) else (if (bt282.2 != bt272.2.2) = true then (some false) else (if (bt286.2 != bt272.2.2) = true then (some false) else (if bt272.2.2 = true then (sh_l0 k p l bt272.1 bt272.2.1 bt278.1 bt282.1 bt286.1 0 0 0 0) else (some true))))) else (some false))) else (some false))) else (some false))) else (some false)) else (some false)))))))))))
def la_f (k : Nat) (x1 : List Int) (p l : Int) : Option Bool := ((impl_MeanComplete.f k p l).bind fun bt272 => ((spec_MeanComplete.f k p l).bind fun bt275 => ((impl_MostComplete.f p l).bind fun bt278 => ((spec_MostComplete.f p l).bind fun bt280 => ((impl_LeastComplete.f p l).bind fun bt282 => ((spec_LeastComplete.f p l).bind fun bt284 => ((impl_LikeliestComplete.f k p l).bind fun bt286 => ((spec_LikeliestComplete.f k p l).bind fun bt288 => (if (bt272.2.2 != bt275.2.2) = true then (some false) else (if bt272.1 = bt275.1 then (if bt272.2.1 = bt275.2.1 then (if (bt278.2 != bt280.2) = true then (some false) else (if bt278.1 = bt280.1 then (if (bt282.2 != bt284.2) = true then (some false) else (if bt282.1 = bt284.1 then (if (bt286.2 != bt288.2) = true then (some false) else (if bt286.1 = bt288.1 then (if (bt278.2 != bt272.2.2) = true then (some false) else (if (bt282.2 != bt272.2.2) = true then (some false) else (if (bt286.2 != bt272.2.2) = true then (some false) else (if bt272.2.2 = true then (laws_FnLaundryLost.l0 k x1 p l bt272.1 bt272.2.1 bt278.1 bt282.1 bt286.1 0 0 0 0) else (laws_FnLaundryLost.j4 k x1))))) else (some false))) else (some false))) else (some false))) else (some false)) else (some false)))))))))))
theorem leo_add {α : Type} {f : Nat → Option α} (h : ∀ k, LeO (f k) (f (k + 1))) (n m : Nat) : LeO (f n) (f (n + m)) := fun _ hr => at_rounds h (Nat.le_add_right n m) hr
theorem ev_succ {α : Type} {g : Nat → Option α} {r : α} (h : Ev (fun k => g (k + 1)) r) : Ev g r := Ev.step (fun _ => rfl) h
theorem sh_le (x1 : List Int) (m : Nat) (hm : ∀ k, m ≤ k → laws_FnLaundryLost.j4 k x1 = some true) : ∀ n : Nat, (∀ a1 a2 a3 a4 a5 a6 a7 a8 a9 a10 a11, LeO (sh_l0 n a1 a2 a3 a4 a5 a6 a7 a8 a9 a10 a11) (laws_FnLaundryLost.l0 (n + m) x1 a1 a2 a3 a4 a5 a6 a7 a8 a9 a10 a11)) ∧ (∀ a1 a2 a3 a4 a5 a6 a7 a8 a9 a10 a11 a12 a13, LeO (sh_j1 n a1 a2 a3 a4 a5 a6 a7 a8 a9 a10 a11 a12 a13) (laws_FnLaundryLost.j1 (n + m) x1 a1 a2 a3 a4 a5 a6 a7 a8 a9 a10 a11 a12 a13)) ∧ (∀ a1 a2 a3 a4 a5, LeO (sh_l1 n a1 a2 a3 a4 a5) (laws_FnLaundryLost.l1 (n + m) x1 a1 a2 a3 a4 a5)) ∧ (∀ a1 a2 a3 a4, LeO (sh_l2 n a1 a2 a3 a4) (laws_FnLaundryLost.l2 (n + m) x1 a1 a2 a3 a4))
  | 0 => ⟨fun _ _ _ _ _ _ _ _ _ _ _ => by simp only [sh_l0]; exact LeO.none _, fun _ _ _ _ _ _ _ _ _ _ _ _ _ => by simp only [sh_j1]; exact LeO.none _, fun _ _ _ _ _ => by simp only [sh_l1]; exact LeO.none _, fun _ _ _ _ => by simp only [sh_l2]; exact LeO.none _⟩
  | n + 1 => by
    obtain ⟨i0, i1, i2, i3⟩ := sh_le x1 m hm n
    have hj : LeO (some true) (laws_FnLaundryLost.j4 (n + m) x1) := fun r hr => by rw [hm (n + m) (by omega)]; exact hr
    rw [show n + 1 + m = (n + m) + 1 by omega]
    refine ⟨fun _ _ _ _ _ _ _ _ _ _ _ => ?_, fun _ _ _ _ _ _ _ _ _ _ _ _ _ => ?_, fun _ _ _ _ _ => ?_, fun _ _ _ _ => ?_⟩
    · simp only [sh_l0, laws_FnLaundryLost.l0]
      repeat' (first | exact LeO.refl _ | exact hj | apply i1 | apply i2 | refine LeO.ite ?_ ?_ | refine LeO.bind (leo_add (impl_CountLosses.mono _ _ _) n m) (fun _ => ?_) | refine LeO.bind (leo_add (laws_zLow.mono _ _) n m) (fun _ => ?_))
    · simp only [sh_j1, laws_FnLaundryLost.j1]
      repeat' (first | exact LeO.refl _ | exact hj | apply i0 | refine LeO.ite ?_ ?_)
    · simp only [sh_l1, laws_FnLaundryLost.l1]
      repeat' (first | exact LeO.refl _ | exact hj | apply i2 | apply i3 | refine LeO.ite ?_ ?_ | refine LeO.bind (leo_add (impl_CountLosses.mono _ _ _) n m) (fun _ => ?_))
    · simp only [sh_l2, laws_FnLaundryLost.l2]
      repeat' (first | exact LeO.refl _ | exact hj | apply i3 | refine LeO.ite ?_ ?_ | refine LeO.bind (leo_add (impl_CountLosses.mono _ _ _) n m) (fun _ => ?_) | refine LeO.bind (leo_add (impl_ChanceComplete.mono _ _ _) n m) (fun _ => ?_) | refine LeO.bind (leo_add (laws_zLow.mono _ _) n m) (fun _ => ?_))
theorem sh_f_le (x1 : List Int) (m : Nat) (hm : ∀ k, m ≤ k → laws_FnLaundryLost.j4 k x1 = some true) (n : Nat) (p l : Int) : LeO (sh_f n p l) (la_f (n + m) x1 p l) := by
  have i0 := (sh_le x1 m hm n).1
  have hj : LeO (some true) (laws_FnLaundryLost.j4 (n + m) x1) := fun r hr => by rw [hm (n + m) (by omega)]; exact hr
  unfold sh_f la_f
  repeat' (first | exact LeO.refl _ | exact hj | apply i0 | refine LeO.ite ?_ ?_ | refine LeO.bind (leo_add (impl_MeanComplete.mono _ _) n m) (fun _ => ?_) | refine LeO.bind (leo_add (spec_MeanComplete.mono _ _) n m) (fun _ => ?_) | refine LeO.bind (leo_add (impl_LikeliestComplete.mono _ _) n m) (fun _ => ?_) | refine LeO.bind (leo_add (spec_LikeliestComplete.mono _ _) n m) (fun _ => ?_) | refine LeO.bind (LeO.refl _) (fun _ => ?_))
theorem all1 : ∀ p ∈ pairsAll, ∀ v ∈ List.range (2 * (mid6 p).toNat + 3), sh_f 200 p ((v : Int) - 1) = some true := by decide +kernel
theorem sh5_le (m : Nat) (b1 b2 b3 b4 : Int) (b5 : Bool) (b6 : Int) (hm : ∀ k, m ≤ k → laws_FnLaundryLost.j9 k b1 b2 b3 b4 b5 b6 = some true) : ∀ n : Nat, (∀ a1 a2 a3 a4, LeO (sh_j8 n a1 a2 a3 a4) (laws_FnLaundryLost.j8 (n + m) a1 a2 a3 b1 b2 b3 b4 b5 b6 a4)) ∧ (∀ a1 a2 a3, LeO (sh_j7 n a1 a2 a3) (laws_FnLaundryLost.j7 (n + m) a1 a2 a3 b1 b2 b3 b4 b5 b6)) ∧ (∀ a1 a2 a3 a4, LeO (sh_j6 n a1 a2 a3 a4) (laws_FnLaundryLost.j6 (n + m) a1 a2 a3 b1 b2 b3 b4 b5 b6 a4)) ∧ (∀ a1 a2 a3 a4, LeO (sh_j5 n a1 a2 a3 a4) (laws_FnLaundryLost.j5 (n + m) a1 a2 a3 b1 b2 b3 b4 b5 b6 a4))
  | 0 => ⟨fun _ _ _ _ => by simp only [sh_j8]; exact LeO.none _, fun _ _ _ => by simp only [sh_j7]; exact LeO.none _, fun _ _ _ _ => by simp only [sh_j6]; exact LeO.none _, fun _ _ _ _ => by simp only [sh_j5]; exact LeO.none _⟩
  | n + 1 => by
    obtain ⟨i0, i1, i2, i3⟩ := sh5_le m b1 b2 b3 b4 b5 b6 hm n
    have hj : LeO (some true) (laws_FnLaundryLost.j9 (n + m) b1 b2 b3 b4 b5 b6) := fun r hr => by rw [hm (n + m) (by omega)]; exact hr
    rw [show n + 1 + m = (n + m) + 1 by omega]
    refine ⟨fun _ _ _ _ => ?_, fun _ _ _ => ?_, fun _ _ _ _ => ?_, fun _ _ _ _ => ?_⟩
    · simp only [sh_j8, laws_FnLaundryLost.j8]
      repeat' (first | exact LeO.refl _ | exact hj | refine LeO.ite ?_ ?_ | refine LeO.bind (LeO.refl _) (fun _ => ?_))
    · simp only [sh_j7, laws_FnLaundryLost.j7]
      repeat' (first | exact LeO.refl _ | exact hj | apply i0 | refine LeO.ite ?_ ?_ | refine LeO.bind (LeO.refl _) (fun _ => ?_))
    · simp only [sh_j6, laws_FnLaundryLost.j6]
      repeat' (first | exact LeO.refl _ | exact hj | apply i1 | refine LeO.ite ?_ ?_ | refine LeO.bind (LeO.refl _) (fun _ => ?_))
    · simp only [sh_j5, laws_FnLaundryLost.j5]
      repeat' (first | exact LeO.refl _ | exact hj | apply i2 | refine LeO.ite ?_ ?_ | refine LeO.bind (LeO.refl _) (fun _ => ?_))
theorem mid_parts (p : Int) : ∃ t, spec_l1Least.f p 6 = some t ∧ spec_l1Most.f 0 t = some (mid6 p) := Option.bind_eq_some_iff.1 (mid6_is p)
theorem most_is (x : List Int) (hb : bytesIn x) : ∃ p ∈ pairsAll, ∃ v ∈ List.range (2 * (mid6 p).toNat + 3), spec_DrawMeanComplete.f x = some (p, (v : Int) - 1) := by
  obtain ⟨p, a1, s1, h1, h2, h3⟩ := pairs_is x hb 0 0 (by omega)
  obtain ⟨t, ht, hu⟩ := mid_parts p
  have h5 := mid6_in p
  obtain ⟨v, a2, s2, h6, h7, h8, h9⟩ := pick_is x hb a1 s1 (2 * mid6 p + 3) (by omega) (by omega)
  refine ⟨p, h3, v.toNat, List.mem_range.2 (by omega), ?_⟩
  unfold spec_DrawMeanComplete.f spec_DrawMostComplete.f
  rw [h1]; simp only [Option.bind_some]
  rw [ht]; simp only [Option.bind_some]
  rw [hu]; simp only [Option.bind_some]
  rw [w0 (x := 2 * mid6 p) (by omega) (by omega), w0 (x := 2 * mid6 p + 3) (by omega) (by omega), h6]; simp only [Option.bind_some]
  rw [w0 (by omega) (by omega), show ((v.toNat : Nat) : Int) = v by omega]
def list7 : List Int := [0, 1, 2, 3, 4, -1, 4611686018427387904]
theorem chance_is (x : List Int) (hb : bytesIn x) : ∃ p ∈ pairsAll, ∃ v ∈ List.range (2 * (mid6 p).toNat + 3), ∃ c ∈ list7, spec_DrawChanceComplete.f x = some (p, (v : Int) - 1, c) := by
  obtain ⟨p, a1, s1, h1, h2, h3⟩ := pairs_is x hb 0 0 (by omega)
  obtain ⟨t, ht, hu⟩ := mid_parts p
  have h5 := mid6_in p
  obtain ⟨v, a2, s2, h6, h7, h8, h9⟩ := pick_is x hb a1 s1 (2 * mid6 p + 3) (by omega) (by omega)
  obtain ⟨c, a3, s3, h10, h11, h12⟩ := among_is x hb a2 s2 list7 (by omega) (by decide)
  refine ⟨p, h3, v.toNat, List.mem_range.2 (by omega), c, h12, ?_⟩
  unfold spec_DrawChanceComplete.f spec_DrawCountLosses.f
  rw [h1]; simp only [Option.bind_some]
  rw [ht]; simp only [Option.bind_some]
  rw [hu]; simp only [Option.bind_some]
  rw [w0 (x := 2 * mid6 p) (by omega) (by omega), w0 (x := 2 * mid6 p + 3) (by omega) (by omega), h6]; simp only [Option.bind_some]
  unfold list7 at h10
  rw [h10]; simp only [Option.bind_some]
  rw [w0 (by omega) (by omega), show ((v.toNat : Nat) : Int) = v by omega]
def gones : List Int := [0, 1, 2, 3, 7, 40, 41, -1]
def kepts : List Int := [0, 1, 2, 5, 20, 21, -1]
theorem buy_is (x : List Int) (hb : bytesIn x) : ∃ g ∈ gones, ∃ c ∈ kepts, spec_DrawPairsToBuy.f x = some (g, c) := by
  obtain ⟨g, a1, s1, h1, h2, h3⟩ := among_is x hb 0 0 gones (by omega) (by decide)
  obtain ⟨c, a2, s2, h4, h5, h6⟩ := among_is x hb a1 s1 kepts (by omega) (by decide)
  refine ⟨g, h3, c, h6, ?_⟩
  unfold spec_DrawPairsToBuy.f
  unfold gones at h1; unfold kepts at h4
  rw [h1]; simp only [Option.bind_some]
  rw [h4]; simp only [Option.bind_some]
def eachs : List Int := [1, 2, 3, 40, 41, 0]
theorem wash_is (x : List Int) (hb : bytesIn x) : ∃ p ∈ pairsAll, ∃ v ∈ List.range ((mid6 p).toNat + 2), ∃ u ∈ ([0, 1] : List Int), ∃ e ∈ eachs, spec_DrawWashingsAtWorst.f x = some (p, (v : Int) - u, e) := by
  obtain ⟨p, a1, s1, h1, h2, h3⟩ := pairs_is x hb 0 0 (by omega)
  obtain ⟨t, ht, hu⟩ := mid_parts p
  have h5 := mid6_in p
  obtain ⟨v, a2, s2, h6, h7, h8, h9⟩ := pick_is x hb a1 s1 (mid6 p + 2) (by omega) (by omega)
  obtain ⟨u, a3, s3, h10, h11, h12, h13⟩ := pick_is x hb a2 s2 9 (by omega) (by omega)
  obtain ⟨e, a4, s4, h14, h15, h16⟩ := among_is x hb a3 s3 eachs (by omega) (by decide)
  have hd : Int.tdiv u 8 = u / 8 := by rw [Int.tdiv_eq_ediv_of_nonneg h12]
  refine ⟨p, h3, v.toNat, List.mem_range.2 (by omega), u / 8, ?_, e, h16, ?_⟩
  · rcases (show u / 8 = 0 ∨ u / 8 = 1 by omega) with h | h <;> rw [h] <;> decide
  unfold spec_DrawWashingsAtWorst.f
  rw [h1]; simp only [Option.bind_some]
  rw [ht]; simp only [Option.bind_some]
  rw [hu]; simp only [Option.bind_some]
  rw [w0 (x := mid6 p + 2) (by omega) (by omega), h6]; simp only [Option.bind_some]
  rw [h10]; simp only [Option.bind_some]
  unfold eachs at h14
  rw [h14]; simp only [Option.bind_some]
  rw [hd, w0 (x := u / 8) (by omega) (by omega), w0 (by omega) (by omega), show ((v.toNat : Nat) : Int) = v by omega]
theorem wash_l0_mono (φ : Int → Int → Option (Int × Bool)) : ∀ (k : Nat) (a b c d : Int), LeO (impl_washings.l0 k a b c φ d) (impl_washings.l0 (k + 1) a b c φ d)
  | 0, _, _, _, _ => by simp only [impl_washings.l0]; exact LeO.none _
  | k + 1, a, b, c, d => by
    rw [impl_washings.l0, impl_washings.l0]
    repeat' (first | exact LeO.refl _ | apply wash_l0_mono φ k | refine LeO.ite ?_ ?_ | refine LeO.bind (LeO.refl _) (fun _ => ?_))
theorem wash_j0_mono (φ : Int → Int → Option (Int × Bool)) : ∀ (k : Nat) (a b c : Int) (d : Bool), LeO (impl_washings.j0 k a b c φ d) (impl_washings.j0 (k + 1) a b c φ d)
  | 0, _, _, _, _ => by simp only [impl_washings.j0]; exact LeO.none _
  | k + 1, a, b, c, d => by
    rw [impl_washings.j0, impl_washings.j0]
    exact LeO.ite (LeO.refl _) (wash_l0_mono φ k a b c 0)
theorem washings_mono (φ : Int → Int → Option (Int × Bool)) (a b c : Int) (k : Nat) : LeO (impl_washings.f k a b c φ) (impl_washings.f (k + 1) a b c φ) := by
  unfold impl_washings.f
  repeat' (first | exact LeO.refl _ | apply wash_j0_mono φ k | refine LeO.ite ?_ ?_ | refine LeO.bind (LeO.refl _) (fun _ => ?_))
theorem worst_mono (a b c : Int) (k : Nat) : LeO (impl_WashingsAtWorst.f k a b c) (impl_WashingsAtWorst.f (k + 1) a b c) := LeO.bind (washings_mono _ a b c k) (fun _ => LeO.refl _)
theorem best_mono (a b c : Int) (k : Nat) : LeO (impl_WashingsAtBest.f k a b c) (impl_WashingsAtBest.f (k + 1) a b c) := LeO.bind (washings_mono _ a b c k) (fun _ => LeO.refl _)
def chk2 (p l c : Int) : Bool := match impl_ChanceComplete.f 200 p l c, spec_ChanceComplete.f 200 p l c, impl_CountLosses.f 200 p l c, spec_CountLosses.f 200 p l c with
  | some a, some b, some u, some v => a == b && (u == v && (u.2 == a.2.2))
  | _, _, _, _ => false
theorem all2 : ∀ p ∈ pairsAll, ∀ v ∈ List.range (2 * (mid6 p).toNat + 3), ∀ c ∈ list7, chk2 p ((v : Int) - 1) c = true := by decide +kernel
def sh3 (g b : Int) (A U : Int × Bool) : Option Bool := if A.2 = true then (if U.1 > (wrap64 (A.1 + 1)) then (if b > 0 then (some false) else (if (wrap64 (2 * A.1)) < g then (some false) else (sh_j5 50 g b A.1 (decide ((wrap64 (2 * U.1)) < g))))) else (if (wrap64 (2 * A.1)) < g then (some false) else (sh_j5 50 g b A.1 (decide ((wrap64 (2 * U.1)) < g))))) else some true
def chk3 (g b : Int) : Bool := match impl_PairsToBuy.f g b, spec_PairsToBuy.f g b, impl_AlikeToBuy.f g b, spec_AlikeToBuy.f g b with
  | some a, some b', some u, some v => a == b' && (u == v && (u.2 == a.2 && (sh3 g b a u == some true)))
  | _, _, _, _ => false
theorem all3 : ∀ g ∈ gones, ∀ c ∈ kepts, chk3 g c = true := by decide +kernel
def chk4 (p c e : Int) : Bool := match impl_WashingsAtWorst.f 200 p c e, spec_WashingsAtWorst.f p c e, impl_WashingsAtBest.f 200 p c e, spec_WashingsAtBest.f p c e with
  | some a, some b, some u, some v => a == b && (u == v && (u.2 == a.2 && (laws_FnLaundryLost.j9 5 p c e a.1 a.2 u.1 == some true)))
  | _, _, _, _ => false
theorem all4 : ∀ p ∈ pairsAll, ∀ v ∈ List.range ((mid6 p).toNat + 2), ∀ u ∈ ([0, 1] : List Int), ∀ e ∈ eachs, chk4 p ((v : Int) - u) e = true := by decide +kernel
theorem j9_mono (a b c d : Int) (e : Bool) (f : Int) (k : Nat) : LeO (laws_FnLaundryLost.j9 (k + 1) a b c d e f) (laws_FnLaundryLost.j9 (k + 2) a b c d e f) := by
  rw [laws_FnLaundryLost.j9, laws_FnLaundryLost.j9]; exact LeO.refl _
theorem j4_ev (x : List Int) (hb : bytesIn x) : Ev (fun k => laws_FnLaundryLost.j4 k x) true := by
  obtain ⟨p, hp, v, hv, c, hc, hd2⟩ := chance_is x hb
  obtain ⟨g, hg, b, hbm, hd3⟩ := buy_is x hb
  obtain ⟨m, hm, v4, hv4, u4, hu4, e, he, hd4⟩ := wash_is x hb
  have h2 := all2 p hp v hv c hc
  have h3 := all3 g hg b hbm
  have h4 := all4 m hm v4 hv4 u4 hu4 e he
  obtain ⟨l, hl⟩ : ∃ l : Int, l = (v : Int) - 1 := ⟨_, rfl⟩
  obtain ⟨cc, hcc⟩ : ∃ l : Int, l = (v4 : Int) - u4 := ⟨_, rfl⟩
  rw [← hl] at hd2 h2
  rw [← hcc] at hd4 h4
  unfold chk2 at h2
  split at h2
  rotate_left
  · cases h2
  rename_i a2 b2 u2 w2 e21 e22 e23 e24
  simp only [Bool.and_eq_true, beq_iff_eq] at h2
  obtain ⟨rfl, rfl, h2c⟩ := h2
  unfold chk3 at h3
  split at h3
  rotate_left
  · cases h3
  rename_i a3 b3 u3 w3 e31 e32 e33 e34
  simp only [Bool.and_eq_true, beq_iff_eq] at h3
  obtain ⟨rfl, rfl, h3c, h3d⟩ := h3
  unfold chk4 at h4
  split at h4
  rotate_left
  · cases h4
  rename_i a4 b4 u4' w4 e41 e42 e43 e44
  simp only [Bool.and_eq_true, beq_iff_eq] at h4
  obtain ⟨rfl, rfl, h4c, h4d⟩ := h4
  refine ev_succ ?_
  simp only [laws_FnLaundryLost.j4, hd2, hd3, hd4, Option.bind_some, e31, e32, e33, e34, e42, e44]
  refine (Ev.of (impl_ChanceComplete.mono p l c) e21).bind ?_
  refine (Ev.of (spec_ChanceComplete.mono p l c) e22).bind ?_
  refine (Ev.of (impl_CountLosses.mono p l c) e23).bind ?_
  refine (Ev.of (spec_CountLosses.mono p l c) e24).bind ?_
  refine (Ev.of (worst_mono m cc e) e41).bind ?_
  refine (Ev.of (best_mono m cc e) e43).bind ?_
  simp only [bne_self_eq_false, Bool.false_eq_true, if_false, if_true, h2c, h3c, h4c]
  have hj9 : ∀ k, 5 ≤ k → laws_FnLaundryLost.j9 k m cc e a4.1 a4.2 u4'.1 = some true := by
    intro k hk
    obtain ⟨q, rfl⟩ : ∃ q, k = q + 1 := ⟨k - 1, by omega⟩
    rw [laws_FnLaundryLost.j9] at h4d ⊢; exact h4d
  refine ⟨55, fun k hk => ?_⟩
  obtain ⟨m', rfl⟩ : ∃ m', k = 50 + m' := ⟨k - 50, by omega⟩
  have i5 := (sh5_le m' m cc e a4.1 a4.2 u4'.1 (fun k hk => hj9 k (by omega)) 50).2.2.2
  have hr : LeO (some true) (laws_FnLaundryLost.j9 (50 + m') m cc e a4.1 a4.2 u4'.1) := fun r hr => by rw [hj9 (50 + m') (by omega)]; exact hr
  unfold sh3 at h3d
  refine (LeO.ite (LeO.ite (LeO.ite (LeO.refl _) (LeO.ite (LeO.refl _) (i5 _ _ _ _))) (LeO.ite (LeO.refl _) (i5 _ _ _ _))) hr) true h3d
theorem FnLaundryLost : laws_FnLaundryLost.Pure := by
  intro c x h1 _ hc h2 _ hx
  have bin : ∀ l : List Int, l.length ≤ 1048576 → (∀ y ∈ l, (Lit.int .u8 y).wf = true) → bytesIn l := fun l hl hw => ⟨hl, fun y hy => by
    have := hw y hy
    have h3 : IntKind.u8.min ≤ y ∧ y ≤ IntKind.u8.max := by simpa [Lit.wf] using this
    have e1 : IntKind.u8.min = 0 := by decide
    have e2 : IntKind.u8.max = 255 := by decide
    rw [e1, e2] at h3; exact h3⟩
  refine Ev.rounds (r := true) ?_
  unfold laws_FnLaundryLost.f
  by_cases hl : (c.length : Int) > 1048576
  · simp only [laws_big.f, if_pos hl, Option.bind_some, if_true]; exact Ev.now _
  · simp only [laws_big.f, if_neg hl, Option.bind_some]
    rw [w0 (x := 1048576 - (c.length : Int)) (by omega) (by omega)]
    by_cases hl2 : (x.length : Int) > 1048576 - (c.length : Int)
    · simp only [hl2, decide_true, if_true]; exact Ev.now _
    · simp only [hl2, decide_false, Bool.false_eq_true, if_false]
      have hbc := bin c (by omega) hc
      have hbx := bin x (by omega) hx
      obtain ⟨p, hp, v, hv, hd⟩ := most_is c hbc
      obtain ⟨m, hm⟩ := j4_ev x hbx
      simp only [hd, Option.bind_some]
      show Ev (fun k => la_f k x p ((v : Int) - 1)) true
      refine ⟨200 + m, fun k hk => ?_⟩
      obtain ⟨m', rfl⟩ : ∃ m', k = 200 + m' := ⟨k - 200, by omega⟩
      exact sh_f_le x m' (fun k hk => hm k (by omega)) 200 p _ true (all1 p hp v hv)
end Go.Proofs.Ytapimfgiideojaa.Pure

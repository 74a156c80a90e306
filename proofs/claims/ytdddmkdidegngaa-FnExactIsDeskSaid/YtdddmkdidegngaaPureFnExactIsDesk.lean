/- The program's IsDesk answers as the reference's, for each desk whose size the law looks at, and leaves it as it was. No condition. -/
import Derived.Test.YtdddmkdidegngaaPFnExactIsDeskx4
namespace Go.Proofs.Ytdddmkdidegngaa.Pure
open Go.RowKit Go.Proofs.Ytdddmkdidegngaa.PFnExactIsDesk Go.Proofs.YtdddmkdidegngaaW.PrintWords Go.Proofs.YtdddmkdidegngaaW.PrintLast
set_option linter.unusedVariables false
set_option linter.unusedSimpArgs false
/-! ### Plain words -/
theorem w1 {n : Nat} (h : n < 4611686018427387904) : wrap64 ((n : Int) + 1) = ((n + 1 : Nat) : Int) := by unfold wrap64; omega
theorem w0 {x : Int} (h1 : -9223372036854775808 ≤ x) (h2 : x ≤ 9223372036854775807) : wrap64 x = x := by unfold wrap64; omega
theorem wfi {x : Int} (h : (Lit.int .i64 x).wf = true) : -9223372036854775808 ≤ x ∧ x ≤ 9223372036854775807 := by
  simpa [Lit.wf, IntKind.min, IntKind.max, IntKind.signed, IntKind.bits] using h
theorem getD_nat {α : Type} (l : List α) (z : α) (n : Nat) (h : n < l.length) : l.getD ((n : Int)).toNat z = l[n] := by
  simp [List.getD_eq_getElem?_getD, h]
theorem fill_set {α β : Type} (f : α → β) (l : List α) (z : β) (n : Nat) (h : n < l.length) :
    ((l.take n).map f ++ List.replicate (l.length - n) z).set n (f l[n]) = (l.take (n + 1)).map f ++ List.replicate (l.length - (n + 1)) z := by
  obtain ⟨d, hd⟩ : ∃ d, l.length - n = d + 1 := ⟨l.length - n - 1, by omega⟩
  rw [List.set_append, if_neg (by simp; omega), List.take_succ_eq_append_getElem h]
  have h1 : n - ((l.take n).map f).length = 0 := by simp; omega
  have h2 : l.length - (n + 1) = d := by omega
  rw [h1, h2, hd, List.replicate_succ, List.set_cons_zero, List.map_append]
  simp
theorem getD_set {α : Type} (l : List α) (z : α) (i j : Nat) (v : α) (hi : i < l.length) : (l.set i v).getD j z = if j = i then v else l.getD j z := by
  by_cases h : j = i
  · subst h; simp [List.getD_eq_getElem?_getD, hi]
  · rw [if_neg h]; simp [List.getD_eq_getElem?_getD, Ne.symm h]
/-- A way that needs no rounds. -/
theorem ev_now {α : Type} {g : Nat → Option α} {r : α} (h : ∀ k, g k = some r) : Ev g r := ⟨0, fun k _ => h k⟩
theorem ev_late {α : Type} {g : Nat → Option α} {r : α} (n : Nat) (h : ∀ k, g (k + n) = some r) : Ev g r := ⟨n, fun k hk => by
  obtain ⟨m, rfl⟩ : ∃ m, k = m + n := ⟨k - n, by omega⟩
  exact h m⟩
theorem ev_eq {α : Type} {g : Nat → Option α} {r s : α} (h : Ev g r) (e : r = s) : Ev g s := e ▸ h
/-! ### Lists of whole numbers: taken over, compared, summed -/
theorem rdI (xs : List Int) (n : Nat) (h : n < xs.length) : rd xs (n : Int) = xs[n] := getD_nat xs 0 n h
theorem toIntS_loop (l : List Int) (hl : l.length ≤ 1048576) (d : Nat) : ∀ (n k : Nat), n + d = l.length → d < k →
    laws_toIntS.l0 k l ((l.take n).map id ++ List.replicate (l.length - n) 0) n = some (l.map id) := by
  induction d with
  | zero =>
    intro n k hn hk
    obtain ⟨k, rfl⟩ : ∃ m, k = m + 1 := ⟨k - 1, by omega⟩
    simp only [laws_toIntS.l0]; rw [if_neg (by omega)]
    obtain rfl : n = l.length := by omega
    simp
  | succ d ih =>
    intro n k hn hk
    obtain ⟨k, rfl⟩ : ∃ m, k = m + 1 := ⟨k - 1, by omega⟩
    have hlt : n < l.length := by omega
    simp only [laws_toIntS.l0]
    rw [if_pos (by omega), if_pos (by omega), if_pos (by simp; omega), rdI l n hlt, w1 (by omega), Int.toNat_natCast]
    exact (congrArg (fun z => laws_toIntS.l0 k l z ((n + 1 : Nat) : Int)) (fill_set id l 0 n hlt)).trans (ih (n + 1) k (by omega) (by omega))
theorem toIntS_ev (l : List Int) (hl : l.length ≤ 1048576) : Ev (fun k => laws_toIntS.f k l) l :=
  ⟨l.length + 1, fun k hk => by
    show laws_toIntS.f k l = _
    unfold laws_toIntS.f
    rw [if_pos (by omega), if_pos (by simp; omega)]
    have h := toIntS_loop l hl l.length 0 k (by omega) (by omega)
    simpa using h⟩
theorem szIntS_big (l : List Int) (a : Int) (h0 : 0 ≤ a) (h1 : a ≤ 1048576) (h : a < l.length) (hm : l.length ≤ maxLen) : laws_szIntS.f l a = some (-1) := by
  unfold maxLen at hm
  unfold laws_szIntS.f
  rw [w0 (by omega) (by omega), if_pos (by omega)]
theorem szIntS_small (l : List Int) (a : Int) (h1 : a ≤ 1048576) (h : l.length ≤ a) : laws_szIntS.f l a = some (a - (l.length : Int)) := by
  unfold laws_szIntS.f
  rw [w0 (by omega) (by omega), if_neg (by omega)]
theorem eqIntS_loop (l : List Int) (hl : l.length ≤ 1048576) (d : Nat) : ∀ (n k : Nat), n + d = l.length → d < k → laws_eqIntS.l0 k l l n = some true := by
  induction d with
  | zero =>
    intro n k hn hk
    obtain ⟨k, rfl⟩ : ∃ m, k = m + 1 := ⟨k - 1, by omega⟩
    simp only [laws_eqIntS.l0]; rw [if_neg (by omega)]
  | succ d ih =>
    intro n k hn hk
    obtain ⟨k, rfl⟩ : ∃ m, k = m + 1 := ⟨k - 1, by omega⟩
    simp only [laws_eqIntS.l0, if_true]
    rw [if_pos (by omega), if_pos (by omega), if_pos (by omega), w1 (by omega)]
    exact ih (n + 1) k (by omega) (by omega)
theorem eqIntS_ev (l : List Int) (hl : l.length ≤ 1048576) : Ev (fun k => laws_eqIntS.f k l l) true :=
  ⟨l.length + 1, fun k hk => by
    show laws_eqIntS.f k l l = _
    unfold laws_eqIntS.f
    rw [if_pos rfl]
    exact eqIntS_loop l hl l.length 0 k (by omega) (by omega)⟩
/-! ### Socks -/
def allB (l : List Int) (a b : Int) : Bool := l.all fun x => decide (a ≤ x ∧ x ≤ b)
def wsum : Int → List Int → Int
  | s, [] => s
  | s, x :: l => wsum (wrap64 (s + x)) l
def socksB (l : List Int) : Bool := decide (1 ≤ l.length ∧ l.length ≤ 8) && (allB l 0 20 && decide (wsum 0 l > 0))
theorem l1In_is (n a b : Int) : spec_l1In.f n a b = some (decide (a ≤ n ∧ n ≤ b)) := by
  unfold spec_l1In.f; by_cases h : n ≥ a <;> simp [h] <;> omega
theorem within_is (n a b : Int) : impl_within.f n a b = some (decide (a ≤ n ∧ n ≤ b)) := by
  unfold impl_within.f; by_cases h : a ≤ n <;> simp [h]
theorem l1All_loop (a b : Int) (l : List Int) (hl : l.length ≤ 1048576) (d : Nat) : ∀ (n k : Nat), n + d = l.length → d < k → spec_l1All.l0 k a b l (l.length : Int) n = some (allB (l.drop n) a b) := by
  induction d with
  | zero =>
    intro n k hn hk
    obtain ⟨k, rfl⟩ : ∃ m, k = m + 1 := ⟨k - 1, by omega⟩
    simp only [spec_l1All.l0]; rw [if_neg (by omega)]
    obtain rfl : n = l.length := by omega
    simp [allB]
  | succ d ih =>
    intro n k hn hk
    obtain ⟨k, rfl⟩ : ∃ m, k = m + 1 := ⟨k - 1, by omega⟩
    have hlt : n < l.length := by omega
    simp only [spec_l1All.l0, l1In_is, Option.bind_some]
    rw [if_pos (by omega), if_pos (by omega), if_pos (by omega), rdI l n hlt, w1 (by omega), ih (n + 1) k (by omega) (by omega), List.drop_eq_getElem_cons hlt]
    unfold allB; rw [List.all_cons]
    cases decide (a ≤ l[n] ∧ l[n] ≤ b) <;> simp
theorem l1All_ev (l : List Int) (hl : l.length ≤ 1048576) (a b : Int) : Ev (fun k => spec_l1All.f k l a b) (allB l a b) :=
  ⟨l.length + 1, fun k hk => by
    show spec_l1All.f k l a b = _
    unfold spec_l1All.f
    exact (l1All_loop a b l hl l.length 0 k (by omega) (by omega)).trans (by simp)⟩
theorem soSum_loop (l : List Int) (hl : l.length ≤ 1048576) (d : Nat) : ∀ (n k : Nat) (s : Int), n + d = l.length → d < k → spec_soSum.l0 k s l (l.length : Int) n = some (wsum s (l.drop n)) := by
  induction d with
  | zero =>
    intro n k s hn hk
    obtain ⟨k, rfl⟩ : ∃ m, k = m + 1 := ⟨k - 1, by omega⟩
    simp only [spec_soSum.l0]; rw [if_neg (by omega)]
    obtain rfl : n = l.length := by omega
    simp [wsum]
  | succ d ih =>
    intro n k s hn hk
    obtain ⟨k, rfl⟩ : ∃ m, k = m + 1 := ⟨k - 1, by omega⟩
    have hlt : n < l.length := by omega
    simp only [spec_soSum.l0]
    rw [if_pos (by omega), if_pos (by omega), if_pos (by omega), rdI l n hlt, w1 (by omega), ih (n + 1) k _ (by omega) (by omega), List.drop_eq_getElem_cons hlt]
    rfl
theorem soSum_ev (l : List Int) (hl : l.length ≤ 1048576) : Ev (fun k => spec_soSum.f k l) (wsum 0 l) :=
  ⟨l.length + 1, fun k hk => by
    show spec_soSum.f k l = _
    unfold spec_soSum.f
    exact (soSum_loop l hl l.length 0 k 0 (by omega) (by omega)).trans (by simp)⟩
theorem total_loop (l : List Int) (hl : l.length ≤ 1048576) (d : Nat) : ∀ (n k : Nat) (s : Int), n + d = l.length → d < k → impl_total.l0 k s l (l.length : Int) n = some (wsum s (l.drop n)) := by
  induction d with
  | zero =>
    intro n k s hn hk
    obtain ⟨k, rfl⟩ : ∃ m, k = m + 1 := ⟨k - 1, by omega⟩
    simp only [impl_total.l0]; rw [if_neg (by omega)]
    obtain rfl : n = l.length := by omega
    simp [wsum]
  | succ d ih =>
    intro n k s hn hk
    obtain ⟨k, rfl⟩ : ∃ m, k = m + 1 := ⟨k - 1, by omega⟩
    have hlt : n < l.length := by omega
    simp only [impl_total.l0]
    rw [if_pos (by omega), if_pos (by omega), if_pos (by omega), rdI l n hlt, w1 (by omega), ih (n + 1) k _ (by omega) (by omega), List.drop_eq_getElem_cons hlt]
    rfl
theorem total_ev (l : List Int) (hl : l.length ≤ 1048576) : Ev (fun k => impl_total.f k l) (wsum 0 l) :=
  ⟨l.length + 1, fun k hk => by
    show impl_total.f k l = _
    unfold impl_total.f
    exact (total_loop l hl l.length 0 k 0 (by omega) (by omega)).trans (by simp)⟩
theorem index_int_loop (l : List Int) (hl : l.length ≤ 1048576) (φ : Int → Option Bool) (q : Int → Bool) (hφ : ∀ x ∈ l, φ x = some (q x)) (d : Nat) : ∀ (n k : Nat), n + d = l.length → d < k →
    ∃ r, slices_IndexFunc_sint_int.l0 k l φ (l.length : Int) n = some r ∧ (decide (r ≥ 0) = (l.drop n).any q) := by
  induction d with
  | zero =>
    intro n k hn hk
    obtain ⟨k, rfl⟩ : ∃ m, k = m + 1 := ⟨k - 1, by omega⟩
    obtain rfl : n = l.length := by omega
    exact ⟨-1, by simp only [slices_IndexFunc_sint_int.l0]; rw [if_neg (by omega)], by simp⟩
  | succ d ih =>
    intro n k hn hk
    obtain ⟨k, rfl⟩ : ∃ m, k = m + 1 := ⟨k - 1, by omega⟩
    have hlt : n < l.length := by omega
    have hx := hφ l[n] (List.getElem_mem hlt)
    obtain ⟨r, hr, hq⟩ := ih (n + 1) k (by omega) (by omega)
    rw [List.drop_eq_getElem_cons hlt, List.any_cons]
    cases h : q l[n]
    · refine ⟨r, ?_, by simpa [h] using hq⟩
      simp only [slices_IndexFunc_sint_int.l0]
      rw [if_pos (by omega), if_pos (by omega), if_pos (by omega), rdI l n hlt, hx, h, w1 (by omega)]
      simpa using hr
    · refine ⟨n, ?_, by simp⟩
      simp only [slices_IndexFunc_sint_int.l0]
      rw [if_pos (by omega), if_pos (by omega), if_pos (by omega), rdI l n hlt, hx, h]
      rfl
theorem contains_int_ev (l : List Int) (hl : l.length ≤ 1048576) (φ : Int → Option Bool) (q : Int → Bool) (hφ : ∀ x ∈ l, φ x = some (q x)) : Ev (fun k => slices_ContainsFunc_sint_int.f k l φ) (l.any q) :=
  ⟨l.length + 1, fun k hk => by
    show slices_ContainsFunc_sint_int.f k l φ = _
    obtain ⟨r, hr, hq⟩ := index_int_loop l hl φ q hφ l.length 0 k (by omega) (by omega)
    simp only [slices_ContainsFunc_sint_int.f, slices_IndexFunc_sint_int.f]
    have hr' : slices_IndexFunc_sint_int.l0 k l φ (l.length : Int) 0 = some r := by simpa using hr
    rw [hr']; simp only [Option.bind_some, hq]; simp⟩
theorem areWithin_ev (l : List Int) (hl : l.length ≤ 1048576) (a b : Int) : Ev (fun k => impl_areWithin.f k l a b) (allB l a b) := by
  refine ev_eq ((contains_int_ev l hl (fun x => impl_areWithin_1.f x a b) (fun x => !decide (a ≤ x ∧ x ≤ b)) (fun x _ => by simp only [impl_areWithin_1.f, within_is, Option.bind_some])).bind (Ev.now (!_))) ?_
  unfold allB; rw [List.all_eq_not_any_not]
theorem AreSocks_ev (l : List Int) (hl : l.length ≤ 1048576) : Ev (fun k => impl_AreSocks.f k l) (socksB l) := by
  unfold socksB impl_AreSocks.f
  simp only [within_is, Option.bind_some]
  by_cases h : 1 ≤ l.length ∧ l.length ≤ 8
  · have h' : (1 : Int) ≤ (l.length : Int) ∧ (l.length : Int) ≤ 8 := by omega
    simp only [h, h', and_self, decide_true, if_true, Bool.true_and]
    refine (areWithin_ev l hl 0 20).bind ?_
    cases allB l 0 20
    · exact Ev.now _
    · simp only [if_true, Bool.true_and]; exact (total_ev l hl).bind (Ev.now _)
  · have h' : ¬ ((1 : Int) ≤ (l.length : Int) ∧ (l.length : Int) ≤ 8) := by omega
    simp only [h, h', decide_false, Bool.false_eq_true, if_false, Bool.false_and]; exact Ev.now _
theorem soGood_ev (l : List Int) (hl : l.length ≤ 1048576) : Ev (fun k => spec_soGood.f k l) (socksB l) := by
  unfold socksB spec_soGood.f
  simp only [l1In_is, Option.bind_some]
  by_cases h : 1 ≤ l.length ∧ l.length ≤ 8
  · have h' : (1 : Int) ≤ (l.length : Int) ∧ (l.length : Int) ≤ 8 := by omega
    simp only [h, h', and_self, decide_true, if_true, Bool.true_and]
    refine (l1All_ev l hl 0 20).bind ?_
    cases allB l 0 20
    · exact Ev.now _
    · simp only [if_true, Bool.true_and]; exact (soSum_ev l hl).bind (Ev.now _)
  · have h' : ¬ ((1 : Int) ≤ (l.length : Int) ∧ (l.length : Int) ≤ 8) := by omega
    simp only [h, h', decide_false, Bool.false_eq_true, if_false, Bool.false_and]; exact Ev.now _
/-! ### How often each number stands in a list -/
/-- How often each of so many numbers stands in a list, on top of acc; false if one is none of them, or stands there more than twice. -/
def timesR (p : Int) : List Int → List Int → List Int × Bool
  | [], acc => (acc, true)
  | x :: xs, acc => if 0 ≤ x ∧ x ≤ p - 1 then (if rd acc x = 2 then ([], false) else timesR p xs (acc.set x.toNat (wrap64 (rd acc x + 1)))) else ([], false)
theorem times_loop (p : Int) (hp0 : 0 ≤ p) (hp1 : p ≤ 1048576) (l : List Int) (hl : l.length ≤ 1048576) (d : Nat) : ∀ (n k : Nat) (acc : List Int), (acc.length : Int) = p → n + d = l.length → d < k →
    impl_times.l0 k p acc l (l.length : Int) n = some (timesR p (l.drop n) acc) := by
  induction d with
  | zero =>
    intro n k acc ha hn hk
    obtain ⟨k, rfl⟩ : ∃ m, k = m + 1 := ⟨k - 1, by omega⟩
    simp only [impl_times.l0]; rw [if_neg (by omega)]
    obtain rfl : n = l.length := by omega
    simp [timesR]
  | succ d ih =>
    intro n k acc ha hn hk
    obtain ⟨k, rfl⟩ : ∃ m, k = m + 1 := ⟨k - 1, by omega⟩
    have hlt : n < l.length := by omega
    simp only [impl_times.l0, within_is, Option.bind_some]
    rw [if_pos (by omega), if_pos (by omega), if_pos (by omega), rdI l n hlt, w1 (by omega), w0 (x := p - 1) (by omega) (by omega), List.drop_eq_getElem_cons hlt]
    simp only [timesR]
    by_cases hx : 0 ≤ l[n] ∧ l[n] ≤ p - 1
    · rw [if_pos (by simpa using hx), if_pos hx.1, if_pos (by omega), if_pos hx]
      by_cases h2 : rd acc l[n] = 2
      · rw [if_pos h2, if_pos h2]
      · rw [if_neg h2, if_neg h2]
        exact ih (n + 1) k _ (by simpa using ha) (by omega) (by omega)
    · rw [if_neg (by simpa using hx), if_neg hx]
theorem times_ev (p : Int) (hp0 : 0 ≤ p) (hp1 : p ≤ 1048576) (l : List Int) (hl : l.length ≤ 1048576) : Ev (fun k => impl_times.f k p l) (timesR p l (List.replicate p.toNat 0)) :=
  ⟨l.length + 1, fun k hk => by
    show impl_times.f k p l = _
    unfold impl_times.f
    rw [if_pos hp0, if_pos (by omega)]
    exact (times_loop p hp0 hp1 l hl l.length 0 k _ (by simp; omega) (by omega) (by omega)).trans (by simp)⟩
theorem laCounts_loop (p : Int) (hp0 : 0 ≤ p) (hp1 : p ≤ 1048576) (l : List Int) (hl : l.length ≤ 1048576) (d : Nat) : ∀ (n k : Nat) (acc : List Int), (acc.length : Int) = p → n + d = l.length → d < k →
    spec_laCounts.l0 k p acc l (l.length : Int) n = some (timesR p (l.drop n) acc) := by
  induction d with
  | zero =>
    intro n k acc ha hn hk
    obtain ⟨k, rfl⟩ : ∃ m, k = m + 1 := ⟨k - 1, by omega⟩
    simp only [spec_laCounts.l0]; rw [if_neg (by omega)]
    obtain rfl : n = l.length := by omega
    simp [timesR]
  | succ d ih =>
    intro n k acc ha hn hk
    obtain ⟨k, rfl⟩ : ∃ m, k = m + 1 := ⟨k - 1, by omega⟩
    have hlt : n < l.length := by omega
    simp only [spec_laCounts.l0, l1In_is, Option.bind_some]
    rw [if_pos (by omega), if_pos (by omega), if_pos (by omega), rdI l n hlt, w1 (by omega), w0 (x := p - 1) (by omega) (by omega), List.drop_eq_getElem_cons hlt]
    simp only [timesR]
    by_cases hx : 0 ≤ l[n] ∧ l[n] ≤ p - 1
    · rw [if_pos (by simpa using hx), if_pos hx.1, if_pos (by omega), if_pos hx]
      by_cases h2 : rd acc l[n] = 2
      · rw [if_pos h2, if_pos h2]
      · rw [if_neg h2, if_neg h2]
        exact ih (n + 1) k _ (by simpa using ha) (by omega) (by omega)
    · rw [if_neg (by simpa using hx), if_neg hx]
theorem laCounts_ev (p : Int) (hp0 : 0 ≤ p) (hp1 : p ≤ 1048576) (l : List Int) (hl : l.length ≤ 1048576) : Ev (fun k => spec_laCounts.f k p l) (timesR p l (List.replicate p.toNat 0)) :=
  ⟨l.length + 1, fun k hk => by
    show spec_laCounts.f k p l = _
    unfold spec_laCounts.f
    rw [if_pos hp0, if_pos (by omega)]
    exact (laCounts_loop p hp0 hp1 l hl l.length 0 k _ (by simp; omega) (by omega) (by omega)).trans (by simp)⟩
/-! ### Rising lists -/
/-- Does the list rise (not strictly) from place n on to its end? -/
def risesB (l : List Int) (n : Nat) : Bool := (List.range (l.length - n)).all fun i => decide (l.getD (n + i - 1) 0 ≤ l.getD (n + i) 0)
theorem rises_step (l : List Int) (n : Nat) (h : n < l.length) : risesB l n = (decide (l.getD (n - 1) 0 ≤ l.getD n 0) && risesB l (n + 1)) := by
  unfold risesB
  rw [show l.length - n = (l.length - (n + 1)) + 1 by omega, List.range_succ_eq_map, List.all_cons, List.all_map]
  congr 1
  refine congrArg (fun f => List.all _ f) (funext fun i => ?_)
  simp only [Function.comp]
  rw [show n + (i + 1) - 1 = n + 1 + i - 1 by omega, show n + (i + 1) = n + 1 + i by omega]
theorem rises_last (l : List Int) (n : Nat) (h : l.length ≤ n) : risesB l n = true := by
  unfold risesB; rw [show l.length - n = 0 by omega]; rfl
/-- Does it rise up to place n? -/
def risesTo (l : List Int) (n : Nat) : Bool := (List.range n).all fun i => decide (l.getD i 0 ≤ l.getD (i + 1) 0)
theorem rises_to (l : List Int) : risesB l 1 = risesTo l (l.length - 1) := by
  unfold risesB risesTo
  refine congrArg (fun f => List.all _ f) (funext fun i => ?_)
  rw [show 1 + i - 1 = i by omega, show 1 + i = i + 1 by omega]
theorem sorted_loop (l : List Int) (hl : l.length ≤ 1048576) (n : Nat) : ∀ (k : Nat), n < l.length → n < k → slices_IsSorted_sint_int.l0 k l n = some (risesTo l n) := by
  induction n with
  | zero =>
    intro k hn hk
    obtain ⟨k, rfl⟩ : ∃ m, k = m + 1 := ⟨k - 1, by omega⟩
    simp only [slices_IsSorted_sint_int.l0]; rw [if_neg (by omega)]; rfl
  | succ n ih =>
    intro k hn hk
    obtain ⟨k, rfl⟩ : ∃ m, k = m + 1 := ⟨k - 1, by omega⟩
    have e : wrap64 (((n + 1 : Nat) : Int) - 1) = (n : Int) := by unfold wrap64; omega
    simp only [slices_IsSorted_sint_int.l0, cmp_Less_int.f, cmp_isNaN_int.f, Option.bind_some, e]
    rw [if_pos (by omega), if_pos (by omega), if_pos (by omega), if_pos (by omega), if_pos (by omega), rdI l (n + 1) hn, rdI l n (by omega)]
    simp only [bne_self_eq_false, Bool.false_eq_true, if_false, Option.bind_some]
    unfold risesTo
    rw [List.range_succ, List.all_append, ih k (by omega) (by omega)]
    have g1 : l.getD n 0 = l[n] := by simp [List.getD_eq_getElem?_getD, show n < l.length by omega]
    have g2 : l.getD (n + 1) 0 = l[n + 1] := by simp [List.getD_eq_getElem?_getD, hn]
    simp only [List.all_cons, List.all_nil, Bool.and_true, g1, g2, decide_eq_true_eq]
    by_cases h : l[n + 1] < l[n]
    · rw [if_pos h]; simp [show ¬ l[n] ≤ l[n + 1] by omega]
    · rw [if_neg h]; simp [show l[n] ≤ l[n + 1] by omega, risesTo]
theorem sorted_ev (l : List Int) (hl : l.length ≤ 1048576) : Ev (fun k => slices_IsSorted_sint_int.f k l) (risesB l 1) :=
  ⟨l.length + 1, fun k hk => by
    show slices_IsSorted_sint_int.f k l = _
    unfold slices_IsSorted_sint_int.f
    rcases Nat.eq_zero_or_pos l.length with h0 | h0
    · obtain ⟨k, rfl⟩ : ∃ m, k = m + 1 := ⟨k - 1, by omega⟩
      have e : wrap64 ((l.length : Int) - 1) = -1 := by unfold wrap64; omega
      rw [e]; simp only [slices_IsSorted_sint_int.l0]; rw [if_neg (by omega), rises_last l 1 (by omega)]
    · have e : wrap64 ((l.length : Int) - 1) = ((l.length - 1 : Nat) : Int) := by unfold wrap64; omega
      rw [e, sorted_loop l hl (l.length - 1) k (by omega) (by omega), rises_to]⟩
theorem laIs_loop (p : Int) (hp0 : 0 ≤ p) (hp1 : p ≤ 1048576) (l : List Int) (hl : l.length ≤ 1048576) (d : Nat) : ∀ (n : Nat), 1 ≤ n → n + d = max l.length n →
    Ev (fun k => spec_laIs.l0 k p l n) (risesB l n && (timesR p l (List.replicate p.toNat 0)).2) := by
  induction d with
  | zero =>
    intro n h1 hn
    refine Ev.step (f := fun k => (spec_laCounts.f k p l).bind fun b => some b.2) (fun k => ?_) (ev_eq ((laCounts_ev p hp0 hp1 l hl).bind (Ev.now _)) (by rw [rises_last l n (by omega)]; rfl))
    simp only [spec_laIs.l0]; rw [if_neg (by omega)]
  | succ d ih =>
    intro n h1 hn
    have hlt : n < l.length := by omega
    have e : wrap64 ((n : Int) - 1) = ((n - 1 : Nat) : Int) := by unfold wrap64; omega
    refine Ev.step (f := fun k => if l[n - 1] > l[n] then some false else spec_laIs.l0 k p l ((n + 1 : Nat) : Int)) (fun k => ?_) ?_
    · simp only [spec_laIs.l0, e]
      rw [if_pos (by omega), if_pos (by omega), if_pos (by omega), if_pos (by omega), rdI l (n - 1) (by omega), rdI l n hlt, w1 (by omega)]
    · have g1 : l.getD (n - 1) 0 = l[n - 1] := by simp [List.getD_eq_getElem?_getD, show n - 1 < l.length by omega]
      have g2 : l.getD n 0 = l[n] := by simp [List.getD_eq_getElem?_getD, hlt]
      rw [rises_step l n hlt, g1, g2]
      by_cases h : l[n - 1] > l[n]
      · simp only [if_pos h]; refine ev_eq (Ev.now _) ?_; simp [show ¬ l[n - 1] ≤ l[n] by omega]
      · simp only [if_neg h]; refine ev_eq (ih (n + 1) (by omega) (by omega)) ?_; simp [show l[n - 1] ≤ l[n] by omega]
def basketB (p : Int) (l : List Int) : Bool := decide (1 ≤ p ∧ p ≤ 20) && (risesB l 1 && (timesR p l (List.replicate p.toNat 0)).2)
theorem laBasket_ev (p : Int) (l : List Int) (hl : l.length ≤ 1048576) : Ev (fun k => spec_laBasket.f k p l) (basketB p l) := by
  unfold basketB spec_laBasket.f
  simp only [l1In_is, Option.bind_some]
  by_cases h : 1 ≤ p ∧ p ≤ 20
  · simp only [h, and_self, decide_true, if_true, Bool.true_and]
    refine (show Ev (fun k => spec_laIs.f k p l) _ from ?_).bind (Ev.now _)
    by_cases h1 : 1 ≤ l.length
    · exact laIs_loop p (by omega) (by omega) l hl (l.length - 1) 1 (by omega) (by omega)
    · exact laIs_loop p (by omega) (by omega) l hl 0 1 (by omega) (by omega)
  · simp only [h, decide_false, Bool.false_eq_true, if_false, Bool.false_and]; exact Ev.now _
theorem isBasket_ev (p : Int) (l : List Int) (hl : l.length ≤ 1048576) : Ev (fun k => impl_isBasket.f k p l) (basketB p l) := by
  unfold basketB impl_isBasket.f impl_IsBasket.f impl_arePairs.f
  simp only [within_is, Option.bind_some]
  by_cases h : 1 ≤ p ∧ p ≤ 20
  · simp only [h, and_self, decide_true, if_true, Bool.true_and]
    have ht := times_ev p (by omega) (by omega) l hl
    refine Ev.bind (a := ((risesB l 1 && (timesR p l (List.replicate p.toNat 0)).2), true)) ?_ (Ev.now _)
    refine ht.bind ?_
    cases h2 : (timesR p l (List.replicate p.toNat 0)).2
    · simp only [Bool.false_eq_true, if_false, Bool.and_false]; exact Ev.now _
    · simp only [if_true, Bool.and_true]; exact (sorted_ev l hl).bind (Ev.now _)
  · simp only [h, decide_false, Bool.false_eq_true, if_false, Bool.false_and, Option.bind_some]; exact Ev.now _
/-! ### Piles -/
theorem timesR_two (p : Nat) : ∀ (l acc : List Int), acc.length = p → (∀ v, v < p → 0 ≤ acc.getD v 0 ∧ acc.getD v 0 ≤ 2) →
    ((timesR p l acc).2 = true ↔ (∀ x ∈ l, 0 ≤ x ∧ x ≤ (p : Int) - 1) ∧ ∀ v : Nat, v < p → acc.getD v 0 + (l.count (v : Int) : Int) ≤ 2) := by
  intro l
  induction l with
  | nil =>
    intro acc ha h
    simp only [timesR, List.count_nil, true_iff]
    exact ⟨(fun x hx => by cases hx), fun v hv => by have := h v hv; omega⟩
  | cons x xs ih =>
    intro acc ha h
    simp only [timesR]
    by_cases hx : 0 ≤ x ∧ x ≤ (p : Int) - 1
    · rw [if_pos hx]
      have hxp : x.toNat < p := by omega
      have hxe : ((x.toNat : Nat) : Int) = x := by omega
      have hb := h x.toNat hxp
      have hrd : rd acc x = acc.getD x.toNat 0 := rfl
      by_cases h2 : rd acc x = 2
      · rw [if_pos h2]
        simp only [Bool.false_eq_true, false_iff, not_and]
        intro _ hc
        have := hc x.toNat hxp
        rw [hxe, List.count_cons_self] at this
        omega
      · rw [if_neg h2, hrd, w0 (by omega) (by omega)]
        rw [hrd] at h2
        have hg : ∀ v, (acc.set x.toNat (acc.getD x.toNat 0 + 1)).getD v 0 = if v = x.toNat then acc.getD x.toNat 0 + 1 else acc.getD v 0 := fun v => getD_set acc 0 x.toNat v _ (by omega)
        rw [ih _ (by simpa using ha) (fun v hv => by rw [hg]; have := h v hv; split <;> omega)]
        refine and_congr ?_ (forall_congr' fun v => imp_congr_right fun hv => ?_)
        · simp [hx]
        · rw [hg, List.count_cons]
          by_cases hvx : v = x.toNat
          · subst hvx; simp only [if_true, hxe, beq_self_eq_true]; omega
          · rw [if_neg hvx]
            have : (x == (v : Int)) = false := by simp; omega
            rw [this]; simp
    · rw [if_neg hx]
      simp only [Bool.false_eq_true, false_iff, not_and]
      intro hc _
      exact hx (hc x (by simp))
theorem count_sum (p : Nat) (l : List Int) (h : ∀ x ∈ l, 0 ≤ x ∧ x ≤ (p : Int) - 1) : ((List.range p).map fun v : Nat => l.count (v : Int)).sum = l.length := by
  induction l with
  | nil => simp; induction p with
    | zero => rfl
    | succ p ih => simp [List.range_succ, ih (fun x hx => by cases hx)]
  | cons x xs ih =>
    have h1 := ih fun y hy => h y (by simp [hy])
    have hx := h x (by simp)
    have key : ∀ q : Nat, ((List.range q).map fun v : Nat => (x :: xs).count (v : Int)).sum = ((List.range q).map fun v : Nat => xs.count (v : Int)).sum + if x.toNat < q then 1 else 0 := by
      intro q
      induction q with
      | zero => simp
      | succ q ihq =>
        rw [List.range_succ, List.map_append, List.map_append, List.sum_append, List.sum_append, ihq]
        simp only [List.map_cons, List.map_nil, List.sum_cons, List.sum_nil, Nat.add_zero]
        rw [List.count_cons]
        by_cases e : x.toNat = q
        · have : (x == (q : Int)) = true := by simp; omega
          rw [if_neg (show ¬ x.toNat < q by omega), if_pos this, if_pos (show x.toNat < q + 1 by omega)]; omega
        · have : (x == (q : Int)) = false := by simp; omega
          rw [this]
          by_cases e2 : x.toNat < q
          · rw [if_pos e2, if_pos (show x.toNat < q + 1 by omega)]; simp; omega
          · rw [if_neg e2, if_neg (show ¬ x.toNat < q + 1 by omega)]; simp
    rw [key p, h1, if_pos (by omega), List.length_cons]
theorem sum_le_two (f : Nat → Nat) (p : Nat) (h : ∀ v, v < p → f v ≤ 2) : ((List.range p).map f).sum ≤ 2 * p ∧ (((List.range p).map f).sum = 2 * p → ∀ v, v < p → f v = 2) := by
  induction p with
  | zero => exact ⟨by simp, fun _ v hv => by omega⟩
  | succ p ih =>
    obtain ⟨h1, h2⟩ := ih fun v hv => h v (by omega)
    have hp := h p (by omega)
    simp only [List.range_succ, List.map_append, List.sum_append, List.map_cons, List.map_nil, List.sum_cons, List.sum_nil, Nat.add_zero]
    refine ⟨by omega, fun e v hv => ?_⟩
    by_cases hvp : v = p
    · subst hvp; omega
    · exact h2 (by omega) v (by omega)
theorem twice_iff (p : Nat) (l : List Int) (hl : l.length = 2 * p) (h : ∀ x ∈ l, 0 ≤ x ∧ x ≤ (p : Int) - 1) :
    (∀ v : Nat, v < p → (l.count (v : Int) : Int) ≤ 2) ↔ ∀ x ∈ l, l.count x = 2 := by
  constructor
  · intro hc x hx
    have hs := count_sum p l h
    have h2 := (sum_le_two (fun v : Nat => l.count (v : Int)) p (fun v hv => by have := hc v hv; omega)).2 (by omega) x.toNat (by have := h x hx; omega)
    have hxe : ((x.toNat : Nat) : Int) = x := by have := h x hx; omega
    rw [hxe] at h2; exact h2
  · intro hc v hv
    by_cases hm : (v : Int) ∈ l
    · have := hc _ hm; omega
    · rw [List.count_eq_zero_of_not_mem hm]; omega
def pileB (l : List Int) : Bool := decide (l.length % 2 = 0 ∧ 1 ≤ l.length / 2 ∧ l.length / 2 ≤ 8) && (timesR ((l.length / 2 : Nat) : Int) l (List.replicate (l.length / 2) 0)).2
theorem IsPile_ev (l : List Int) (hl : l.length ≤ 1048576) : Ev (fun k => impl_IsPile.f k l) (pileB l) := by
  unfold impl_IsPile.f
  refine (show Ev (fun k => impl_isTwice.f k l 8) (pileB l) from ?_).bind (Ev.now _)
  unfold pileB impl_isTwice.f
  have e : wrap64 ((l.length : Int) / 2) = ((l.length / 2 : Nat) : Int) := by unfold wrap64; omega
  simp only [within_is, Option.bind_some, e]
  by_cases h0 : l.length % 2 = 0
  · simp only [if_neg (show ¬ ((l.length : Int) % 2 = 1) by omega)]
    by_cases h1 : 1 ≤ l.length / 2 ∧ l.length / 2 ≤ 8
    · have h1' : (1 : Int) ≤ ((l.length / 2 : Nat) : Int) ∧ ((l.length / 2 : Nat) : Int) ≤ 8 := by omega
      simp only [h0, h1, h1', and_self, decide_true, if_true, Bool.true_and]
      exact ev_eq ((times_ev ((l.length / 2 : Nat) : Int) (by omega) (by omega) l hl).bind (Ev.now _)) (by rw [Int.toNat_natCast])
    · have h1' : ¬ ((1 : Int) ≤ ((l.length / 2 : Nat) : Int) ∧ ((l.length / 2 : Nat) : Int) ≤ 8) := by omega
      simp only [h0, h1, h1', and_false, decide_false, Bool.false_eq_true, if_false, Bool.false_and]; exact Ev.now _
  · simp only [if_pos (show ((l.length : Int) % 2 = 1) by omega), h0, false_and, decide_false, Bool.false_and]; exact Ev.now _
theorem piGood_in (x : Int) (l : List Int) (l31 : List Int) (x32 x33 : Int) (hl : l.length ≤ 16) (d : Nat) : ∀ (n : Nat) (c : Nat) (r : Bool), c ≤ n → n + d = l.length →
    Ev (fun k => if ((c : Int) + ((l.drop n).count x : Int)) = 2 then spec_piGood.l0 k l l31 x32 (wrap64 (x33 + 1)) else some false) r → Ev (fun k => spec_piGood.l1 k l x c l31 x32 x33 l (l.length : Int) n) r := by
  induction d with
  | zero =>
    intro n c r hc hn h
    obtain rfl : n = l.length := by omega
    refine Ev.step (f := fun k => if ((c : Int) + ((l.drop l.length).count x : Int)) = 2 then spec_piGood.l0 k l l31 x32 (wrap64 (x33 + 1)) else some false) (fun k => ?_) h
    simp only [spec_piGood.l1]; rw [if_neg (by omega)]; simp
  | succ d ih =>
    intro n c r hc hn h
    have hlt : n < l.length := by omega
    refine Ev.step (f := fun k => spec_piGood.l1 k l x (if l[n] = x then ((c + 1 : Nat) : Int) else (c : Int)) l31 x32 x33 l (l.length : Int) ((n + 1 : Nat) : Int)) (fun k => ?_) ?_
    · simp only [spec_piGood.l1]
      rw [if_pos (by omega), if_pos (by omega), if_pos (by omega), rdI l n hlt, w1 (n := n) (by omega), w1 (n := c) (by omega)]
      split <;> rfl
    · rw [List.drop_eq_getElem_cons hlt, List.count_cons] at h
      by_cases e : l[n] = x
      · simp only [if_pos e]
        refine ih (n + 1) (c + 1) r (by omega) (by omega) ?_
        rw [if_pos (by simpa using e)] at h
        refine Ev.congr (fun k => ?_) h
        have e2 : ((c + 1 : Nat) : Int) + ((l.drop (n + 1)).count x : Int) = (c : Int) + (((l.drop (n + 1)).count x + 1 : Nat) : Int) := by omega
        rw [e2]
      · simp only [if_neg e]
        refine ih (n + 1) c r (by omega) (by omega) ?_
        rw [if_neg (by simpa using e)] at h
        exact h
theorem piGood_loop (l : List Int) (hl : l.length ≤ 16) (d : Nat) : ∀ (n : Nat), n + d = l.length → Ev (fun k => spec_piGood.l0 k l l (l.length : Int) n) ((l.drop n).all fun x => decide (l.count x = 2)) := by
  induction d with
  | zero =>
    intro n hn
    refine ev_late 1 fun k => ?_
    obtain rfl : n = l.length := by omega
    simp only [spec_piGood.l0]; rw [if_neg (by omega)]; simp
  | succ d ih =>
    intro n hn
    have hlt : n < l.length := by omega
    refine Ev.step (f := fun k => spec_piGood.l1 k l l[n] ((0 : Nat) : Int) l (l.length : Int) n l (l.length : Int) ((0 : Nat) : Int)) (fun k => ?_) ?_
    · simp only [spec_piGood.l0]
      rw [if_pos (by omega), if_pos (by omega), if_pos (by omega), rdI l n hlt]; rfl
    · refine piGood_in l[n] l l (l.length : Int) n hl l.length 0 0 _ (Nat.le_refl _) (by omega) ?_
      rw [List.drop_zero, w1 (by omega), List.drop_eq_getElem_cons hlt, List.all_cons]
      by_cases e : l.count l[n] = 2
      · simp only [if_pos (show ((0 : Nat) : Int) + (l.count l[n] : Int) = 2 by omega), e, decide_true, Bool.true_and]
        exact ih (n + 1) (by omega)
      · simp only [if_neg (show ¬ ((0 : Nat) : Int) + (l.count l[n] : Int) = 2 by omega), e, decide_false, Bool.false_and]
        exact Ev.now _
theorem piGood_ev (l : List Int) (hl : l.length ≤ 1048576) : Ev (fun k => spec_piGood.f k l) (pileB l) := by
  unfold spec_piGood.f
  have stop : ∀ r, pileB l = false → Ev (fun k => spec_piGood.j0 k l true) r → r = false → Ev (fun k => spec_piGood.j0 k l true) (pileB l) := fun r h1 h2 h3 => by rw [h1, ← h3]; exact h2
  have no : Ev (fun k => spec_piGood.j0 k l true) false := ev_late 1 fun k => by simp [spec_piGood.j0]
  by_cases h0 : l.length = 0
  · simp only [if_pos (show (l.length : Int) = 0 by omega)]
    refine ev_eq no ?_; unfold pileB; simp [h0]
  · simp only [if_neg (show ¬ (l.length : Int) = 0 by omega)]
    by_cases h1 : l.length % 2 = 1
    · simp only [if_pos (show (l.length : Int) % 2 = 1 by omega)]
      refine ev_eq no ?_; unfold pileB; simp [h1]
    · simp only [if_neg (show ¬ (l.length : Int) % 2 = 1 by omega)]
      by_cases h2 : l.length > 16
      · simp only [if_pos (show (l.length : Int) > 16 by omega)]
        refine ev_eq no ?_; unfold pileB
        have : ¬ (l.length / 2 ≤ 8) := by omega
        simp [this]
      · simp only [if_neg (show ¬ (l.length : Int) > 16 by omega)]
        have e : wrap64 (wrap64 ((l.length : Int) / 2) - 1) = ((l.length / 2 : Nat) : Int) - 1 := by unfold wrap64; omega
        simp only [e]
        refine (l1All_ev l hl 0 _).bind ?_
        have hpb : pileB l = (timesR ((l.length / 2 : Nat) : Int) l (List.replicate (l.length / 2) 0)).2 := by
          unfold pileB
          have : (l.length % 2 = 0 ∧ 1 ≤ l.length / 2 ∧ l.length / 2 ≤ 8) := by omega
          simp [this]
        have ht := timesR_two (l.length / 2) l (List.replicate (l.length / 2) 0) (by simp) (fun v hv => by simp [List.getD_eq_getElem?_getD, hv])
        have hz : ∀ v, v < l.length / 2 → (List.replicate (l.length / 2) (0 : Int)).getD v 0 = 0 := fun v hv => by simp [List.getD_eq_getElem?_getD, hv]
        by_cases ha : allB l 0 (((l.length / 2 : Nat) : Int) - 1) = true
        · rw [ha]
          have ha' : ∀ x ∈ l, 0 ≤ x ∧ x ≤ ((l.length / 2 : Nat) : Int) - 1 := by simpa [allB] using ha
          refine Ev.step (f := fun k => spec_piGood.l0 k l l (l.length : Int) 0) (fun k => by simp [spec_piGood.j0]) ?_
          refine ev_eq (piGood_loop l (by omega) l.length 0 (by omega)) ?_
          rw [hpb, List.drop_zero, Bool.eq_iff_iff, ht]
          have h3 := twice_iff (l.length / 2) l (by omega) ha'
          simp only [List.all_eq_true, decide_eq_true_eq]
          rw [← h3]
          constructor
          · intro h; exact ⟨ha', fun v hv => by rw [hz v hv]; have := h v hv; omega⟩
          · intro h v hv; have := h.2 v hv; rw [hz v hv] at this; omega
        · have ha2 : allB l 0 (((l.length / 2 : Nat) : Int) - 1) = false := by simpa using ha
          rw [ha2]
          refine ev_eq no ?_
          rw [hpb]; symm
          rw [Bool.eq_false_iff]
          intro hc
          exact ha (by have := (ht.1 hc).1; simpa [allB] using this)
/-! ### Desks -/
theorem toDesk_ev (a : List Int) (p : Int) (b c : List Int) (ha : a.length ≤ 1048576) (hb : b.length ≤ 1048576) (hc : c.length ≤ 1048576) : Ev (fun k => laws_toDesk.f k a p b c) (a, p, b, c) :=
  (toIntS_ev a ha).bind ((toIntS_ev b hb).bind ((toIntS_ev c hc).bind (Ev.now _)))
theorem eqDesk_ev (a : List Int) (p : Int) (b c : List Int) (ha : a.length ≤ 1048576) (hb : b.length ≤ 1048576) (hc : c.length ≤ 1048576) : Ev (fun k => laws_eqDesk.f k a p b c a p b c) true := by
  unfold laws_eqDesk.f
  refine (eqIntS_ev a ha).bind ?_
  simp only [if_true]
  refine (eqIntS_ev b hb).bind ?_
  simp only [if_true]
  exact (eqIntS_ev c hc).bind (Ev.now _)
theorem szDesk_cases (a : List Int) (p : Int) (b c : List Int) (ha : a.length ≤ maxLen) (hb : b.length ≤ maxLen) (hc : c.length ≤ maxLen) :
    laws_szDesk.f a p b c 1048576 = some (-1) ∨ a.length ≤ 1048576 ∧ b.length ≤ 1048576 ∧ c.length ≤ 1048576 ∧ ∃ t, laws_szDesk.f a p b c 1048576 = some t ∧ 0 ≤ t := by
  unfold laws_szDesk.f
  by_cases h1 : a.length ≤ 1048576
  · rw [szIntS_small a _ (by omega) (by omega)]; simp only [Option.bind_some]; rw [if_neg (by omega)]
    by_cases h2 : (b.length : Int) ≤ 1048576 - (a.length : Int)
    · rw [szIntS_small b _ (by omega) h2]; simp only [Option.bind_some]; rw [if_neg (by omega)]
      by_cases h3 : (c.length : Int) ≤ 1048576 - (a.length : Int) - (b.length : Int)
      · rw [szIntS_small c _ (by omega) h3]; simp only [Option.bind_some]; rw [if_neg (by omega)]
        exact .inr ⟨h1, by omega, by omega, _, rfl, by omega⟩
      · rw [szIntS_big c _ (by omega) (by omega) (by omega) hc]; exact .inl rfl
    · rw [szIntS_big b _ (by omega) (by omega) (by omega) hb]; exact .inl rfl
  · rw [szIntS_big a _ (by omega) (by omega) (by omega) ha]; exact .inl rfl
def deskB (a : List Int) (p : Int) (b c : List Int) : Bool := socksB a && (basketB p b && pileB c)
theorem spec_IsDesk_ev (a : List Int) (p : Int) (b c : List Int) (ha : a.length ≤ 1048576) (hb : b.length ≤ 1048576) (hc : c.length ≤ 1048576) : Ev (fun k => spec_IsDesk.f k a p b c) (deskB a p b c) := by
  unfold spec_IsDesk.f deskB
  refine (show Ev (fun k => spec_coGood.f k a p b c) _ from ?_).bind (Ev.now _)
  unfold spec_coGood.f
  refine (soGood_ev a ha).bind ?_
  cases socksB a
  · exact Ev.now _
  · simp only [if_true, Bool.true_and]
    refine (laBasket_ev p b hb).bind ?_
    cases basketB p b
    · exact Ev.now _
    · simp only [if_true, Bool.true_and]
      exact (piGood_ev c hc).bind (Ev.now _)
theorem impl_IsDesk_ev (a : List Int) (p : Int) (b c : List Int) (ha : a.length ≤ 1048576) (hb : b.length ≤ 1048576) (hc : c.length ≤ 1048576) : Ev (fun k => impl_IsDesk.f k a p b c) (deskB a p b c) := by
  unfold impl_IsDesk.f deskB
  refine (AreSocks_ev a ha).bind ?_
  cases socksB a
  · exact Ev.now _
  · simp only [if_true, Bool.true_and]
    refine (isBasket_ev p b hb).bind ?_
    cases basketB p b
    · exact Ev.now _
    · simp only [if_true, Bool.true_and]
      exact (IsPile_ev c hc).bind (Ev.now _)
theorem FnExactIsDesk : laws_FnExactIsDesk.Pure := by
  intro a p b c ma _ _ mb _ mc _
  rcases szDesk_cases a p b c ma mb mc with h | ⟨ha, hb, hc, t, h, h0⟩
  · exact ⟨0, by unfold laws_FnExactIsDesk.f; rw [h]; rfl⟩
  · refine Ev.rounds (r := true) ?_
    unfold laws_FnExactIsDesk.f
    simp only [h, Option.bind_some]
    simp only [if_neg (show ¬ t < 0 by omega)]
    refine (toDesk_ev a p b c ha hb hc).bind ?_
    refine (spec_IsDesk_ev a p b c ha hb hc).bind ?_
    refine (toDesk_ev a p b c ha hb hc).bind ?_
    refine (impl_IsDesk_ev a p b c ha hb hc).bind ?_
    simp only [bne_self_eq_false, Bool.false_eq_true, if_false]
    refine (toDesk_ev a p b c ha hb hc).bind ?_
    exact (eqDesk_ev a p b c ha hb hc).bind (Ev.now _)
end Go.Proofs.Ytdddmkdidegngaa.Pure

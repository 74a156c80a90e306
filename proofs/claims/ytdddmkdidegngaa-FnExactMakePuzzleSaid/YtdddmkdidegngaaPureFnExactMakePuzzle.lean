/- The program's MakePuzzle answers as the reference's, for each list of socks that the law looks at, each count of clues and each seed; it leaves the socks as they were, and what it makes is its own. No condition. -/
import Derived.Test.YtdddmkdidegngaaPFnExactMakePuzzlex11
namespace Go.Proofs.Ytdddmkdidegngaa.Pure
open Go.RowKit Go.Proofs.Ytdddmkdidegngaa.PFnExactMakePuzzle Go.Proofs.YtdddmkdidegngaaW.PrintWords Go.Proofs.YtdddmkdidegngaaW.PrintLast
set_option linter.unusedVariables false
set_option linter.unusedSimpArgs false
/-! ### Plain words -/
theorem w1 {n : Nat} (h : n < 4611686018427387904) : wrap64 ((n : Int) + 1) = ((n + 1 : Nat) : Int) := by unfold wrap64; omega
theorem w0 {x : Int} (h1 : -9223372036854775808 ≤ x) (h2 : x ≤ 9223372036854775807) : wrap64 x = x := by unfold wrap64; omega
theorem wfi {x : Int} (h : (Lit.int .i64 x).wf = true) : -9223372036854775808 ≤ x ∧ x ≤ 9223372036854775807 := by
  simpa [Lit.wf, IntKind.min, IntKind.max, IntKind.signed, IntKind.bits] using h
theorem getD_nat {α : Type} (l : List α) (z : α) (n : Nat) (h : n < l.length) : l.getD ((n : Int)).toNat z = l[n] := by
  simp [List.getD_eq_getElem?_getD, h]
theorem fill_set {α β : Type} (f : α → β) (l : List α) (z : β) (n : Nat) (h : n < l.length) :
    ((l.take n).map f ++ List.replicate (l.length - n) z).set n (f l[n]) = (l.take (n + 1)).map f ++ List.replicate (l.length - (n + 1)) z := by
  obtain ⟨d, hd⟩ : ∃ d, l.length - n = d + 1 := ⟨l.length - n - 1, by omega⟩
  rw [List.set_append, if_neg (by simp; omega), List.take_succ_eq_append_getElem h]
  have h1 : n - ((l.take n).map f).length = 0 := by simp; omega
  have h2 : l.length - (n + 1) = d := by omega
  rw [h1, h2, hd, List.replicate_succ, List.set_cons_zero, List.map_append]
  simp
theorem getD_set {α : Type} (l : List α) (z : α) (i j : Nat) (v : α) (hi : i < l.length) : (l.set i v).getD j z = if j = i then v else l.getD j z := by
  by_cases h : j = i
  · subst h; simp [List.getD_eq_getElem?_getD, hi]
  · rw [if_neg h]; simp [List.getD_eq_getElem?_getD, Ne.symm h]
/-- A way that needs no rounds. -/
theorem ev_now {α : Type} {g : Nat → Option α} {r : α} (h : ∀ k, g k = some r) : Ev g r := ⟨0, fun k _ => h k⟩
theorem ev_late {α : Type} {g : Nat → Option α} {r : α} (n : Nat) (h : ∀ k, g (k + n) = some r) : Ev g r := ⟨n, fun k hk => by
  obtain ⟨m, rfl⟩ : ∃ m, k = m + n := ⟨k - n, by omega⟩
  exact h m⟩
theorem ev_eq {α : Type} {g : Nat → Option α} {r s : α} (h : Ev g r) (e : r = s) : Ev g s := e ▸ h
abbrev Clue := S44
theorem rdC (xs : List Clue) (i : Int) : rd_T44 xs i = xs.getD i.toNat z44 := rfl
abbrev zC : Clue := z44
theorem rdI (xs : List Int) (n : Nat) (h : n < xs.length) : rd xs (n : Int) = xs[n] := getD_nat xs 0 n h
theorem eqClueS_loop (l : List Clue) (hl : l.length ≤ 1048576) (d : Nat) : ∀ (n k : Nat), n + d = l.length → d < k → laws_eqClueS.l0 k l l n = some true := by
  induction d with
  | zero =>
    intro n k hn hk
    obtain ⟨k, rfl⟩ : ∃ m, k = m + 1 := ⟨k - 1, by omega⟩
    simp only [laws_eqClueS.l0]; rw [if_neg (by omega)]
  | succ d ih =>
    intro n k hn hk
    obtain ⟨k, rfl⟩ : ∃ m, k = m + 1 := ⟨k - 1, by omega⟩
    simp only [laws_eqClueS.l0, laws_eqClue.f, if_true, Option.bind_some]
    rw [if_pos (by omega), if_pos (by omega), if_pos (by omega), w1 (by omega)]
    exact ih (n + 1) k (by omega) (by omega)
theorem eqClueS_ev (l : List Clue) (hl : l.length ≤ 1048576) : Ev (fun k => laws_eqClueS.f k l l) true :=
  ⟨l.length + 1, fun k hk => by
    show laws_eqClueS.f k l l = _
    unfold laws_eqClueS.f
    rw [if_pos rfl]
    exact eqClueS_loop l hl l.length 0 k (by omega) (by omega)⟩
theorem eqPuzzle_ev (c : Int) (l : List Clue) (hl : l.length ≤ 1048576) : Ev (fun k => laws_eqPuzzle.f k c l c l) true := by
  refine Ev.congr (f := fun k => (laws_eqClueS.f k l l).bind fun t => (if t = true then (some true) else (some false))) (fun k => by unfold laws_eqPuzzle.f; rw [if_pos rfl]) ?_
  exact (eqClueS_ev l hl).bind (Ev.now _)
theorem set_mid {α : Type} (p q : List α) (x v : α) : (p ++ x :: q).set p.length v = p ++ v :: q := by
  induction p with
  | nil => rfl
  | cons a p ih => simp [ih]
theorem getD_mid {α : Type} (p q : List α) (x z : α) : (p ++ x :: q).getD p.length z = x := by
  simp [List.getD_eq_getElem?_getD]
/-! ### Clues: marks -/
def markC (a : Int) (n : Nat) : List Clue := (List.range n).map fun i : Nat => (⟨a + 3 * i, a + 3 * i + 1, a + 3 * i + 2⟩ : Clue)
theorem markC_len (a : Int) (n : Nat) : (markC a n).length = n := by simp [markC]
theorem markC_succ (a : Int) (n : Nat) : markC a (n + 1) = markC a n ++ [⟨a + 3 * n, a + 3 * n + 1, a + 3 * n + 2⟩] := by simp [markC, List.range_succ]
theorem markClueS_loop (a : Int) (h0 : 0 ≤ a) (h1 : a ≤ 1048576) (l : List Clue) (hl : l.length ≤ 1048577) (d : Nat) : ∀ (n k : Nat), n + d = l.length → d < k →
    laws_markClueS.l0 k (markC a n ++ l.drop n) (a + 3 * n) n = some (a + 3 * l.length, markC a l.length) := by
  induction d with
  | zero =>
    intro n k hn hk
    obtain ⟨k, rfl⟩ : ∃ m, k = m + 1 := ⟨k - 1, by omega⟩
    obtain rfl : n = l.length := by omega
    simp only [laws_markClueS.l0]; rw [if_neg (by simp [markC_len])]; simp
  | succ d ih =>
    intro n k hn hk
    obtain ⟨k, rfl⟩ : ∃ m, k = m + 1 := ⟨k - 1, by omega⟩
    have hlt : n < l.length := by omega
    have hd : l.drop n = l[n] :: l.drop (n + 1) := List.drop_eq_getElem_cons hlt
    have s : ∀ (x v : Clue), (markC a n ++ x :: l.drop (n + 1)).set ((n : Int)).toNat v = markC a n ++ v :: l.drop (n + 1) := fun x v => by
      have := set_mid (markC a n) (l.drop (n + 1)) x v; rw [markC_len] at this; simpa using this
    have g : ∀ (x : Clue), rd_T44 (markC a n ++ x :: l.drop (n + 1)) (n : Int) = x := fun x => by
      have := getD_mid (markC a n) (l.drop (n + 1)) x z44; rw [markC_len] at this; rw [rdC]; simpa using this
    simp only [laws_markClueS.l0, hd]
    rw [if_pos (by simp [markC_len]; omega), if_pos (by omega)]
    simp only [Option.bind_some, s, g]
    rw [w0 (x := a + 3 * n + 1) (by omega) (by omega), w0 (x := a + 3 * n + 1 + 1) (by omega) (by omega), w0 (x := a + 3 * n + 1 + 1 + 1) (by omega) (by omega), w1 (by omega)]
    have := ih (n + 1) k (by omega) (by omega)
    rw [markC_succ, List.append_assoc] at this
    have e1 : a + 3 * (n : Int) + 1 + 1 + 1 = a + 3 * ((n + 1 : Nat) : Int) := by omega
    have e2 : a + 3 * (n : Int) + 1 + 1 = a + 3 * (n : Int) + 2 := by omega
    rw [e1, e2]; exact this
theorem markPuzzle_ev (c a : Int) (h0 : 0 ≤ a) (h1 : a ≤ 1048576) (l : List Clue) (hl : l.length ≤ 1048577) : Ev (fun k => laws_markPuzzle.f k c l a) (a + 3 * l.length, markC a l.length) := by
  refine Ev.bind (a := (a + 3 * (l.length : Int), markC a l.length)) ⟨l.length + 1, fun k hk => ?_⟩ (Ev.now _)
  have := markClueS_loop a h0 h1 l hl l.length 0 k (by omega) (by omega)
  unfold laws_markClueS.f
  simpa [markC] using this
theorem heldClueS_loop (a : Int) (h0 : 0 ≤ a) (h1 : a ≤ 1048576) (m : Nat) (hl : m ≤ 1048577) (d : Nat) : ∀ (n k : Nat), n + d = m → d < k →
    laws_heldClueS.l0 k (markC a m) (a + 3 * n) n = some (a + 3 * m) := by
  induction d with
  | zero =>
    intro n k hn hk
    obtain ⟨k, rfl⟩ : ∃ m, k = m + 1 := ⟨k - 1, by omega⟩
    obtain rfl : n = m := by omega
    simp only [laws_heldClueS.l0]; rw [if_neg (by simp [markC_len])]
  | succ d ih =>
    intro n k hn hk
    obtain ⟨k, rfl⟩ : ∃ m, k = m + 1 := ⟨k - 1, by omega⟩
    have hlt : n < (markC a m).length := by rw [markC_len]; omega
    have g : rd_T44 (markC a m) (n : Int) = ⟨a + 3 * n, a + 3 * n + 1, a + 3 * n + 2⟩ := by
      rw [rdC, getD_nat _ _ n hlt]; simp [markC]
    simp only [laws_heldClueS.l0, g]
    rw [if_pos (by rw [markC_len]; omega), if_pos trivial, w0 (x := a + 3 * n + 1) (by omega) (by omega), if_pos rfl, w0 (x := a + 3 * n + 1 + 1) (by omega) (by omega), if_pos (by omega), w0 (x := a + 3 * n + 1 + 1 + 1) (by omega) (by omega), w1 (by omega)]
    have e1 : a + 3 * (n : Int) + 1 + 1 + 1 = a + 3 * ((n + 1 : Nat) : Int) := by omega
    rw [e1, if_pos (by omega)]; exact ih (n + 1) k (by omega) (by omega)
theorem heldPuzzle_ev (c a : Int) (h0 : 0 ≤ a) (h1 : a ≤ 1048576) (m : Nat) (hl : m ≤ 1048577) : Ev (fun k => laws_heldPuzzle.f k c (markC a m) a) (a + 3 * m) := by
  refine Ev.bind (a := a + 3 * (m : Int)) ⟨m + 1, fun k hk => ?_⟩ ?_
  · have := heldClueS_loop a h0 h1 m hl m 0 k (by omega) (by omega)
    show laws_heldClueS.f k (markC a m) a = _
    unfold laws_heldClueS.f
    simpa using this
  · simp only [if_neg (show ¬ (a + 3 * (m : Int) < 0) by omega)]; exact Ev.now _
theorem l1In_is (n a b : Int) : spec_l1In.f n a b = some (decide (a ≤ n ∧ n ≤ b)) := by
  unfold spec_l1In.f; by_cases h : n ≥ a <;> simp [h] <;> omega
theorem within_is (n a b : Int) : impl_within.f n a b = some (decide (a ≤ n ∧ n ≤ b)) := by
  unfold impl_within.f; by_cases h : a ≤ n <;> simp [h]
/-! ### Socks -/
def allB (l : List Int) (a b : Int) : Bool := l.all fun x => decide (a ≤ x ∧ x ≤ b)
def wsum : Int → List Int → Int
  | s, [] => s
  | s, x :: l => wsum (wrap64 (s + x)) l
def socksB (l : List Int) : Bool := decide (1 ≤ l.length ∧ l.length ≤ 8) && (allB l 0 20 && decide (wsum 0 l > 0))
theorem l1All_loop (a b : Int) (l : List Int) (hl : l.length ≤ 1048576) (d : Nat) : ∀ (n k : Nat), n + d = l.length → d < k → spec_l1All.l0 k a b l (l.length : Int) n = some (allB (l.drop n) a b) := by
  induction d with
  | zero =>
    intro n k hn hk
    obtain ⟨k, rfl⟩ : ∃ m, k = m + 1 := ⟨k - 1, by omega⟩
    simp only [spec_l1All.l0]; rw [if_neg (by omega)]
    obtain rfl : n = l.length := by omega
    simp [allB]
  | succ d ih =>
    intro n k hn hk
    obtain ⟨k, rfl⟩ : ∃ m, k = m + 1 := ⟨k - 1, by omega⟩
    have hlt : n < l.length := by omega
    simp only [spec_l1All.l0, l1In_is, Option.bind_some]
    rw [if_pos (by omega), if_pos (by omega), if_pos (by omega), rdI l n hlt, w1 (by omega), ih (n + 1) k (by omega) (by omega), List.drop_eq_getElem_cons hlt]
    unfold allB; rw [List.all_cons]
    cases decide (a ≤ l[n] ∧ l[n] ≤ b) <;> simp
theorem l1All_ev (l : List Int) (hl : l.length ≤ 1048576) (a b : Int) : Ev (fun k => spec_l1All.f k l a b) (allB l a b) :=
  ⟨l.length + 1, fun k hk => by
    show spec_l1All.f k l a b = _
    unfold spec_l1All.f
    exact (l1All_loop a b l hl l.length 0 k (by omega) (by omega)).trans (by simp)⟩
theorem soSum_loop (l : List Int) (hl : l.length ≤ 1048576) (d : Nat) : ∀ (n k : Nat) (s : Int), n + d = l.length → d < k → spec_soSum.l0 k s l (l.length : Int) n = some (wsum s (l.drop n)) := by
  induction d with
  | zero =>
    intro n k s hn hk
    obtain ⟨k, rfl⟩ : ∃ m, k = m + 1 := ⟨k - 1, by omega⟩
    simp only [spec_soSum.l0]; rw [if_neg (by omega)]
    obtain rfl : n = l.length := by omega
    simp [wsum]
  | succ d ih =>
    intro n k s hn hk
    obtain ⟨k, rfl⟩ : ∃ m, k = m + 1 := ⟨k - 1, by omega⟩
    have hlt : n < l.length := by omega
    simp only [spec_soSum.l0]
    rw [if_pos (by omega), if_pos (by omega), if_pos (by omega), rdI l n hlt, w1 (by omega), ih (n + 1) k _ (by omega) (by omega), List.drop_eq_getElem_cons hlt]
    rfl
theorem soSum_ev (l : List Int) (hl : l.length ≤ 1048576) : Ev (fun k => spec_soSum.f k l) (wsum 0 l) :=
  ⟨l.length + 1, fun k hk => by
    show spec_soSum.f k l = _
    unfold spec_soSum.f
    exact (soSum_loop l hl l.length 0 k 0 (by omega) (by omega)).trans (by simp)⟩
theorem total_loop (l : List Int) (hl : l.length ≤ 1048576) (d : Nat) : ∀ (n k : Nat) (s : Int), n + d = l.length → d < k → impl_total.l0 k s l (l.length : Int) n = some (wsum s (l.drop n)) := by
  induction d with
  | zero =>
    intro n k s hn hk
    obtain ⟨k, rfl⟩ : ∃ m, k = m + 1 := ⟨k - 1, by omega⟩
    simp only [impl_total.l0]; rw [if_neg (by omega)]
    obtain rfl : n = l.length := by omega
    simp [wsum]
  | succ d ih =>
    intro n k s hn hk
    obtain ⟨k, rfl⟩ : ∃ m, k = m + 1 := ⟨k - 1, by omega⟩
    have hlt : n < l.length := by omega
    simp only [impl_total.l0]
    rw [if_pos (by omega), if_pos (by omega), if_pos (by omega), rdI l n hlt, w1 (by omega), ih (n + 1) k _ (by omega) (by omega), List.drop_eq_getElem_cons hlt]
    rfl
theorem total_ev (l : List Int) (hl : l.length ≤ 1048576) : Ev (fun k => impl_total.f k l) (wsum 0 l) :=
  ⟨l.length + 1, fun k hk => by
    show impl_total.f k l = _
    unfold impl_total.f
    exact (total_loop l hl l.length 0 k 0 (by omega) (by omega)).trans (by simp)⟩
theorem index_int_loop (l : List Int) (hl : l.length ≤ 1048576) (φ : Int → Option Bool) (q : Int → Bool) (hφ : ∀ x ∈ l, φ x = some (q x)) (d : Nat) : ∀ (n k : Nat), n + d = l.length → d < k →
    ∃ r, slices_IndexFunc_sint_int.l0 k l φ (l.length : Int) n = some r ∧ (decide (r ≥ 0) = (l.drop n).any q) := by
  induction d with
  | zero =>
    intro n k hn hk
    obtain ⟨k, rfl⟩ : ∃ m, k = m + 1 := ⟨k - 1, by omega⟩
    obtain rfl : n = l.length := by omega
    exact ⟨-1, by simp only [slices_IndexFunc_sint_int.l0]; rw [if_neg (by omega)], by simp⟩
  | succ d ih =>
    intro n k hn hk
    obtain ⟨k, rfl⟩ : ∃ m, k = m + 1 := ⟨k - 1, by omega⟩
    have hlt : n < l.length := by omega
    have hx := hφ l[n] (List.getElem_mem hlt)
    obtain ⟨r, hr, hq⟩ := ih (n + 1) k (by omega) (by omega)
    rw [List.drop_eq_getElem_cons hlt, List.any_cons]
    cases h : q l[n]
    · refine ⟨r, ?_, by simpa [h] using hq⟩
      simp only [slices_IndexFunc_sint_int.l0]
      rw [if_pos (by omega), if_pos (by omega), if_pos (by omega), rdI l n hlt, hx, h, w1 (by omega)]
      simpa using hr
    · refine ⟨n, ?_, by simp⟩
      simp only [slices_IndexFunc_sint_int.l0]
      rw [if_pos (by omega), if_pos (by omega), if_pos (by omega), rdI l n hlt, hx, h]
      rfl
theorem contains_int_ev (l : List Int) (hl : l.length ≤ 1048576) (φ : Int → Option Bool) (q : Int → Bool) (hφ : ∀ x ∈ l, φ x = some (q x)) : Ev (fun k => slices_ContainsFunc_sint_int.f k l φ) (l.any q) :=
  ⟨l.length + 1, fun k hk => by
    show slices_ContainsFunc_sint_int.f k l φ = _
    obtain ⟨r, hr, hq⟩ := index_int_loop l hl φ q hφ l.length 0 k (by omega) (by omega)
    simp only [slices_ContainsFunc_sint_int.f, slices_IndexFunc_sint_int.f]
    have hr' : slices_IndexFunc_sint_int.l0 k l φ (l.length : Int) 0 = some r := by simpa using hr
    rw [hr']; simp only [Option.bind_some, hq]; simp⟩
theorem areWithin_ev (l : List Int) (hl : l.length ≤ 1048576) (a b : Int) : Ev (fun k => impl_areWithin.f k l a b) (allB l a b) := by
  refine ev_eq ((contains_int_ev l hl (fun x => impl_areWithin_1.f x a b) (fun x => !decide (a ≤ x ∧ x ≤ b)) (fun x _ => by simp only [impl_areWithin_1.f, within_is, Option.bind_some])).bind (Ev.now (!_))) ?_
  unfold allB; rw [List.all_eq_not_any_not]
theorem AreSocks_ev (l : List Int) (hl : l.length ≤ 1048576) : Ev (fun k => impl_AreSocks.f k l) (socksB l) := by
  unfold socksB impl_AreSocks.f
  simp only [within_is, Option.bind_some]
  by_cases h : 1 ≤ l.length ∧ l.length ≤ 8
  · have h' : (1 : Int) ≤ (l.length : Int) ∧ (l.length : Int) ≤ 8 := by omega
    simp only [h, h', and_self, decide_true, if_true, Bool.true_and]
    refine (areWithin_ev l hl 0 20).bind ?_
    cases allB l 0 20
    · exact Ev.now _
    · simp only [if_true, Bool.true_and]; exact (total_ev l hl).bind (Ev.now _)
  · have h' : ¬ ((1 : Int) ≤ (l.length : Int) ∧ (l.length : Int) ≤ 8) := by omega
    simp only [h, h', decide_false, Bool.false_eq_true, if_false, Bool.false_and]; exact Ev.now _
theorem soGood_ev (l : List Int) (hl : l.length ≤ 1048576) : Ev (fun k => spec_soGood.f k l) (socksB l) := by
  unfold socksB spec_soGood.f
  simp only [l1In_is, Option.bind_some]
  by_cases h : 1 ≤ l.length ∧ l.length ≤ 8
  · have h' : (1 : Int) ≤ (l.length : Int) ∧ (l.length : Int) ≤ 8 := by omega
    simp only [h, h', and_self, decide_true, if_true, Bool.true_and]
    refine (l1All_ev l hl 0 20).bind ?_
    cases allB l 0 20
    · exact Ev.now _
    · simp only [if_true, Bool.true_and]; exact (soSum_ev l hl).bind (Ev.now _)
  · have h' : ¬ ((1 : Int) ≤ (l.length : Int) ∧ (l.length : Int) ≤ 8) := by omega
    simp only [h, h', decide_false, Bool.false_eq_true, if_false, Bool.false_and]; exact Ev.now _
def clueB (c kd a b : Int) : Bool := decide (0 ≤ b ∧ b ≤ 15) && (if kd = 0 ∨ kd = 2 ∨ kd = 5 then a == 0 else if kd = 1 then decide (0 ≤ a ∧ a ≤ c - 1) else if kd = 3 then decide (1 ≤ a ∧ a ≤ 6) else if kd = 4 then decide (0 ≤ a ∧ a ≤ c - 1 ∧ b ≤ 1) else false)
/-! ### Hidden socks: a few, all looked at -/
def hiddenB (l : List Int) : Bool := decide (2 ≤ l.length ∧ l.length ≤ 3) && (allB l 0 5 && decide (wsum 0 l > 0))
def hiddenAll : Nat → List (List Int)
  | 0 => [[]]
  | n + 1 => (hiddenAll n).flatMap fun s => [0, 1, 2, 3, 4, 5].map fun x => s ++ [x]
theorem mem_hiddenAll : ∀ (n : Nat) (l : List Int), l.length = n → (∀ x ∈ l, 0 ≤ x ∧ x ≤ 5) → l ∈ hiddenAll n
  | 0, l, h, _ => by rw [List.length_eq_zero_iff.1 h]; exact List.mem_singleton.2 rfl
  | n + 1, l, h, hx => by
    have hne : l ≠ [] := by intro e; rw [e] at h; simp at h
    rw [← List.dropLast_concat_getLast hne]
    refine List.mem_flatMap.2 ⟨l.dropLast, mem_hiddenAll n _ (by simp [h]) (fun x hm => hx x ((List.dropLast_sublist l).subset hm)), List.mem_map.2 ⟨l.getLast hne, ?_, rfl⟩⟩
    have := hx _ (List.getLast_mem hne)
    simp only [List.mem_cons, List.not_mem_nil, or_false]; omega
def asked : Nat → List (Int × Int)
  | n => [(0, 0), (2, 0), (5, 0), (3, 1), (3, 2), (3, 3), (3, 4), (3, 5), (3, 6)] ++ (List.range n).flatMap fun (i : Nat) => [(1, (i : Int)), (4, (i : Int))]
/-- What is told of hidden socks: looked at for all of them. -/
def tellsB (n : Nat) : Bool := (hiddenAll n).all fun l => (asked n).all fun q => match impl_toldBy.f 300 q.1 q.2 l, spec_pzValue.f 300 q.1 q.2 l with
  | some x, some y => x == y
  | _, _ => false
theorem idx_int_mono (φ : Int → Option Bool) : ∀ (k : Nat) (l : List Int) (n i : Int), LeO (slices_IndexFunc_sint_int.l0 k l φ n i) (slices_IndexFunc_sint_int.l0 (k + 1) l φ n i)
  | 0, _, _, _ => LeO.none _
  | k + 1, l, n, i => LeO.ite (LeO.ite (LeO.ite (LeO.bind (LeO.refl _) fun t => LeO.ite (LeO.refl _) (idx_int_mono φ k l n _)) (LeO.refl _)) (LeO.refl _)) (LeO.refl _)
theorem contains_int_mono (φ : Int → Option Bool) (l : List Int) (k : Nat) : LeO (slices_ContainsFunc_sint_int.f k l φ) (slices_ContainsFunc_sint_int.f (k + 1) l φ) := LeO.bind (idx_int_mono φ k l _ _) fun _ => LeO.refl _
theorem areWithin_mono (l : List Int) (a b : Int) (k : Nat) : LeO (impl_areWithin.f k l a b) (impl_areWithin.f (k + 1) l a b) := LeO.bind (contains_int_mono _ l k) fun _ => LeO.refl _
theorem areSocks_mono (l : List Int) (k : Nat) : LeO (impl_AreSocks.f k l) (impl_AreSocks.f (k + 1) l) :=
  LeO.bind (LeO.refl _) fun _ => LeO.ite (LeO.bind (areWithin_mono l _ _ k) fun _ => LeO.ite (LeO.bind (impl_total.mono l k) fun _ => LeO.refl _) (LeO.refl _)) (LeO.refl _)
theorem surePairs_mono (l : List Int) (a : Int) (k : Nat) : LeO (impl_SurePairs.f k l a) (impl_SurePairs.f (k + 1) l a) :=
  LeO.bind (areSocks_mono l k) fun _ => LeO.ite (LeO.bind (impl_pairsOf.mono l k) fun _ => LeO.bind (LeO.refl _) fun _ => LeO.ite (LeO.bind (impl_worst.mono l _ k) fun _ => LeO.refl _) (LeO.refl _)) (LeO.refl _)
theorem told_loop_mono : ∀ (k : Nat) (x : Int) (l : List Int) (n i : Int), LeO (impl_toldBy.l0 k x l n i) (impl_toldBy.l0 (k + 1) x l n i)
  | 0, _, _, _, _ => LeO.none _
  | k + 1, x, l, n, i => LeO.ite (LeO.ite (LeO.ite (LeO.ite (told_loop_mono k _ l n _) (told_loop_mono k _ l n _)) (LeO.refl _)) (LeO.refl _)) (LeO.refl _)
theorem told_mono (kd a : Int) (l : List Int) (k : Nat) : LeO (impl_toldBy.f k kd a l) (impl_toldBy.f (k + 1) kd a l) :=
  LeO.ite (LeO.bind (impl_total.mono l k) fun _ => LeO.refl _) (LeO.ite (LeO.refl _) (LeO.ite (LeO.bind (impl_pairsOf.mono l k) fun _ => LeO.refl _) (LeO.ite (LeO.bind (surePairs_mono l a k) fun _ => LeO.refl _) (LeO.ite (LeO.refl _) (told_loop_mono k _ l _ _)))))
theorem tells2 : tellsB 2 = true := by decide +kernel
theorem tells3 : tellsB 3 = true := by decide +kernel
theorem mem_asked (n : Nat) (hn : 2 ≤ n ∧ n ≤ 3) (kd a b : Int) (h : clueB n kd a b = true) : (kd, a) ∈ asked n := by
  have hn' : n = 2 ∨ n = 3 := by omega
  unfold clueB at h
  simp only [Bool.and_eq_true, decide_eq_true_eq] at h
  obtain ⟨_, h⟩ := h
  split at h
  · rename_i hk
    have : a = 0 := by simpa using h
    subst this
    rcases hk with rfl | rfl | rfl <;> simp [asked]
  · split at h
    · rename_i h1; subst h1
      have h := of_decide_eq_true h
      rcases hn' with rfl | rfl
      · have : a = 0 ∨ a = 1 := by omega
        rcases this with rfl | rfl <;> decide
      · have : a = 0 ∨ a = 1 ∨ a = 2 := by omega
        rcases this with rfl | rfl | rfl <;> decide
    · split at h
      · rename_i h1; subst h1
        have h := of_decide_eq_true h
        have : a = 1 ∨ a = 2 ∨ a = 3 ∨ a = 4 ∨ a = 5 ∨ a = 6 := by omega
        rcases this with rfl | rfl | rfl | rfl | rfl | rfl <;> simp [asked]
      · split at h
        · rename_i h1; subst h1
          have h := of_decide_eq_true h
          rcases hn' with rfl | rfl
          · have : a = 0 ∨ a = 1 := by omega
            rcases this with rfl | rfl <;> decide
          · have : a = 0 ∨ a = 1 ∨ a = 2 := by omega
            rcases this with rfl | rfl | rfl <;> decide
        · cases h
/-- What is told: the same on both sides. -/
theorem told_of (n : Nat) (hn : 2 ≤ n ∧ n ≤ 3) (l : List Int) (hl : l ∈ hiddenAll n) (kd a b : Int) (h : clueB n kd a b = true) : ∃ r, Ev (fun k => impl_toldBy.f k kd a l) r ∧ Ev (fun k => spec_pzValue.f k kd a l) r := by
  have ht : tellsB n = true := by
    rcases (show n = 2 ∨ n = 3 by omega) with rfl | rfl
    · exact tells2
    · exact tells3
  have h1 := List.all_eq_true.1 (List.all_eq_true.1 ht l hl) _ (mem_asked n hn kd a b h)
  simp only at h1
  split at h1
  · rename_i x y hx hy
    have e : x = y := by simpa using h1
    subst e
    exact ⟨x, ⟨300, fun k hk => at_rounds (told_mono kd a l) hk hx⟩, ⟨300, fun k hk => at_rounds (spec_pzValue.mono kd a l) hk hy⟩⟩
  · cases h1
theorem hidden_mem (l : List Int) (h : hiddenB l = true) : (2 ≤ l.length ∧ l.length ≤ 3) ∧ l ∈ hiddenAll l.length := by
  unfold hiddenB allB at h
  simp only [Bool.and_eq_true, decide_eq_true_eq] at h
  exact ⟨h.1, mem_hiddenAll _ l rfl (fun x hx => by simpa using List.all_eq_true.1 h.2.1 x hx)⟩
theorem pzHidden_ev (l : List Int) (hl : l.length ≤ 1048576) : Ev (fun k => spec_pzHidden.f k l) (hiddenB l) := by
  unfold hiddenB spec_pzHidden.f
  simp only [spec_pzColours.f, l1In_is, Option.bind_some]
  by_cases h : 2 ≤ l.length ∧ l.length ≤ 3
  · have h' : (2 : Int) ≤ (l.length : Int) ∧ (l.length : Int) ≤ 3 := by omega
    simp only [h, h', and_self, decide_true, if_true, Bool.true_and]
    refine (l1All_ev l hl 0 5).bind ?_
    cases allB l 0 5
    · exact Ev.now _
    · simp only [if_true, Bool.true_and]; exact (soSum_ev l hl).bind (Ev.now _)
  · have h' : ¬ ((2 : Int) ≤ (l.length : Int) ∧ (l.length : Int) ≤ 3) := by omega
    simp only [h, h', decide_false, Bool.false_eq_true, if_false, Bool.false_and]; exact Ev.now _
theorem isHidden_ev (l : List Int) (hl : l.length ≤ 1048576) : Ev (fun k => impl_isHidden.f k l) (hiddenB l) := by
  unfold hiddenB impl_isHidden.f
  simp only [impl_isHiddenColours.f, within_is, Option.bind_some]
  by_cases h : 2 ≤ l.length ∧ l.length ≤ 3
  · have h' : (2 : Int) ≤ (l.length : Int) ∧ (l.length : Int) ≤ 3 := by omega
    simp only [h, h', and_self, decide_true, if_true, Bool.true_and]
    refine (areWithin_ev l hl 0 5).bind ?_
    cases allB l 0 5
    · exact Ev.now _
    · simp only [if_true, Bool.true_and]; exact (total_ev l hl).bind (Ev.now _)
  · have h' : ¬ ((2 : Int) ≤ (l.length : Int) ∧ (l.length : Int) ≤ 3) := by omega
    simp only [h, h', decide_false, Bool.false_eq_true, if_false, Bool.false_and]; exact Ev.now _
theorem eqIntS_loop (l : List Int) (hl : l.length ≤ 1048576) (d : Nat) : ∀ (n k : Nat), n + d = l.length → d < k → laws_eqIntS.l0 k l l n = some true := by
  induction d with
  | zero =>
    intro n k hn hk
    obtain ⟨k, rfl⟩ : ∃ m, k = m + 1 := ⟨k - 1, by omega⟩
    simp only [laws_eqIntS.l0]; rw [if_neg (by omega)]
  | succ d ih =>
    intro n k hn hk
    obtain ⟨k, rfl⟩ : ∃ m, k = m + 1 := ⟨k - 1, by omega⟩
    simp only [laws_eqIntS.l0, if_true]
    rw [if_pos (by omega), if_pos (by omega), if_pos (by omega), w1 (by omega)]
    exact ih (n + 1) k (by omega) (by omega)
theorem eqIntS_ev (l : List Int) (hl : l.length ≤ 1048576) : Ev (fun k => laws_eqIntS.f k l l) true :=
  ⟨l.length + 1, fun k hk => by
    show laws_eqIntS.f k l l = _
    unfold laws_eqIntS.f
    rw [if_pos rfl]
    exact eqIntS_loop l hl l.length 0 k (by omega) (by omega)⟩
/-! ### Lists of whole numbers: taken over, compared, summed -/
theorem toIntS_loop (l : List Int) (hl : l.length ≤ 1048576) (d : Nat) : ∀ (n k : Nat), n + d = l.length → d < k →
    laws_toIntS.l0 k l ((l.take n).map id ++ List.replicate (l.length - n) 0) n = some (l.map id) := by
  induction d with
  | zero =>
    intro n k hn hk
    obtain ⟨k, rfl⟩ : ∃ m, k = m + 1 := ⟨k - 1, by omega⟩
    simp only [laws_toIntS.l0]; rw [if_neg (by omega)]
    obtain rfl : n = l.length := by omega
    simp
  | succ d ih =>
    intro n k hn hk
    obtain ⟨k, rfl⟩ : ∃ m, k = m + 1 := ⟨k - 1, by omega⟩
    have hlt : n < l.length := by omega
    simp only [laws_toIntS.l0]
    rw [if_pos (by omega), if_pos (by omega), if_pos (by simp; omega), rdI l n hlt, w1 (by omega), Int.toNat_natCast]
    exact (congrArg (fun z => laws_toIntS.l0 k l z ((n + 1 : Nat) : Int)) (fill_set id l 0 n hlt)).trans (ih (n + 1) k (by omega) (by omega))
theorem toIntS_ev (l : List Int) (hl : l.length ≤ 1048576) : Ev (fun k => laws_toIntS.f k l) l :=
  ⟨l.length + 1, fun k hk => by
    show laws_toIntS.f k l = _
    unfold laws_toIntS.f
    rw [if_pos (by omega), if_pos (by simp; omega)]
    have h := toIntS_loop l hl l.length 0 k (by omega) (by omega)
    simpa using h⟩
/-! ### Lists of whole numbers: marks -/
def markI (a : Int) (n : Nat) : List Int := (List.range n).map fun i : Nat => a + (i : Int)
theorem markI_len (a : Int) (n : Nat) : (markI a n).length = n := by simp [markI]
theorem markI_succ (a : Int) (n : Nat) : markI a (n + 1) = markI a n ++ [a + (n : Int)] := by simp [markI, List.range_succ]
theorem markIntS_loop (a : Int) (h0 : 0 ≤ a) (h1 : a ≤ 1048576) (l : List Int) (hl : l.length ≤ 1048577) (d : Nat) : ∀ (n k : Nat), n + d = l.length → d < k →
    laws_markIntS.l0 k (markI a n ++ l.drop n) (a + (n : Int)) n = some (a + (l.length : Int), markI a l.length) := by
  induction d with
  | zero =>
    intro n k hn hk
    obtain ⟨k, rfl⟩ : ∃ m, k = m + 1 := ⟨k - 1, by omega⟩
    obtain rfl : n = l.length := by omega
    simp only [laws_markIntS.l0]; rw [if_neg (by simp [markI_len])]; simp
  | succ d ih =>
    intro n k hn hk
    obtain ⟨k, rfl⟩ : ∃ m, k = m + 1 := ⟨k - 1, by omega⟩
    have hlt : n < l.length := by omega
    have hd : l.drop n = l[n] :: l.drop (n + 1) := List.drop_eq_getElem_cons hlt
    have s : ∀ (x v : Int), (markI a n ++ x :: l.drop (n + 1)).set ((n : Int)).toNat v = markI a n ++ v :: l.drop (n + 1) := fun x v => by
      have := set_mid (markI a n) (l.drop (n + 1)) x v; rw [markI_len] at this; simpa using this
    simp only [laws_markIntS.l0, hd]
    rw [if_pos (by simp [markI_len]; omega), if_pos (by omega), s, w0 (x := a + (n : Int) + 1) (by omega) (by omega), w1 (by omega)]
    have := ih (n + 1) k (by omega) (by omega)
    rw [markI_succ, List.append_assoc] at this
    rw [show a + (n : Int) + 1 = a + ((n + 1 : Nat) : Int) by omega]; exact this
theorem markIntS_ev (a : Int) (h0 : 0 ≤ a) (h1 : a ≤ 1048576) (l : List Int) (hl : l.length ≤ 1048577) : Ev (fun k => laws_markIntS.f k l a) (a + (l.length : Int), markI a l.length) :=
  ⟨l.length + 1, fun k hk => by
    have := markIntS_loop a h0 h1 l hl l.length 0 k (by omega) (by omega)
    show laws_markIntS.f k l a = _
    unfold laws_markIntS.f
    simpa [markI] using this⟩
def nextZ (z : Int) : Int := (281 * z + 1103) % 10007
theorem nextZ_in (z : Int) : 0 ≤ nextZ z ∧ nextZ z ≤ 10006 := by unfold nextZ; omega
theorem next_is (z : Int) (h : 0 ≤ z ∧ z ≤ 10006) : spec_pzNext.f z = some (nextZ z) ∧ impl_MakePuzzle_1.f z = some (nextZ z) := by
  unfold spec_pzNext.f impl_MakePuzzle_1.f nextZ
  rw [w0 (x := 281 * z) (by omega) (by omega), w0 (x := z * 281) (by omega) (by omega), w0 (x := 281 * z + 1103) (by omega) (by omega), w0 (x := z * 281 + 1103) (by omega) (by omega),
    Int.tmod_eq_emod_of_nonneg (by omega), Int.tmod_eq_emod_of_nonneg (by omega), show z * 281 = 281 * z by omega]
  exact ⟨rfl, rfl⟩
def argOf (n : Nat) (kd y : Int) : Int := if kd = 1 ∨ kd = 4 then y % n else if kd = 3 then y % 6 + 1 else 0
theorem clue_of (n : Nat) (hn : 2 ≤ n ∧ n ≤ 3) (kd y : Int) (hk : 0 ≤ kd ∧ kd ≤ 5) (hy : 0 ≤ y) : clueB n kd (argOf n kd y) 0 = true := by
  have h1 : 0 ≤ y % (n : Int) := Int.emod_nonneg _ (by omega)
  have h2 : y % (n : Int) < n := Int.emod_lt_of_pos _ (by omega)
  have h3 : 0 ≤ y % 6 ∧ y % 6 < 6 := by omega
  unfold clueB argOf
  rcases (show kd = 0 ∨ kd = 1 ∨ kd = 2 ∨ kd = 3 ∨ kd = 4 ∨ kd = 5 by omega) with rfl | rfl | rfl | rfl | rfl | rfl <;> simp <;> omega
theorem pzOf_ev (n : Nat) (hn : 2 ≤ n ∧ n ≤ 3) (s : List Int) (hs : s.length = n) (kd y t : Int) (hy : 0 ≤ y ∧ y ≤ 10006) (ht : Ev (fun k => spec_pzValue.f k kd (argOf n kd y) s) t) : Ev (fun k => spec_pzOf.f k kd y s) (kd, argOf n kd y, t) := by
  subst hs
  unfold argOf at ht ⊢
  unfold spec_pzOf.f
  have hl : ¬ ((s.length : Int) = 0) := by omega
  by_cases h1 : kd = 1
  · subst h1
    simp only [true_or, if_true] at ht ⊢
    refine Ev.step (f := fun k => (spec_pzValue.f k 1 (Int.tmod y (s.length : Int)) s).bind fun t => some (1, Int.tmod y (s.length : Int), t)) (fun k => by simp [spec_pzOf.j0]; intro e; simp [e] at hn) ?_
    rw [Int.tmod_eq_emod_of_nonneg (by omega)]
    exact ht.bind (Ev.now _)
  · by_cases h4 : kd = 4
    · subst h4
      simp only [or_true, if_true] at ht ⊢
      refine Ev.step (f := fun k => (spec_pzValue.f k 4 (Int.tmod y (s.length : Int)) s).bind fun t => some (4, Int.tmod y (s.length : Int), t)) (fun k => by simp [spec_pzOf.j0]; intro e; simp [e] at hn) ?_
      rw [Int.tmod_eq_emod_of_nonneg (by omega)]
      exact ht.bind (Ev.now _)
    · have hb : (kd == 4) = false := by simpa using h4
      simp only [h1, h4, or_self, if_false, hb] at ht ⊢
      by_cases h3 : kd = 3
      · subst h3
        simp only [if_true] at ht ⊢
        refine Ev.step (f := fun k => (spec_pzValue.f k 3 (wrap64 (Int.tmod y 6 + 1)) s).bind fun t => some (3, wrap64 (Int.tmod y 6 + 1), t)) (fun k => by simp [spec_pzOf.j0]) ?_
        rw [Int.tmod_eq_emod_of_nonneg (by omega), w0 (by omega) (by omega)]
        exact ht.bind (Ev.now _)
      · simp only [h3, if_false] at ht ⊢
        exact Ev.step (f := fun k => (spec_pzValue.f k kd 0 s).bind fun t => some (kd, 0, t)) (fun k => by simp [spec_pzOf.j0, h3]) (ht.bind (Ev.now _))
theorem impl_turn (n : Nat) (hn : 2 ≤ n ∧ n ≤ 3) (s : List Int) (hs : s.length = n) (kd y t z c i m : Int) (acc : List Clue) (ha : acc.length ≤ 1048576) (hy : 0 ≤ y ∧ y ≤ 10006) (ht : Ev (fun k => impl_toldBy.f k kd (argOf n kd y) s) t) (r : Int × List Clue × Bool)
    (hr : Ev (fun k => impl_MakePuzzle.l0 k s z c (wrap64 (i + 1)) m (acc ++ [⟨kd, argOf n kd y, t⟩])) r) :
    Ev (fun k => if kd = 1 then impl_MakePuzzle.j2 k s z kd y 0 c i kd (kd == 1) m acc else impl_MakePuzzle.j2 k s z kd y 0 c i kd (kd == 4) m acc) r := by
  subst hs
  unfold argOf at ht hr
  have hl : ¬ ((s.length : Int) = 0) := by omega
  have hc : acc.length < 5864062014805 := by omega
  by_cases h1 : kd = 1
  · subst h1
    simp only [true_or, if_true] at ht hr ⊢
    refine Ev.step (f := fun k => (impl_toldBy.f k 1 (Int.tmod y (s.length : Int)) s).bind fun t => impl_MakePuzzle.l0 k s z c (wrap64 (i + 1)) m (acc ++ [⟨1, Int.tmod y (s.length : Int), t⟩])) (fun k => by simp only [impl_MakePuzzle.j2, hc, if_true, if_neg hl, beq_self_eq_true]) ?_
    rw [Int.tmod_eq_emod_of_nonneg (by omega)]
    exact ht.bind hr
  · by_cases h4 : kd = 4
    · subst h4
      simp only [or_true, if_true, show ¬ ((4 : Int) = 1) by omega, if_false] at ht hr ⊢
      refine Ev.step (f := fun k => (impl_toldBy.f k 4 (Int.tmod y (s.length : Int)) s).bind fun t => impl_MakePuzzle.l0 k s z c (wrap64 (i + 1)) m (acc ++ [⟨4, Int.tmod y (s.length : Int), t⟩])) (fun k => by simp only [impl_MakePuzzle.j2, hc, if_true, if_neg hl, beq_self_eq_true]) ?_
      rw [Int.tmod_eq_emod_of_nonneg (by omega)]
      exact ht.bind hr
    · have hb : (kd == 4) = false := by simpa using h4
      simp only [h1, h4, or_self, if_false, hb] at ht hr ⊢
      by_cases h3 : kd = 3
      · subst h3
        simp only [if_true] at ht hr ⊢
        refine Ev.step (f := fun k => (impl_toldBy.f k 3 (wrap64 (Int.tmod y 6 + 1)) s).bind fun t => impl_MakePuzzle.l0 k s z c (wrap64 (i + 1)) m (acc ++ [⟨3, wrap64 (Int.tmod y 6 + 1), t⟩])) (fun k => by simp only [impl_MakePuzzle.j2, hc, if_true, Bool.false_eq_true, if_false]) ?_
        rw [Int.tmod_eq_emod_of_nonneg (by omega), w0 (by omega) (by omega)]
        exact ht.bind hr
      · simp only [h3, if_false] at ht hr ⊢
        exact Ev.step (f := fun k => (impl_toldBy.f k kd 0 s).bind fun t => impl_MakePuzzle.l0 k s z c (wrap64 (i + 1)) m (acc ++ [⟨kd, 0, t⟩])) (fun k => by simp only [impl_MakePuzzle.j2, hc, if_true, Bool.false_eq_true, if_false, h3]) (ht.bind hr)
theorem make_loop (n : Nat) (hn : 2 ≤ n ∧ n ≤ 3) (s : List Int) (hs : s.length = n) (hm : s ∈ hiddenAll n) (c : Nat) (hc : c ≤ 6) (d : Nat) : ∀ (i : Nat) (z : Int) (acc : List Clue), i + d = c → acc.length = i → 0 ≤ z ∧ z ≤ 10006 →
    ∃ r : List Clue, r.length = c ∧ Ev (fun k => spec_MakePuzzle.l0 k s (d : Int) z (n : Int) acc) ((n : Int), r, true) ∧ Ev (fun k => impl_MakePuzzle.l0 k s z (c : Int) (i : Int) (n : Int) acc) ((n : Int), r, true) := by
  induction d with
  | zero =>
    intro i z acc hi ha hz
    refine ⟨acc, by omega, ev_late 1 fun k => ?_, ev_late 1 fun k => ?_⟩
    · simp only [spec_MakePuzzle.l0]; rw [if_neg (by simp)]
    · simp only [impl_MakePuzzle.l0]; rw [if_neg (by omega)]
  | succ d ih =>
    intro i z acc hi ha hz
    have hz1 := nextZ_in z
    have hz2 := nextZ_in (nextZ z)
    obtain ⟨kd, hkd⟩ : ∃ q, q = nextZ z % 6 := ⟨_, rfl⟩
    have hk : 0 ≤ kd ∧ kd ≤ 5 := by omega
    obtain ⟨t, hti, hts⟩ := told_of n hn s hm kd (argOf n kd (nextZ (nextZ z))) 0 (clue_of n hn kd _ hk hz2.1)
    obtain ⟨r, hr, h1, h2⟩ := ih (i + 1) (nextZ (nextZ z)) (acc ++ [⟨kd, argOf n kd (nextZ (nextZ z)), t⟩]) (by omega) (by simp [ha]) hz2
    have hmod : Int.tmod (nextZ z) 6 = kd := by rw [Int.tmod_eq_emod_of_nonneg (by omega), hkd]
    refine ⟨r, hr, ?_, ?_⟩
    · refine Ev.step (f := fun k => (spec_pzOf.f k kd (nextZ (nextZ z)) s).bind fun bt => if acc.length < 5864062014805 then spec_MakePuzzle.l0 k s (d : Int) (nextZ (nextZ z)) (n : Int) (acc ++ [⟨bt.1, bt.2.1, bt.2.2⟩]) else none) (fun k => ?_) ?_
      · simp only [spec_MakePuzzle.l0, (next_is z hz).1, (next_is _ hz1).1, Option.bind_some, hmod]
        rw [if_pos (by omega), w0 (x := ((d + 1 : Nat) : Int) - 1) (by omega) (by omega), show ((d + 1 : Nat) : Int) - 1 = (d : Int) by omega]
      · refine (pzOf_ev n hn s hs kd _ t hz2 hts).bind ?_
        simp only [if_pos (show acc.length < 5864062014805 by omega)]; exact h1
    · refine Ev.step (f := fun k => if kd = 1 then impl_MakePuzzle.j2 k s (nextZ (nextZ z)) kd (nextZ (nextZ z)) 0 (c : Int) (i : Int) kd (kd == 1) (n : Int) acc else impl_MakePuzzle.j2 k s (nextZ (nextZ z)) kd (nextZ (nextZ z)) 0 (c : Int) (i : Int) kd (kd == 4) (n : Int) acc) (fun k => ?_) ?_
      · simp only [impl_MakePuzzle.l0, (next_is z hz).2, (next_is _ hz1).2, Option.bind_some, hmod]
        rw [if_pos (by omega)]
      · refine impl_turn n hn s hs kd _ t _ _ _ _ acc (by omega) hz2 hti _ ?_
        rw [w1 (by omega)]; exact h2
theorem makes (l : List Int) (hl : l.length ≤ 1048576) (c z : Int) : ∃ r : Int × List Clue × Bool, r.2.1.length ≤ 1048576 ∧ Ev (fun k => spec_MakePuzzle.f k l c z) r ∧ Ev (fun k => impl_MakePuzzle.f k l c z) r := by
  have bad : ∃ r : Int × List Clue × Bool, r.2.1.length ≤ 1048576 ∧ Ev (fun k => spec_MakePuzzle.j0 k l c z true) r ∧ Ev (fun k => impl_MakePuzzle.j0 k l c true z) r :=
    ⟨(0, [], false), by simp, ev_late 1 fun k => by simp only [spec_MakePuzzle.j0, if_true], ev_late 1 fun k => by simp only [impl_MakePuzzle.j0, if_true]⟩
  unfold spec_MakePuzzle.f impl_MakePuzzle.f
  cases h : hiddenB l
  · obtain ⟨r, h0, h1, h2⟩ := bad
    exact ⟨r, h0, (ev_eq (pzHidden_ev l hl) h).bind (by simpa only [Bool.false_eq_true, if_false] using h1), (ev_eq (isHidden_ev l hl) h).bind (by simpa only [Bool.false_eq_true, if_false] using h2)⟩
  · by_cases hc : 0 ≤ c ∧ c ≤ 6
    · by_cases hz : 0 ≤ z ∧ z ≤ 9999
      · obtain ⟨hn, hm⟩ := hidden_mem l h
        obtain ⟨c, rfl⟩ : ∃ q : Nat, c = (q : Int) := ⟨c.toNat, by omega⟩
        obtain ⟨r, hr, h1, h2⟩ := make_loop l.length hn l rfl hm c (by omega) c 0 z [] (by omega) rfl (by omega)
        refine ⟨((l.length : Int), r, true), by simp only; omega, (ev_eq (pzHidden_ev l hl) h).bind ?_, (ev_eq (isHidden_ev l hl) h).bind ?_⟩
        · simp only [if_true, l1In_is, hc, hz, decide_true, and_self, Option.bind_some, Bool.not_true]
          exact Ev.step (f := fun k => spec_MakePuzzle.l0 k l (c : Int) z (l.length : Int) []) (fun k => by simp only [spec_MakePuzzle.j0, Bool.false_eq_true, if_false]) h1
        · simp only [if_true, within_is, hc, hz, decide_true, and_self, Option.bind_some, Bool.not_true]
          exact Ev.step (f := fun k => impl_MakePuzzle.l0 k l z (c : Int) 0 (l.length : Int) []) (fun k => by simp only [impl_MakePuzzle.j0, Bool.false_eq_true, if_false]) h2
      · obtain ⟨r, h0, h1, h2⟩ := bad
        exact ⟨r, h0, (ev_eq (pzHidden_ev l hl) h).bind (by simpa only [if_true, l1In_is, hc, hz, decide_true, decide_false, and_self, Option.bind_some, Bool.not_false] using h1), (ev_eq (isHidden_ev l hl) h).bind (by simpa only [if_true, within_is, hc, hz, decide_true, decide_false, and_self, Option.bind_some, Bool.not_false] using h2)⟩
    · obtain ⟨r, h0, h1, h2⟩ := bad
      exact ⟨r, h0, (ev_eq (pzHidden_ev l hl) h).bind (by simpa only [if_true, l1In_is, hc, decide_false, Option.bind_some, Bool.false_eq_true, if_false] using h1), (ev_eq (isHidden_ev l hl) h).bind (by simpa only [if_true, within_is, hc, decide_false, Option.bind_some, Bool.false_eq_true, if_false] using h2)⟩
theorem FnExactMakePuzzle : laws_FnExactMakePuzzle.Pure := by
  intro l c z _ _ _ _ _
  by_cases hl : l.length ≤ 1048576
  · obtain ⟨r, hr, h1, h2⟩ := makes l hl c z
    refine Ev.rounds (r := true) ?_
    unfold laws_FnExactMakePuzzle.f
    simp only [if_neg (show ¬ ((l.length : Int) > 1048576) by omega)]
    refine (toIntS_ev l hl).bind ?_
    refine h1.bind ?_
    refine (toIntS_ev l hl).bind ?_
    refine h2.bind ?_
    refine (eqPuzzle_ev _ _ hr).bind ?_
    simp only [if_true, bne_self_eq_false, Bool.false_eq_true, if_false]
    refine (toIntS_ev l hl).bind ?_
    refine (eqIntS_ev l hl).bind ?_
    simp only [if_true]
    refine (markIntS_ev 1 (by omega) (by omega) l (by omega)).bind ?_
    simp only [if_neg (show ¬ (1 + (l.length : Int) < 0) by omega)]
    refine (eqPuzzle_ev _ _ hr).bind ?_
    simp only [if_true]
    refine (markPuzzle_ev _ 1 (by omega) (by omega) _ (by omega)).bind ?_
    refine (heldPuzzle_ev _ 1 (by omega) (by omega) _ (by omega)).bind ?_
    simp only [if_neg (show ¬ (1 + 3 * (r.2.1.length : Int) < 0) by omega), if_true]
    refine (toIntS_ev l hl).bind ?_
    refine h2.bind ?_
    refine (eqPuzzle_ev _ _ hr).bind ?_
    simp only [if_true, bne_self_eq_false, Bool.false_eq_true, if_false]
    refine (heldPuzzle_ev _ 1 (by omega) (by omega) _ (by omega)).bind ?_
    simp only [if_neg (show ¬ (1 + 3 * (r.2.1.length : Int) < 0) by omega), if_true]
    exact Ev.now _
  · exact ⟨0, by unfold laws_FnExactMakePuzzle.f; rw [if_pos (by omega)]⟩
end Go.Proofs.Ytdddmkdidegngaa.Pure

/- The program's DoesFit answers as the reference's, for each clue and each list of socks that the law looks at, and leaves the list as it was. No condition. -/
import Derived.Test.YtdddmkdidegngaaPFnExactDoesFitx7
namespace Go.Proofs.Ytdddmkdidegngaa.Pure
open Go.RowKit Go.Proofs.Ytdddmkdidegngaa.PFnExactDoesFit Go.Proofs.YtdddmkdidegngaaW.PrintWords Go.Proofs.YtdddmkdidegngaaW.PrintLast
set_option linter.unusedVariables false
set_option linter.unusedSimpArgs false
/-! ### Plain words -/
theorem w1 {n : Nat} (h : n < 4611686018427387904) : wrap64 ((n : Int) + 1) = ((n + 1 : Nat) : Int) := by unfold wrap64; omega
theorem w0 {x : Int} (h1 : -9223372036854775808 ≤ x) (h2 : x ≤ 9223372036854775807) : wrap64 x = x := by unfold wrap64; omega
theorem wfi {x : Int} (h : (Lit.int .i64 x).wf = true) : -9223372036854775808 ≤ x ∧ x ≤ 9223372036854775807 := by
  simpa [Lit.wf, IntKind.min, IntKind.max, IntKind.signed, IntKind.bits] using h
theorem getD_nat {α : Type} (l : List α) (z : α) (n : Nat) (h : n < l.length) : l.getD ((n : Int)).toNat z = l[n] := by
  simp [List.getD_eq_getElem?_getD, h]
theorem fill_set {α β : Type} (f : α → β) (l : List α) (z : β) (n : Nat) (h : n < l.length) :
    ((l.take n).map f ++ List.replicate (l.length - n) z).set n (f l[n]) = (l.take (n + 1)).map f ++ List.replicate (l.length - (n + 1)) z := by
  obtain ⟨d, hd⟩ : ∃ d, l.length - n = d + 1 := ⟨l.length - n - 1, by omega⟩
  rw [List.set_append, if_neg (by simp; omega), List.take_succ_eq_append_getElem h]
  have h1 : n - ((l.take n).map f).length = 0 := by simp; omega
  have h2 : l.length - (n + 1) = d := by omega
  rw [h1, h2, hd, List.replicate_succ, List.set_cons_zero, List.map_append]
  simp
theorem getD_set {α : Type} (l : List α) (z : α) (i j : Nat) (v : α) (hi : i < l.length) : (l.set i v).getD j z = if j = i then v else l.getD j z := by
  by_cases h : j = i
  · subst h; simp [List.getD_eq_getElem?_getD, hi]
  · rw [if_neg h]; simp [List.getD_eq_getElem?_getD, Ne.symm h]
/-- A way that needs no rounds. -/
theorem ev_now {α : Type} {g : Nat → Option α} {r : α} (h : ∀ k, g k = some r) : Ev g r := ⟨0, fun k _ => h k⟩
theorem ev_late {α : Type} {g : Nat → Option α} {r : α} (n : Nat) (h : ∀ k, g (k + n) = some r) : Ev g r := ⟨n, fun k hk => by
  obtain ⟨m, rfl⟩ : ∃ m, k = m + n := ⟨k - n, by omega⟩
  exact h m⟩
theorem ev_eq {α : Type} {g : Nat → Option α} {r s : α} (h : Ev g r) (e : r = s) : Ev g s := e ▸ h
theorem l1In_is (n a b : Int) : spec_l1In.f n a b = some (decide (a ≤ n ∧ n ≤ b)) := by
  unfold spec_l1In.f; by_cases h : n ≥ a <;> simp [h] <;> omega
theorem within_is (n a b : Int) : impl_within.f n a b = some (decide (a ≤ n ∧ n ≤ b)) := by
  unfold impl_within.f; by_cases h : a ≤ n <;> simp [h]
/-! ### Puzzles -/
def clueB (c kd a b : Int) : Bool := decide (0 ≤ b ∧ b ≤ 15) && (if kd = 0 ∨ kd = 2 ∨ kd = 5 then a == 0 else if kd = 1 then decide (0 ≤ a ∧ a ≤ c - 1) else if kd = 3 then decide (1 ≤ a ∧ a ≤ 6) else if kd = 4 then decide (0 ≤ a ∧ a ≤ c - 1 ∧ b ≤ 1) else false)
theorem spec_clue_ev (c kd a b : Int) (hc : 2 ≤ c ∧ c ≤ 3) : Ev (fun k => spec_pzClue.f k c kd a b) (clueB c kd a b) := by
  refine ev_late 2 fun k => ?_
  simp only [spec_pzClue.f, spec_pzClue.j0, l1In_is, Option.bind_some, w0 (x := c - 1) (by omega) (by omega)]
  unfold clueB
  by_cases hb : 0 ≤ b ∧ b ≤ 15
  · by_cases h0 : kd = 0
    · subst h0; simp [hb]
    · by_cases h2 : kd = 2
      · subst h2; simp [hb]
      · by_cases h5 : kd = 5
        · subst h5; simp [hb]
        · by_cases h1 : kd = 1
          · subst h1; simp [hb]
          · by_cases h3 : kd = 3
            · subst h3; simp [hb]
            · by_cases h4 : kd = 4
              · subst h4; simp only [hb]; by_cases ha : 0 ≤ a ∧ a ≤ c - 1 <;> by_cases hb2 : b ≤ 1 <;> simp [ha, hb, hb2] <;> omega
              · simp [hb, h0, h1, h2, h3, h4, h5]
  · simp [hb]
theorem impl_clue_ev (c kd a b : Int) (hc : 2 ≤ c ∧ c ≤ 3) : Ev (fun k => impl_IsClue.f k c kd a b) (clueB c kd a b) := by
  refine ev_late 3 fun k => ?_
  simp only [impl_IsClue.f, impl_IsClue.j0, impl_IsClue.j1, impl_isHiddenColours.f, within_is, Option.bind_some, w0 (x := c - 1) (by omega) (by omega)]
  unfold clueB
  by_cases hb : 0 ≤ b ∧ b ≤ 15
  · by_cases h0 : kd = 0
    · subst h0; simp [hb, hc]
    · by_cases h2 : kd = 2
      · subst h2; simp [hb, hc]
      · by_cases h5 : kd = 5
        · subst h5; simp [hb, hc]
        · by_cases h1 : kd = 1
          · subst h1; simp [hb, hc]
          · by_cases h3 : kd = 3
            · subst h3; simp [hb, hc]
            · by_cases h4 : kd = 4
              · subst h4; by_cases ha : 0 ≤ a ∧ a ≤ c - 1 <;> by_cases hb2 : b ≤ 1 <;> simp [ha, hb, hc, hb2] <;> omega
              · simp [hb, hc, h0, h1, h2, h3, h4, h5]
  · simp [hb, hc]
/-! ### Lists of whole numbers: taken over, compared, summed -/
theorem rdI (xs : List Int) (n : Nat) (h : n < xs.length) : rd xs (n : Int) = xs[n] := getD_nat xs 0 n h
theorem toIntS_loop (l : List Int) (hl : l.length ≤ 1048576) (d : Nat) : ∀ (n k : Nat), n + d = l.length → d < k →
    laws_toIntS.l0 k l ((l.take n).map id ++ List.replicate (l.length - n) 0) n = some (l.map id) := by
  induction d with
  | zero =>
    intro n k hn hk
    obtain ⟨k, rfl⟩ : ∃ m, k = m + 1 := ⟨k - 1, by omega⟩
    simp only [laws_toIntS.l0]; rw [if_neg (by omega)]
    obtain rfl : n = l.length := by omega
    simp
  | succ d ih =>
    intro n k hn hk
    obtain ⟨k, rfl⟩ : ∃ m, k = m + 1 := ⟨k - 1, by omega⟩
    have hlt : n < l.length := by omega
    simp only [laws_toIntS.l0]
    rw [if_pos (by omega), if_pos (by omega), if_pos (by simp; omega), rdI l n hlt, w1 (by omega), Int.toNat_natCast]
    exact (congrArg (fun z => laws_toIntS.l0 k l z ((n + 1 : Nat) : Int)) (fill_set id l 0 n hlt)).trans (ih (n + 1) k (by omega) (by omega))
theorem toIntS_ev (l : List Int) (hl : l.length ≤ 1048576) : Ev (fun k => laws_toIntS.f k l) l :=
  ⟨l.length + 1, fun k hk => by
    show laws_toIntS.f k l = _
    unfold laws_toIntS.f
    rw [if_pos (by omega), if_pos (by simp; omega)]
    have h := toIntS_loop l hl l.length 0 k (by omega) (by omega)
    simpa using h⟩
theorem eqIntS_loop (l : List Int) (hl : l.length ≤ 1048576) (d : Nat) : ∀ (n k : Nat), n + d = l.length → d < k → laws_eqIntS.l0 k l l n = some true := by
  induction d with
  | zero =>
    intro n k hn hk
    obtain ⟨k, rfl⟩ : ∃ m, k = m + 1 := ⟨k - 1, by omega⟩
    simp only [laws_eqIntS.l0]; rw [if_neg (by omega)]
  | succ d ih =>
    intro n k hn hk
    obtain ⟨k, rfl⟩ : ∃ m, k = m + 1 := ⟨k - 1, by omega⟩
    simp only [laws_eqIntS.l0, if_true]
    rw [if_pos (by omega), if_pos (by omega), if_pos (by omega), w1 (by omega)]
    exact ih (n + 1) k (by omega) (by omega)
theorem eqIntS_ev (l : List Int) (hl : l.length ≤ 1048576) : Ev (fun k => laws_eqIntS.f k l l) true :=
  ⟨l.length + 1, fun k hk => by
    show laws_eqIntS.f k l l = _
    unfold laws_eqIntS.f
    rw [if_pos rfl]
    exact eqIntS_loop l hl l.length 0 k (by omega) (by omega)⟩
/-! ### Socks -/
def allB (l : List Int) (a b : Int) : Bool := l.all fun x => decide (a ≤ x ∧ x ≤ b)
def wsum : Int → List Int → Int
  | s, [] => s
  | s, x :: l => wsum (wrap64 (s + x)) l
def socksB (l : List Int) : Bool := decide (1 ≤ l.length ∧ l.length ≤ 8) && (allB l 0 20 && decide (wsum 0 l > 0))
theorem l1All_loop (a b : Int) (l : List Int) (hl : l.length ≤ 1048576) (d : Nat) : ∀ (n k : Nat), n + d = l.length → d < k → spec_l1All.l0 k a b l (l.length : Int) n = some (allB (l.drop n) a b) := by
  induction d with
  | zero =>
    intro n k hn hk
    obtain ⟨k, rfl⟩ : ∃ m, k = m + 1 := ⟨k - 1, by omega⟩
    simp only [spec_l1All.l0]; rw [if_neg (by omega)]
    obtain rfl : n = l.length := by omega
    simp [allB]
  | succ d ih =>
    intro n k hn hk
    obtain ⟨k, rfl⟩ : ∃ m, k = m + 1 := ⟨k - 1, by omega⟩
    have hlt : n < l.length := by omega
    simp only [spec_l1All.l0, l1In_is, Option.bind_some]
    rw [if_pos (by omega), if_pos (by omega), if_pos (by omega), rdI l n hlt, w1 (by omega), ih (n + 1) k (by omega) (by omega), List.drop_eq_getElem_cons hlt]
    unfold allB; rw [List.all_cons]
    cases decide (a ≤ l[n] ∧ l[n] ≤ b) <;> simp
theorem l1All_ev (l : List Int) (hl : l.length ≤ 1048576) (a b : Int) : Ev (fun k => spec_l1All.f k l a b) (allB l a b) :=
  ⟨l.length + 1, fun k hk => by
    show spec_l1All.f k l a b = _
    unfold spec_l1All.f
    exact (l1All_loop a b l hl l.length 0 k (by omega) (by omega)).trans (by simp)⟩
theorem soSum_loop (l : List Int) (hl : l.length ≤ 1048576) (d : Nat) : ∀ (n k : Nat) (s : Int), n + d = l.length → d < k → spec_soSum.l0 k s l (l.length : Int) n = some (wsum s (l.drop n)) := by
  induction d with
  | zero =>
    intro n k s hn hk
    obtain ⟨k, rfl⟩ : ∃ m, k = m + 1 := ⟨k - 1, by omega⟩
    simp only [spec_soSum.l0]; rw [if_neg (by omega)]
    obtain rfl : n = l.length := by omega
    simp [wsum]
  | succ d ih =>
    intro n k s hn hk
    obtain ⟨k, rfl⟩ : ∃ m, k = m + 1 := ⟨k - 1, by omega⟩
    have hlt : n < l.length := by omega
    simp only [spec_soSum.l0]
    rw [if_pos (by omega), if_pos (by omega), if_pos (by omega), rdI l n hlt, w1 (by omega), ih (n + 1) k _ (by omega) (by omega), List.drop_eq_getElem_cons hlt]
    rfl
theorem soSum_ev (l : List Int) (hl : l.length ≤ 1048576) : Ev (fun k => spec_soSum.f k l) (wsum 0 l) :=
  ⟨l.length + 1, fun k hk => by
    show spec_soSum.f k l = _
    unfold spec_soSum.f
    exact (soSum_loop l hl l.length 0 k 0 (by omega) (by omega)).trans (by simp)⟩
theorem total_loop (l : List Int) (hl : l.length ≤ 1048576) (d : Nat) : ∀ (n k : Nat) (s : Int), n + d = l.length → d < k → impl_total.l0 k s l (l.length : Int) n = some (wsum s (l.drop n)) := by
  induction d with
  | zero =>
    intro n k s hn hk
    obtain ⟨k, rfl⟩ : ∃ m, k = m + 1 := ⟨k - 1, by omega⟩
    simp only [impl_total.l0]; rw [if_neg (by omega)]
    obtain rfl : n = l.length := by omega
    simp [wsum]
  | succ d ih =>
    intro n k s hn hk
    obtain ⟨k, rfl⟩ : ∃ m, k = m + 1 := ⟨k - 1, by omega⟩
    have hlt : n < l.length := by omega
    simp only [impl_total.l0]
    rw [if_pos (by omega), if_pos (by omega), if_pos (by omega), rdI l n hlt, w1 (by omega), ih (n + 1) k _ (by omega) (by omega), List.drop_eq_getElem_cons hlt]
    rfl
theorem total_ev (l : List Int) (hl : l.length ≤ 1048576) : Ev (fun k => impl_total.f k l) (wsum 0 l) :=
  ⟨l.length + 1, fun k hk => by
    show impl_total.f k l = _
    unfold impl_total.f
    exact (total_loop l hl l.length 0 k 0 (by omega) (by omega)).trans (by simp)⟩
theorem index_int_loop (l : List Int) (hl : l.length ≤ 1048576) (φ : Int → Option Bool) (q : Int → Bool) (hφ : ∀ x ∈ l, φ x = some (q x)) (d : Nat) : ∀ (n k : Nat), n + d = l.length → d < k →
    ∃ r, slices_IndexFunc_sint_int.l0 k l φ (l.length : Int) n = some r ∧ (decide (r ≥ 0) = (l.drop n).any q) := by
  induction d with
  | zero =>
    intro n k hn hk
    obtain ⟨k, rfl⟩ : ∃ m, k = m + 1 := ⟨k - 1, by omega⟩
    obtain rfl : n = l.length := by omega
    exact ⟨-1, by simp only [slices_IndexFunc_sint_int.l0]; rw [if_neg (by omega)], by simp⟩
  | succ d ih =>
    intro n k hn hk
    obtain ⟨k, rfl⟩ : ∃ m, k = m + 1 := ⟨k - 1, by omega⟩
    have hlt : n < l.length := by omega
    have hx := hφ l[n] (List.getElem_mem hlt)
    obtain ⟨r, hr, hq⟩ := ih (n + 1) k (by omega) (by omega)
    rw [List.drop_eq_getElem_cons hlt, List.any_cons]
    cases h : q l[n]
    · refine ⟨r, ?_, by simpa [h] using hq⟩
      simp only [slices_IndexFunc_sint_int.l0]
      rw [if_pos (by omega), if_pos (by omega), if_pos (by omega), rdI l n hlt, hx, h, w1 (by omega)]
      simpa using hr
    · refine ⟨n, ?_, by simp⟩
      simp only [slices_IndexFunc_sint_int.l0]
      rw [if_pos (by omega), if_pos (by omega), if_pos (by omega), rdI l n hlt, hx, h]
      rfl
theorem contains_int_ev (l : List Int) (hl : l.length ≤ 1048576) (φ : Int → Option Bool) (q : Int → Bool) (hφ : ∀ x ∈ l, φ x = some (q x)) : Ev (fun k => slices_ContainsFunc_sint_int.f k l φ) (l.any q) :=
  ⟨l.length + 1, fun k hk => by
    show slices_ContainsFunc_sint_int.f k l φ = _
    obtain ⟨r, hr, hq⟩ := index_int_loop l hl φ q hφ l.length 0 k (by omega) (by omega)
    simp only [slices_ContainsFunc_sint_int.f, slices_IndexFunc_sint_int.f]
    have hr' : slices_IndexFunc_sint_int.l0 k l φ (l.length : Int) 0 = some r := by simpa using hr
    rw [hr']; simp only [Option.bind_some, hq]; simp⟩
theorem areWithin_ev (l : List Int) (hl : l.length ≤ 1048576) (a b : Int) : Ev (fun k => impl_areWithin.f k l a b) (allB l a b) := by
  refine ev_eq ((contains_int_ev l hl (fun x => impl_areWithin_1.f x a b) (fun x => !decide (a ≤ x ∧ x ≤ b)) (fun x _ => by simp only [impl_areWithin_1.f, within_is, Option.bind_some])).bind (Ev.now (!_))) ?_
  unfold allB; rw [List.all_eq_not_any_not]
theorem AreSocks_ev (l : List Int) (hl : l.length ≤ 1048576) : Ev (fun k => impl_AreSocks.f k l) (socksB l) := by
  unfold socksB impl_AreSocks.f
  simp only [within_is, Option.bind_some]
  by_cases h : 1 ≤ l.length ∧ l.length ≤ 8
  · have h' : (1 : Int) ≤ (l.length : Int) ∧ (l.length : Int) ≤ 8 := by omega
    simp only [h, h', and_self, decide_true, if_true, Bool.true_and]
    refine (areWithin_ev l hl 0 20).bind ?_
    cases allB l 0 20
    · exact Ev.now _
    · simp only [if_true, Bool.true_and]; exact (total_ev l hl).bind (Ev.now _)
  · have h' : ¬ ((1 : Int) ≤ (l.length : Int) ∧ (l.length : Int) ≤ 8) := by omega
    simp only [h, h', decide_false, Bool.false_eq_true, if_false, Bool.false_and]; exact Ev.now _
theorem soGood_ev (l : List Int) (hl : l.length ≤ 1048576) : Ev (fun k => spec_soGood.f k l) (socksB l) := by
  unfold socksB spec_soGood.f
  simp only [l1In_is, Option.bind_some]
  by_cases h : 1 ≤ l.length ∧ l.length ≤ 8
  · have h' : (1 : Int) ≤ (l.length : Int) ∧ (l.length : Int) ≤ 8 := by omega
    simp only [h, h', and_self, decide_true, if_true, Bool.true_and]
    refine (l1All_ev l hl 0 20).bind ?_
    cases allB l 0 20
    · exact Ev.now _
    · simp only [if_true, Bool.true_and]; exact (soSum_ev l hl).bind (Ev.now _)
  · have h' : ¬ ((1 : Int) ≤ (l.length : Int) ∧ (l.length : Int) ≤ 8) := by omega
    simp only [h, h', decide_false, Bool.false_eq_true, if_false, Bool.false_and]; exact Ev.now _
/-! ### Hidden socks: a few, all looked at -/
def hiddenB (l : List Int) : Bool := decide (2 ≤ l.length ∧ l.length ≤ 3) && (allB l 0 5 && decide (wsum 0 l > 0))
def hiddenAll : Nat → List (List Int)
  | 0 => [[]]
  | n + 1 => (hiddenAll n).flatMap fun s => [0, 1, 2, 3, 4, 5].map fun x => s ++ [x]
theorem mem_hiddenAll : ∀ (n : Nat) (l : List Int), l.length = n → (∀ x ∈ l, 0 ≤ x ∧ x ≤ 5) → l ∈ hiddenAll n
  | 0, l, h, _ => by rw [List.length_eq_zero_iff.1 h]; exact List.mem_singleton.2 rfl
  | n + 1, l, h, hx => by
    have hne : l ≠ [] := by intro e; rw [e] at h; simp at h
    rw [← List.dropLast_concat_getLast hne]
    refine List.mem_flatMap.2 ⟨l.dropLast, mem_hiddenAll n _ (by simp [h]) (fun x hm => hx x ((List.dropLast_sublist l).subset hm)), List.mem_map.2 ⟨l.getLast hne, ?_, rfl⟩⟩
    have := hx _ (List.getLast_mem hne)
    simp only [List.mem_cons, List.not_mem_nil, or_false]; omega
theorem pzHidden_ev (l : List Int) (hl : l.length ≤ 1048576) : Ev (fun k => spec_pzHidden.f k l) (hiddenB l) := by
  unfold hiddenB spec_pzHidden.f
  simp only [spec_pzColours.f, l1In_is, Option.bind_some]
  by_cases h : 2 ≤ l.length ∧ l.length ≤ 3
  · have h' : (2 : Int) ≤ (l.length : Int) ∧ (l.length : Int) ≤ 3 := by omega
    simp only [h, h', and_self, decide_true, if_true, Bool.true_and]
    refine (l1All_ev l hl 0 5).bind ?_
    cases allB l 0 5
    · exact Ev.now _
    · simp only [if_true, Bool.true_and]; exact (soSum_ev l hl).bind (Ev.now _)
  · have h' : ¬ ((2 : Int) ≤ (l.length : Int) ∧ (l.length : Int) ≤ 3) := by omega
    simp only [h, h', decide_false, Bool.false_eq_true, if_false, Bool.false_and]; exact Ev.now _
theorem isHidden_ev (l : List Int) (hl : l.length ≤ 1048576) : Ev (fun k => impl_isHidden.f k l) (hiddenB l) := by
  unfold hiddenB impl_isHidden.f
  simp only [impl_isHiddenColours.f, within_is, Option.bind_some]
  by_cases h : 2 ≤ l.length ∧ l.length ≤ 3
  · have h' : (2 : Int) ≤ (l.length : Int) ∧ (l.length : Int) ≤ 3 := by omega
    simp only [h, h', and_self, decide_true, if_true, Bool.true_and]
    refine (areWithin_ev l hl 0 5).bind ?_
    cases allB l 0 5
    · exact Ev.now _
    · simp only [if_true, Bool.true_and]; exact (total_ev l hl).bind (Ev.now _)
  · have h' : ¬ ((2 : Int) ≤ (l.length : Int) ∧ (l.length : Int) ≤ 3) := by omega
    simp only [h, h', decide_false, Bool.false_eq_true, if_false, Bool.false_and]; exact Ev.now _
def asked : Nat → List (Int × Int)
  | n => [(0, 0), (2, 0), (5, 0), (3, 1), (3, 2), (3, 3), (3, 4), (3, 5), (3, 6)] ++ (List.range n).flatMap fun (i : Nat) => [(1, (i : Int)), (4, (i : Int))]
/-- What is told of hidden socks: looked at for all of them. -/
def tellsB (n : Nat) : Bool := (hiddenAll n).all fun l => (asked n).all fun q => match impl_toldBy.f 300 q.1 q.2 l, spec_pzValue.f 300 q.1 q.2 l with
  | some x, some y => x == y
  | _, _ => false
theorem idx_int_mono (φ : Int → Option Bool) : ∀ (k : Nat) (l : List Int) (n i : Int), LeO (slices_IndexFunc_sint_int.l0 k l φ n i) (slices_IndexFunc_sint_int.l0 (k + 1) l φ n i)
  | 0, _, _, _ => LeO.none _
  | k + 1, l, n, i => LeO.ite (LeO.ite (LeO.ite (LeO.bind (LeO.refl _) fun t => LeO.ite (LeO.refl _) (idx_int_mono φ k l n _)) (LeO.refl _)) (LeO.refl _)) (LeO.refl _)
theorem contains_int_mono (φ : Int → Option Bool) (l : List Int) (k : Nat) : LeO (slices_ContainsFunc_sint_int.f k l φ) (slices_ContainsFunc_sint_int.f (k + 1) l φ) := LeO.bind (idx_int_mono φ k l _ _) fun _ => LeO.refl _
theorem areWithin_mono (l : List Int) (a b : Int) (k : Nat) : LeO (impl_areWithin.f k l a b) (impl_areWithin.f (k + 1) l a b) := LeO.bind (contains_int_mono _ l k) fun _ => LeO.refl _
theorem areSocks_mono (l : List Int) (k : Nat) : LeO (impl_AreSocks.f k l) (impl_AreSocks.f (k + 1) l) :=
  LeO.bind (LeO.refl _) fun _ => LeO.ite (LeO.bind (areWithin_mono l _ _ k) fun _ => LeO.ite (LeO.bind (impl_total.mono l k) fun _ => LeO.refl _) (LeO.refl _)) (LeO.refl _)
theorem surePairs_mono (l : List Int) (a : Int) (k : Nat) : LeO (impl_SurePairs.f k l a) (impl_SurePairs.f (k + 1) l a) :=
  LeO.bind (areSocks_mono l k) fun _ => LeO.ite (LeO.bind (impl_pairsOf.mono l k) fun _ => LeO.bind (LeO.refl _) fun _ => LeO.ite (LeO.bind (impl_worst.mono l _ k) fun _ => LeO.refl _) (LeO.refl _)) (LeO.refl _)
theorem told_loop_mono : ∀ (k : Nat) (x : Int) (l : List Int) (n i : Int), LeO (impl_toldBy.l0 k x l n i) (impl_toldBy.l0 (k + 1) x l n i)
  | 0, _, _, _, _ => LeO.none _
  | k + 1, x, l, n, i => LeO.ite (LeO.ite (LeO.ite (LeO.ite (told_loop_mono k _ l n _) (told_loop_mono k _ l n _)) (LeO.refl _)) (LeO.refl _)) (LeO.refl _)
theorem told_mono (kd a : Int) (l : List Int) (k : Nat) : LeO (impl_toldBy.f k kd a l) (impl_toldBy.f (k + 1) kd a l) :=
  LeO.ite (LeO.bind (impl_total.mono l k) fun _ => LeO.refl _) (LeO.ite (LeO.refl _) (LeO.ite (LeO.bind (impl_pairsOf.mono l k) fun _ => LeO.refl _) (LeO.ite (LeO.bind (surePairs_mono l a k) fun _ => LeO.refl _) (LeO.ite (LeO.refl _) (told_loop_mono k _ l _ _)))))
theorem tells2 : tellsB 2 = true := by decide +kernel
theorem tells3 : tellsB 3 = true := by decide +kernel
theorem mem_asked (n : Nat) (hn : 2 ≤ n ∧ n ≤ 3) (kd a b : Int) (h : clueB n kd a b = true) : (kd, a) ∈ asked n := by
  have hn' : n = 2 ∨ n = 3 := by omega
  unfold clueB at h
  simp only [Bool.and_eq_true, decide_eq_true_eq] at h
  obtain ⟨_, h⟩ := h
  split at h
  · rename_i hk
    have : a = 0 := by simpa using h
    subst this
    rcases hk with rfl | rfl | rfl <;> simp [asked]
  · split at h
    · rename_i h1; subst h1
      have h := of_decide_eq_true h
      rcases hn' with rfl | rfl
      · have : a = 0 ∨ a = 1 := by omega
        rcases this with rfl | rfl <;> decide
      · have : a = 0 ∨ a = 1 ∨ a = 2 := by omega
        rcases this with rfl | rfl | rfl <;> decide
    · split at h
      · rename_i h1; subst h1
        have h := of_decide_eq_true h
        have : a = 1 ∨ a = 2 ∨ a = 3 ∨ a = 4 ∨ a = 5 ∨ a = 6 := by omega
        rcases this with rfl | rfl | rfl | rfl | rfl | rfl <;> simp [asked]
      · split at h
        · rename_i h1; subst h1
          have h := of_decide_eq_true h
          rcases hn' with rfl | rfl
          · have : a = 0 ∨ a = 1 := by omega
            rcases this with rfl | rfl <;> decide
          · have : a = 0 ∨ a = 1 ∨ a = 2 := by omega
            rcases this with rfl | rfl | rfl <;> decide
        · cases h
/-- What is told: the same on both sides. -/
theorem told_of (n : Nat) (hn : 2 ≤ n ∧ n ≤ 3) (l : List Int) (hl : l ∈ hiddenAll n) (kd a b : Int) (h : clueB n kd a b = true) : ∃ r, Ev (fun k => impl_toldBy.f k kd a l) r ∧ Ev (fun k => spec_pzValue.f k kd a l) r := by
  have ht : tellsB n = true := by
    rcases (show n = 2 ∨ n = 3 by omega) with rfl | rfl
    · exact tells2
    · exact tells3
  have h1 := List.all_eq_true.1 (List.all_eq_true.1 ht l hl) _ (mem_asked n hn kd a b h)
  simp only at h1
  split at h1
  · rename_i x y hx hy
    have e : x = y := by simpa using h1
    subst e
    exact ⟨x, ⟨300, fun k hk => at_rounds (told_mono kd a l) hk hx⟩, ⟨300, fun k hk => at_rounds (spec_pzValue.mono kd a l) hk hy⟩⟩
  · cases h1
theorem hidden_mem (l : List Int) (h : hiddenB l = true) : (2 ≤ l.length ∧ l.length ≤ 3) ∧ l ∈ hiddenAll l.length := by
  unfold hiddenB allB at h
  simp only [Bool.and_eq_true, decide_eq_true_eq] at h
  exact ⟨h.1, mem_hiddenAll _ l rfl (fun x hx => by simpa using List.all_eq_true.1 h.2.1 x hx)⟩
theorem fits (c x y : Int) (l : List Int) (hl : l.length ≤ 1048576) : ∃ r, Ev (fun k => spec_DoesFit.f k c x y l) r ∧ Ev (fun k => impl_DoesFit.f k c x y l) r := by
  unfold spec_DoesFit.f impl_DoesFit.f
  cases h : hiddenB l
  · exact ⟨(false, false), (ev_eq (pzHidden_ev l hl) h).bind (by simp only [Bool.false_eq_true, if_false]; exact Ev.now _), (ev_eq (isHidden_ev l hl) h).bind (by simp only [Bool.false_eq_true, if_false]; exact Ev.now _)⟩
  · obtain ⟨hn, hm⟩ := hidden_mem l h
    have hn' : 2 ≤ (l.length : Int) ∧ (l.length : Int) ≤ 3 := by omega
    cases hc : clueB l.length c x y
    · refine ⟨(false, false), (ev_eq (pzHidden_ev l hl) h).bind ?_, (ev_eq (isHidden_ev l hl) h).bind ?_⟩
      · simp only [if_true]; exact (ev_eq (spec_clue_ev _ c x y hn') hc).bind (by simp only [Bool.false_eq_true, if_false]; exact Ev.now _)
      · simp only [if_true]; exact (ev_eq (impl_clue_ev _ c x y hn') hc).bind (by simp only [Bool.false_eq_true, if_false]; exact Ev.now _)
    · obtain ⟨r, hi, hs⟩ := told_of l.length hn l hm c x y hc
      refine ⟨(r == y, true), (ev_eq (pzHidden_ev l hl) h).bind ?_, (ev_eq (isHidden_ev l hl) h).bind ?_⟩
      · simp only [if_true, spec_pzFits.f]
        refine (ev_eq (spec_clue_ev _ c x y hn') hc).bind ?_
        simp only [if_true]
        exact (hs.bind (Ev.now (r == y))).bind (Ev.now _)
      · simp only [if_true]
        refine (ev_eq (impl_clue_ev _ c x y hn') hc).bind ?_
        simp only [if_true]
        exact hi.bind (Ev.now _)
theorem FnExactDoesFit : laws_FnExactDoesFit.Pure := by
  intro c x y l _ _ _ _ _ _
  by_cases hl : l.length ≤ 1048576
  · refine Ev.rounds (r := true) ?_
    unfold laws_FnExactDoesFit.f
    simp only [if_neg (show ¬ ((l.length : Int) > 1048576) by omega), laws_toClue.f, Option.bind_some]
    obtain ⟨r, h1, h2⟩ := fits c x y l hl
    refine (toIntS_ev l hl).bind ?_
    refine h1.bind ?_
    refine (toIntS_ev l hl).bind ?_
    refine h2.bind ?_
    simp only [bne_self_eq_false, Bool.false_eq_true, if_false]
    refine (toIntS_ev l hl).bind ?_
    refine (eqIntS_ev l hl).bind ?_
    simp only [if_true]
    exact Ev.now _
  · exact ⟨0, by unfold laws_FnExactDoesFit.f; rw [if_pos (by omega)]⟩
end Go.Proofs.Ytdddmkdidegngaa.Pure

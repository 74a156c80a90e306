/- The program's Solutions answers as the reference's, for each puzzle whose size the law looks at; it leaves the puzzle as it was, and what it makes is its own. No condition. -/
import Derived.Test.YtdddmkdidegngaaPFnExactSolutionsx12
namespace Go.Proofs.Ytdddmkdidegngaa.Pure
open Go.RowKit Go.Proofs.Ytdddmkdidegngaa.PFnExactSolutions Go.Proofs.YtdddmkdidegngaaW.PrintWords Go.Proofs.YtdddmkdidegngaaW.PrintLast
set_option linter.unusedVariables false
set_option linter.unusedSimpArgs false
/-! ### Plain words -/
theorem w1 {n : Nat} (h : n < 4611686018427387904) : wrap64 ((n : Int) + 1) = ((n + 1 : Nat) : Int) := by unfold wrap64; omega
theorem w0 {x : Int} (h1 : -9223372036854775808 ≤ x) (h2 : x ≤ 9223372036854775807) : wrap64 x = x := by unfold wrap64; omega
theorem wfi {x : Int} (h : (Lit.int .i64 x).wf = true) : -9223372036854775808 ≤ x ∧ x ≤ 9223372036854775807 := by
  simpa [Lit.wf, IntKind.min, IntKind.max, IntKind.signed, IntKind.bits] using h
theorem getD_nat {α : Type} (l : List α) (z : α) (n : Nat) (h : n < l.length) : l.getD ((n : Int)).toNat z = l[n] := by
  simp [List.getD_eq_getElem?_getD, h]
theorem fill_set {α β : Type} (f : α → β) (l : List α) (z : β) (n : Nat) (h : n < l.length) :
    ((l.take n).map f ++ List.replicate (l.length - n) z).set n (f l[n]) = (l.take (n + 1)).map f ++ List.replicate (l.length - (n + 1)) z := by
  obtain ⟨d, hd⟩ : ∃ d, l.length - n = d + 1 := ⟨l.length - n - 1, by omega⟩
  rw [List.set_append, if_neg (by simp; omega), List.take_succ_eq_append_getElem h]
  have h1 : n - ((l.take n).map f).length = 0 := by simp; omega
  have h2 : l.length - (n + 1) = d := by omega
  rw [h1, h2, hd, List.replicate_succ, List.set_cons_zero, List.map_append]
  simp
theorem getD_set {α : Type} (l : List α) (z : α) (i j : Nat) (v : α) (hi : i < l.length) : (l.set i v).getD j z = if j = i then v else l.getD j z := by
  by_cases h : j = i
  · subst h; simp [List.getD_eq_getElem?_getD, hi]
  · rw [if_neg h]; simp [List.getD_eq_getElem?_getD, Ne.symm h]
/-- A way that needs no rounds. -/
theorem ev_now {α : Type} {g : Nat → Option α} {r : α} (h : ∀ k, g k = some r) : Ev g r := ⟨0, fun k _ => h k⟩
theorem ev_late {α : Type} {g : Nat → Option α} {r : α} (n : Nat) (h : ∀ k, g (k + n) = some r) : Ev g r := ⟨n, fun k hk => by
  obtain ⟨m, rfl⟩ : ∃ m, k = m + n := ⟨k - n, by omega⟩
  exact h m⟩
theorem ev_eq {α : Type} {g : Nat → Option α} {r s : α} (h : Ev g r) (e : r = s) : Ev g s := e ▸ h
abbrev Clue := S44
theorem rdC (xs : List Clue) (i : Int) : rd_T44 xs i = xs.getD i.toNat z44 := rfl
abbrev zC : Clue := z44
theorem rdI (xs : List Int) (n : Nat) (h : n < xs.length) : rd xs (n : Int) = xs[n] := getD_nat xs 0 n h
theorem eqClueS_loop (l : List Clue) (hl : l.length ≤ 1048576) (d : Nat) : ∀ (n k : Nat), n + d = l.length → d < k → laws_eqClueS.l0 k l l n = some true := by
  induction d with
  | zero =>
    intro n k hn hk
    obtain ⟨k, rfl⟩ : ∃ m, k = m + 1 := ⟨k - 1, by omega⟩
    simp only [laws_eqClueS.l0]; rw [if_neg (by omega)]
  | succ d ih =>
    intro n k hn hk
    obtain ⟨k, rfl⟩ : ∃ m, k = m + 1 := ⟨k - 1, by omega⟩
    simp only [laws_eqClueS.l0, laws_eqClue.f, if_true, Option.bind_some]
    rw [if_pos (by omega), if_pos (by omega), if_pos (by omega), w1 (by omega)]
    exact ih (n + 1) k (by omega) (by omega)
theorem eqClueS_ev (l : List Clue) (hl : l.length ≤ 1048576) : Ev (fun k => laws_eqClueS.f k l l) true :=
  ⟨l.length + 1, fun k hk => by
    show laws_eqClueS.f k l l = _
    unfold laws_eqClueS.f
    rw [if_pos rfl]
    exact eqClueS_loop l hl l.length 0 k (by omega) (by omega)⟩
theorem eqPuzzle_ev (c : Int) (l : List Clue) (hl : l.length ≤ 1048576) : Ev (fun k => laws_eqPuzzle.f k c l c l) true := by
  refine Ev.congr (f := fun k => (laws_eqClueS.f k l l).bind fun t => (if t = true then (some true) else (some false))) (fun k => by unfold laws_eqPuzzle.f; rw [if_pos rfl]) ?_
  exact (eqClueS_ev l hl).bind (Ev.now _)
abbrev LClue := S41
theorem rdL (xs : List LClue) (i : Int) : rd_T41 xs i = xs.getD i.toNat z41 := rfl
/-! ### Clues: taken over, compared -/
def ofL (x : LClue) : Clue := ⟨x.f0, x.f1, x.f2⟩
theorem toClueS_loop (l : List LClue) (hl : l.length ≤ 1048576) (d : Nat) : ∀ (n k : Nat), n + d = l.length → d < k →
    laws_toClueS.l0 k l ((l.take n).map ofL ++ List.replicate (l.length - n) zC) n = some (l.map ofL) := by
  induction d with
  | zero =>
    intro n k hn hk
    obtain ⟨k, rfl⟩ : ∃ m, k = m + 1 := ⟨k - 1, by omega⟩
    simp only [laws_toClueS.l0]; rw [if_neg (by omega)]
    obtain rfl : n = l.length := by omega
    simp
  | succ d ih =>
    intro n k hn hk
    obtain ⟨k, rfl⟩ : ∃ m, k = m + 1 := ⟨k - 1, by omega⟩
    have hlt : n < l.length := by omega
    simp only [laws_toClueS.l0, laws_toClue.f, rdL]
    rw [if_pos (by omega), if_pos (by omega)]
    simp only [Option.bind_some]
    rw [if_pos (by simp; omega), getD_nat l _ n hlt, w1 (by omega), Int.toNat_natCast]
    exact (congrArg (fun z => laws_toClueS.l0 k l z ((n + 1 : Nat) : Int)) (fill_set ofL l zC n hlt)).trans (ih (n + 1) k (by omega) (by omega))
theorem toClueS_ev (l : List LClue) (hl : l.length ≤ 1048576) : Ev (fun k => laws_toClueS.f k l) (l.map ofL) :=
  ⟨l.length + 1, fun k hk => by
    show laws_toClueS.f k l = _
    unfold laws_toClueS.f
    rw [if_pos (by omega), if_pos (by simp; omega)]
    have h := toClueS_loop l hl l.length 0 k (by omega) (by omega)
    simpa using h⟩
theorem toPuzzle_ev (c : Int) (l : List LClue) (hl : l.length ≤ 1048576) : Ev (fun k => laws_toPuzzle.f k c l) (c, l.map ofL) :=
  (toClueS_ev l hl).bind (Ev.now _)
theorem szPuzzle_big (c : Int) (l : List LClue) (h : 1048576 < l.length) (hm : l.length ≤ maxLen) : laws_szPuzzle.f c l 1048576 = some (-1) := by
  unfold maxLen at hm
  unfold laws_szPuzzle.f laws_szClueS.f
  rw [w0 (by omega) (by omega), if_pos (by omega)]; rfl
theorem szPuzzle_small (c : Int) (l : List LClue) (h : l.length ≤ 1048576) : laws_szPuzzle.f c l 1048576 = some (1048576 - (l.length : Int)) := by
  unfold laws_szPuzzle.f laws_szClueS.f
  rw [w0 (by omega) (by omega), if_neg (by omega)]; simp only [Option.bind_some]; rw [if_neg (by omega)]
def clueB (c kd a b : Int) : Bool := decide (0 ≤ b ∧ b ≤ 15) && (if kd = 0 ∨ kd = 2 ∨ kd = 5 then a == 0 else if kd = 1 then decide (0 ≤ a ∧ a ≤ c - 1) else if kd = 3 then decide (1 ≤ a ∧ a ≤ 6) else if kd = 4 then decide (0 ≤ a ∧ a ≤ c - 1 ∧ b ≤ 1) else false)
theorem l1In_is (n a b : Int) : spec_l1In.f n a b = some (decide (a ≤ n ∧ n ≤ b)) := by
  unfold spec_l1In.f; by_cases h : n ≥ a <;> simp [h] <;> omega
theorem within_is (n a b : Int) : impl_within.f n a b = some (decide (a ≤ n ∧ n ≤ b)) := by
  unfold impl_within.f; by_cases h : a ≤ n <;> simp [h]
/-! ### Puzzles -/
theorem spec_clue_ev (c kd a b : Int) (hc : 2 ≤ c ∧ c ≤ 3) : Ev (fun k => spec_pzClue.f k c kd a b) (clueB c kd a b) := by
  refine ev_late 2 fun k => ?_
  simp only [spec_pzClue.f, spec_pzClue.j0, l1In_is, Option.bind_some, w0 (x := c - 1) (by omega) (by omega)]
  unfold clueB
  by_cases hb : 0 ≤ b ∧ b ≤ 15
  · by_cases h0 : kd = 0
    · subst h0; simp [hb]
    · by_cases h2 : kd = 2
      · subst h2; simp [hb]
      · by_cases h5 : kd = 5
        · subst h5; simp [hb]
        · by_cases h1 : kd = 1
          · subst h1; simp [hb]
          · by_cases h3 : kd = 3
            · subst h3; simp [hb]
            · by_cases h4 : kd = 4
              · subst h4; simp only [hb]; by_cases ha : 0 ≤ a ∧ a ≤ c - 1 <;> by_cases hb2 : b ≤ 1 <;> simp [ha, hb, hb2] <;> omega
              · simp [hb, h0, h1, h2, h3, h4, h5]
  · simp [hb]
theorem impl_clue_ev (c kd a b : Int) (hc : 2 ≤ c ∧ c ≤ 3) : Ev (fun k => impl_IsClue.f k c kd a b) (clueB c kd a b) := by
  refine ev_late 3 fun k => ?_
  simp only [impl_IsClue.f, impl_IsClue.j0, impl_IsClue.j1, impl_isHiddenColours.f, within_is, Option.bind_some, w0 (x := c - 1) (by omega) (by omega)]
  unfold clueB
  by_cases hb : 0 ≤ b ∧ b ≤ 15
  · by_cases h0 : kd = 0
    · subst h0; simp [hb, hc]
    · by_cases h2 : kd = 2
      · subst h2; simp [hb, hc]
      · by_cases h5 : kd = 5
        · subst h5; simp [hb, hc]
        · by_cases h1 : kd = 1
          · subst h1; simp [hb, hc]
          · by_cases h3 : kd = 3
            · subst h3; simp [hb, hc]
            · by_cases h4 : kd = 4
              · subst h4; by_cases ha : 0 ≤ a ∧ a ≤ c - 1 <;> by_cases hb2 : b ≤ 1 <;> simp [ha, hb, hc, hb2] <;> omega
              · simp [hb, hc, h0, h1, h2, h3, h4, h5]
  · simp [hb, hc]
def puzzleB (c : Int) (l : List Clue) : Bool := decide (2 ≤ c ∧ c ≤ 3) && decide (l.length ≤ 6) && l.all (fun x => clueB c x.f0 x.f1 x.f2)
theorem spec_good_loop (c : Int) (hc : 2 ≤ c ∧ c ≤ 3) (l : List Clue) (hl : l.length ≤ 1048576) (d : Nat) : ∀ (n : Nat), n + d = l.length → Ev (fun k => spec_pzGood.l0 k l (l.length : Int) n c l) ((l.drop n).all fun x => clueB c x.f0 x.f1 x.f2) := by
  induction d with
  | zero =>
    intro n hn
    refine ev_late 1 fun k => ?_
    simp only [spec_pzGood.l0]; rw [if_neg (by omega)]
    obtain rfl : n = l.length := by omega
    simp
  | succ d ih =>
    intro n hn
    have hlt : n < l.length := by omega
    refine Ev.step (f := fun k => (spec_pzClue.f k c l[n].f0 l[n].f1 l[n].f2).bind fun t => if t = true then spec_pzGood.l0 k l (l.length : Int) ((n + 1 : Nat) : Int) c l else some false) (fun k => ?_) ?_
    · simp only [spec_pzGood.l0, rdC]
      rw [if_pos (by omega), if_pos (by omega), if_pos (by omega), getD_nat l _ n hlt, w1 (by omega)]
    · refine (spec_clue_ev c _ _ _ hc).bind ?_
      rw [List.drop_eq_getElem_cons hlt, List.all_cons]
      cases h : clueB c l[n].f0 l[n].f1 l[n].f2
      · exact Ev.now _
      · simpa using ih (n + 1) (by omega)
theorem spec_good_ev (c : Int) (l : List Clue) (hl : l.length ≤ 1048576) : Ev (fun k => spec_pzGood.f k c l) (puzzleB c l) := by
  unfold puzzleB
  by_cases hc : 2 ≤ c ∧ c ≤ 3
  · refine Ev.congr (f := fun k => spec_pzGood.j0 k (decide ((l.length : Int) > 6)) c l) (fun k => ?_) ?_
    · simp only [spec_pzGood.f, spec_pzColours.f, l1In_is, Option.bind_some]; simp [hc]
    · by_cases h6 : l.length ≤ 6
      · refine Ev.step (f := fun k => spec_pzGood.l0 k l (l.length : Int) 0 c l) (fun k => ?_) (ev_eq (spec_good_loop c hc l hl l.length 0 (by omega)) (by simp [hc, h6]))
        simp only [spec_pzGood.j0]; rw [if_neg (by simp; omega)]
      · refine ev_late 1 fun k => ?_
        simp only [spec_pzGood.j0]; rw [if_pos (by simp; omega)]; simp [h6]
  · refine ev_late 1 fun k => ?_
    simp only [spec_pzGood.f, spec_pzColours.f, l1In_is, Option.bind_some]
    rw [if_neg (by simpa using hc)]
    simp only [spec_pzGood.j0, if_true]; simp [hc]
theorem index_clue_loop (l : List Clue) (hl : l.length ≤ 1048576) (q : Clue → Bool) :
    ∃ K, ∀ k φ, K ≤ k → (∀ x ∈ l, φ x.f0 x.f1 x.f2 = some (q x)) → ∃ r, slices_IndexFunc_simpl_Clue_impl_Clue.l0 k l φ (l.length : Int) 0 = some r ∧ (decide (r ≥ 0) = l.any q) := by
  have H : ∀ (d n k : Nat) (φ : Int → Int → Int → Option Bool), n + d = l.length → d < k → (∀ x ∈ l, φ x.f0 x.f1 x.f2 = some (q x)) → ∃ r, slices_IndexFunc_simpl_Clue_impl_Clue.l0 k l φ (l.length : Int) n = some r ∧ (decide (r ≥ 0) = (l.drop n).any q) := by
    intro d
    induction d with
    | zero =>
      intro n k φ hn hk hφ
      obtain ⟨k, rfl⟩ : ∃ m, k = m + 1 := ⟨k - 1, by omega⟩
      obtain rfl : n = l.length := by omega
      exact ⟨-1, by simp only [slices_IndexFunc_simpl_Clue_impl_Clue.l0]; rw [if_neg (by omega)], by simp⟩
    | succ d ih =>
      intro n k φ hn hk hφ
      obtain ⟨k, rfl⟩ : ∃ m, k = m + 1 := ⟨k - 1, by omega⟩
      have hlt : n < l.length := by omega
      have hx := hφ l[n] (List.getElem_mem hlt)
      obtain ⟨r, hr, hq⟩ := ih (n + 1) k φ (by omega) (by omega) hφ
      rw [List.drop_eq_getElem_cons hlt, List.any_cons]
      cases h : q l[n]
      · refine ⟨r, ?_, by simpa [h] using hq⟩
        simp only [slices_IndexFunc_simpl_Clue_impl_Clue.l0, rdC]
        rw [if_pos (by omega), if_pos (by omega), if_pos (by omega), getD_nat l _ n hlt, hx, h, w1 (by omega)]
        simpa using hr
      · refine ⟨n, ?_, by simp⟩
        simp only [slices_IndexFunc_simpl_Clue_impl_Clue.l0, rdC]
        rw [if_pos (by omega), if_pos (by omega), if_pos (by omega), getD_nat l _ n hlt, hx, h]
        rfl
  exact ⟨l.length + 1, fun k φ hk hφ => by simpa using H l.length 0 k φ (by omega) (by omega) hφ⟩
/-- Rounds enough for all of a list. -/
theorem ev_all {α β : Type} (l : List α) (g : α → Nat → Option β) (r : α → β) (h : ∀ x ∈ l, Ev (g x) (r x)) : ∃ K, ∀ k, K ≤ k → ∀ x ∈ l, g x k = some (r x) := by
  induction l with
  | nil => exact ⟨0, fun k _ x hx => by cases hx⟩
  | cons a l ih =>
    obtain ⟨K, hK⟩ := ih fun x hx => h x (by simp [hx])
    obtain ⟨L, hL⟩ := h a (by simp)
    refine ⟨max K L, fun k hk x hx => ?_⟩
    rcases List.mem_cons.1 hx with rfl | hx
    · exact hL k (by omega)
    · exact hK k (by omega) x hx
theorem impl_puzzle_ev (c : Int) (l : List Clue) (hl : l.length ≤ 1048576) : Ev (fun k => impl_IsPuzzle.f k c l) (puzzleB c l) := by
  unfold puzzleB
  by_cases hc : 2 ≤ c ∧ c ≤ 3
  · by_cases h6 : l.length ≤ 6
    · have hp : ∀ x ∈ l, Ev (fun k => impl_IsPuzzle_1.f k x.f0 x.f1 x.f2 c l) (!clueB c x.f0 x.f1 x.f2) := fun x _ => (impl_clue_ev c _ _ _ hc).bind (Ev.now _)
      obtain ⟨K, hK⟩ := ev_all l (fun x k => impl_IsPuzzle_1.f k x.f0 x.f1 x.f2 c l) (fun x => !clueB c x.f0 x.f1 x.f2) hp
      obtain ⟨L, hL⟩ := index_clue_loop l hl (fun x => !clueB c x.f0 x.f1 x.f2)
      refine ⟨max K L, fun k hk => ?_⟩
      obtain ⟨r, hr, hq⟩ := hL k (fun a b d => impl_IsPuzzle_1.f k a b d c l) (by omega) (hK k (by omega))
      simp only [impl_IsPuzzle.f, impl_isHiddenColours.f, within_is, Option.bind_some]
      rw [if_pos (by simpa using hc), if_pos (by omega)]
      simp only [slices_ContainsFunc_simpl_Clue_impl_Clue.f, slices_IndexFunc_simpl_Clue_impl_Clue.f, hr, Option.bind_some, hq]
      simp [hc, h6, List.all_eq_not_any_not]
    · refine ev_now fun k => ?_
      simp only [impl_IsPuzzle.f, impl_isHiddenColours.f, within_is, Option.bind_some]
      rw [if_pos (by simpa using hc), if_neg (by omega)]; simp [h6]
  · refine ev_now fun k => ?_
    simp only [impl_IsPuzzle.f, impl_isHiddenColours.f, within_is, Option.bind_some]
    rw [if_neg (by simpa using hc)]; simp [hc]
theorem puzzle_colours (c : Int) (l : List Clue) (h : puzzleB c l = true) : (2 ≤ c ∧ c ≤ 3) ∧ l.length ≤ 6 := by
  unfold puzzleB at h; simp only [Bool.and_eq_true, decide_eq_true_eq] at h; exact ⟨h.1.1, h.1.2⟩
/-! ### Socks -/
def allB (l : List Int) (a b : Int) : Bool := l.all fun x => decide (a ≤ x ∧ x ≤ b)
def wsum : Int → List Int → Int
  | s, [] => s
  | s, x :: l => wsum (wrap64 (s + x)) l
def socksB (l : List Int) : Bool := decide (1 ≤ l.length ∧ l.length ≤ 8) && (allB l 0 20 && decide (wsum 0 l > 0))
theorem l1All_loop (a b : Int) (l : List Int) (hl : l.length ≤ 1048576) (d : Nat) : ∀ (n k : Nat), n + d = l.length → d < k → spec_l1All.l0 k a b l (l.length : Int) n = some (allB (l.drop n) a b) := by
  induction d with
  | zero =>
    intro n k hn hk
    obtain ⟨k, rfl⟩ : ∃ m, k = m + 1 := ⟨k - 1, by omega⟩
    simp only [spec_l1All.l0]; rw [if_neg (by omega)]
    obtain rfl : n = l.length := by omega
    simp [allB]
  | succ d ih =>
    intro n k hn hk
    obtain ⟨k, rfl⟩ : ∃ m, k = m + 1 := ⟨k - 1, by omega⟩
    have hlt : n < l.length := by omega
    simp only [spec_l1All.l0, l1In_is, Option.bind_some]
    rw [if_pos (by omega), if_pos (by omega), if_pos (by omega), rdI l n hlt, w1 (by omega), ih (n + 1) k (by omega) (by omega), List.drop_eq_getElem_cons hlt]
    unfold allB; rw [List.all_cons]
    cases decide (a ≤ l[n] ∧ l[n] ≤ b) <;> simp
theorem l1All_ev (l : List Int) (hl : l.length ≤ 1048576) (a b : Int) : Ev (fun k => spec_l1All.f k l a b) (allB l a b) :=
  ⟨l.length + 1, fun k hk => by
    show spec_l1All.f k l a b = _
    unfold spec_l1All.f
    exact (l1All_loop a b l hl l.length 0 k (by omega) (by omega)).trans (by simp)⟩
theorem soSum_loop (l : List Int) (hl : l.length ≤ 1048576) (d : Nat) : ∀ (n k : Nat) (s : Int), n + d = l.length → d < k → spec_soSum.l0 k s l (l.length : Int) n = some (wsum s (l.drop n)) := by
  induction d with
  | zero =>
    intro n k s hn hk
    obtain ⟨k, rfl⟩ : ∃ m, k = m + 1 := ⟨k - 1, by omega⟩
    simp only [spec_soSum.l0]; rw [if_neg (by omega)]
    obtain rfl : n = l.length := by omega
    simp [wsum]
  | succ d ih =>
    intro n k s hn hk
    obtain ⟨k, rfl⟩ : ∃ m, k = m + 1 := ⟨k - 1, by omega⟩
    have hlt : n < l.length := by omega
    simp only [spec_soSum.l0]
    rw [if_pos (by omega), if_pos (by omega), if_pos (by omega), rdI l n hlt, w1 (by omega), ih (n + 1) k _ (by omega) (by omega), List.drop_eq_getElem_cons hlt]
    rfl
theorem soSum_ev (l : List Int) (hl : l.length ≤ 1048576) : Ev (fun k => spec_soSum.f k l) (wsum 0 l) :=
  ⟨l.length + 1, fun k hk => by
    show spec_soSum.f k l = _
    unfold spec_soSum.f
    exact (soSum_loop l hl l.length 0 k 0 (by omega) (by omega)).trans (by simp)⟩
theorem total_loop (l : List Int) (hl : l.length ≤ 1048576) (d : Nat) : ∀ (n k : Nat) (s : Int), n + d = l.length → d < k → impl_total.l0 k s l (l.length : Int) n = some (wsum s (l.drop n)) := by
  induction d with
  | zero =>
    intro n k s hn hk
    obtain ⟨k, rfl⟩ : ∃ m, k = m + 1 := ⟨k - 1, by omega⟩
    simp only [impl_total.l0]; rw [if_neg (by omega)]
    obtain rfl : n = l.length := by omega
    simp [wsum]
  | succ d ih =>
    intro n k s hn hk
    obtain ⟨k, rfl⟩ : ∃ m, k = m + 1 := ⟨k - 1, by omega⟩
    have hlt : n < l.length := by omega
    simp only [impl_total.l0]
    rw [if_pos (by omega), if_pos (by omega), if_pos (by omega), rdI l n hlt, w1 (by omega), ih (n + 1) k _ (by omega) (by omega), List.drop_eq_getElem_cons hlt]
    rfl
theorem total_ev (l : List Int) (hl : l.length ≤ 1048576) : Ev (fun k => impl_total.f k l) (wsum 0 l) :=
  ⟨l.length + 1, fun k hk => by
    show impl_total.f k l = _
    unfold impl_total.f
    exact (total_loop l hl l.length 0 k 0 (by omega) (by omega)).trans (by simp)⟩
theorem index_int_loop (l : List Int) (hl : l.length ≤ 1048576) (φ : Int → Option Bool) (q : Int → Bool) (hφ : ∀ x ∈ l, φ x = some (q x)) (d : Nat) : ∀ (n k : Nat), n + d = l.length → d < k →
    ∃ r, slices_IndexFunc_sint_int.l0 k l φ (l.length : Int) n = some r ∧ (decide (r ≥ 0) = (l.drop n).any q) := by
  induction d with
  | zero =>
    intro n k hn hk
    obtain ⟨k, rfl⟩ : ∃ m, k = m + 1 := ⟨k - 1, by omega⟩
    obtain rfl : n = l.length := by omega
    exact ⟨-1, by simp only [slices_IndexFunc_sint_int.l0]; rw [if_neg (by omega)], by simp⟩
  | succ d ih =>
    intro n k hn hk
    obtain ⟨k, rfl⟩ : ∃ m, k = m + 1 := ⟨k - 1, by omega⟩
    have hlt : n < l.length := by omega
    have hx := hφ l[n] (List.getElem_mem hlt)
    obtain ⟨r, hr, hq⟩ := ih (n + 1) k (by omega) (by omega)
    rw [List.drop_eq_getElem_cons hlt, List.any_cons]
    cases h : q l[n]
    · refine ⟨r, ?_, by simpa [h] using hq⟩
      simp only [slices_IndexFunc_sint_int.l0]
      rw [if_pos (by omega), if_pos (by omega), if_pos (by omega), rdI l n hlt, hx, h, w1 (by omega)]
      simpa using hr
    · refine ⟨n, ?_, by simp⟩
      simp only [slices_IndexFunc_sint_int.l0]
      rw [if_pos (by omega), if_pos (by omega), if_pos (by omega), rdI l n hlt, hx, h]
      rfl
theorem contains_int_ev (l : List Int) (hl : l.length ≤ 1048576) (φ : Int → Option Bool) (q : Int → Bool) (hφ : ∀ x ∈ l, φ x = some (q x)) : Ev (fun k => slices_ContainsFunc_sint_int.f k l φ) (l.any q) :=
  ⟨l.length + 1, fun k hk => by
    show slices_ContainsFunc_sint_int.f k l φ = _
    obtain ⟨r, hr, hq⟩ := index_int_loop l hl φ q hφ l.length 0 k (by omega) (by omega)
    simp only [slices_ContainsFunc_sint_int.f, slices_IndexFunc_sint_int.f]
    have hr' : slices_IndexFunc_sint_int.l0 k l φ (l.length : Int) 0 = some r := by simpa using hr
    rw [hr']; simp only [Option.bind_some, hq]; simp⟩
theorem areWithin_ev (l : List Int) (hl : l.length ≤ 1048576) (a b : Int) : Ev (fun k => impl_areWithin.f k l a b) (allB l a b) := by
  refine ev_eq ((contains_int_ev l hl (fun x => impl_areWithin_1.f x a b) (fun x => !decide (a ≤ x ∧ x ≤ b)) (fun x _ => by simp only [impl_areWithin_1.f, within_is, Option.bind_some])).bind (Ev.now (!_))) ?_
  unfold allB; rw [List.all_eq_not_any_not]
theorem AreSocks_ev (l : List Int) (hl : l.length ≤ 1048576) : Ev (fun k => impl_AreSocks.f k l) (socksB l) := by
  unfold socksB impl_AreSocks.f
  simp only [within_is, Option.bind_some]
  by_cases h : 1 ≤ l.length ∧ l.length ≤ 8
  · have h' : (1 : Int) ≤ (l.length : Int) ∧ (l.length : Int) ≤ 8 := by omega
    simp only [h, h', and_self, decide_true, if_true, Bool.true_and]
    refine (areWithin_ev l hl 0 20).bind ?_
    cases allB l 0 20
    · exact Ev.now _
    · simp only [if_true, Bool.true_and]; exact (total_ev l hl).bind (Ev.now _)
  · have h' : ¬ ((1 : Int) ≤ (l.length : Int) ∧ (l.length : Int) ≤ 8) := by omega
    simp only [h, h', decide_false, Bool.false_eq_true, if_false, Bool.false_and]; exact Ev.now _
theorem soGood_ev (l : List Int) (hl : l.length ≤ 1048576) : Ev (fun k => spec_soGood.f k l) (socksB l) := by
  unfold socksB spec_soGood.f
  simp only [l1In_is, Option.bind_some]
  by_cases h : 1 ≤ l.length ∧ l.length ≤ 8
  · have h' : (1 : Int) ≤ (l.length : Int) ∧ (l.length : Int) ≤ 8 := by omega
    simp only [h, h', and_self, decide_true, if_true, Bool.true_and]
    refine (l1All_ev l hl 0 20).bind ?_
    cases allB l 0 20
    · exact Ev.now _
    · simp only [if_true, Bool.true_and]; exact (soSum_ev l hl).bind (Ev.now _)
  · have h' : ¬ ((1 : Int) ≤ (l.length : Int) ∧ (l.length : Int) ≤ 8) := by omega
    simp only [h, h', decide_false, Bool.false_eq_true, if_false, Bool.false_and]; exact Ev.now _
/-! ### Hidden socks: a few, all looked at -/
def hiddenB (l : List Int) : Bool := decide (2 ≤ l.length ∧ l.length ≤ 3) && (allB l 0 5 && decide (wsum 0 l > 0))
def hiddenAll : Nat → List (List Int)
  | 0 => [[]]
  | n + 1 => (hiddenAll n).flatMap fun s => [0, 1, 2, 3, 4, 5].map fun x => s ++ [x]
theorem mem_hiddenAll : ∀ (n : Nat) (l : List Int), l.length = n → (∀ x ∈ l, 0 ≤ x ∧ x ≤ 5) → l ∈ hiddenAll n
  | 0, l, h, _ => by rw [List.length_eq_zero_iff.1 h]; exact List.mem_singleton.2 rfl
  | n + 1, l, h, hx => by
    have hne : l ≠ [] := by intro e; rw [e] at h; simp at h
    rw [← List.dropLast_concat_getLast hne]
    refine List.mem_flatMap.2 ⟨l.dropLast, mem_hiddenAll n _ (by simp [h]) (fun x hm => hx x ((List.dropLast_sublist l).subset hm)), List.mem_map.2 ⟨l.getLast hne, ?_, rfl⟩⟩
    have := hx _ (List.getLast_mem hne)
    simp only [List.mem_cons, List.not_mem_nil, or_false]; omega
def asked : Nat → List (Int × Int)
  | n => [(0, 0), (2, 0), (5, 0), (3, 1), (3, 2), (3, 3), (3, 4), (3, 5), (3, 6)] ++ (List.range n).flatMap fun (i : Nat) => [(1, (i : Int)), (4, (i : Int))]
/-- What is told of hidden socks: looked at for all of them. -/
def tellsB (n : Nat) : Bool := (hiddenAll n).all fun l => (asked n).all fun q => match impl_toldBy.f 300 q.1 q.2 l, spec_pzValue.f 300 q.1 q.2 l with
  | some x, some y => x == y
  | _, _ => false
theorem idx_int_mono (φ : Int → Option Bool) : ∀ (k : Nat) (l : List Int) (n i : Int), LeO (slices_IndexFunc_sint_int.l0 k l φ n i) (slices_IndexFunc_sint_int.l0 (k + 1) l φ n i)
  | 0, _, _, _ => LeO.none _
  | k + 1, l, n, i => LeO.ite (LeO.ite (LeO.ite (LeO.bind (LeO.refl _) fun t => LeO.ite (LeO.refl _) (idx_int_mono φ k l n _)) (LeO.refl _)) (LeO.refl _)) (LeO.refl _)
theorem contains_int_mono (φ : Int → Option Bool) (l : List Int) (k : Nat) : LeO (slices_ContainsFunc_sint_int.f k l φ) (slices_ContainsFunc_sint_int.f (k + 1) l φ) := LeO.bind (idx_int_mono φ k l _ _) fun _ => LeO.refl _
theorem areWithin_mono (l : List Int) (a b : Int) (k : Nat) : LeO (impl_areWithin.f k l a b) (impl_areWithin.f (k + 1) l a b) := LeO.bind (contains_int_mono _ l k) fun _ => LeO.refl _
theorem areSocks_mono (l : List Int) (k : Nat) : LeO (impl_AreSocks.f k l) (impl_AreSocks.f (k + 1) l) :=
  LeO.bind (LeO.refl _) fun _ => LeO.ite (LeO.bind (areWithin_mono l _ _ k) fun _ => LeO.ite (LeO.bind (impl_total.mono l k) fun _ => LeO.refl _) (LeO.refl _)) (LeO.refl _)
theorem surePairs_mono (l : List Int) (a : Int) (k : Nat) : LeO (impl_SurePairs.f k l a) (impl_SurePairs.f (k + 1) l a) :=
  LeO.bind (areSocks_mono l k) fun _ => LeO.ite (LeO.bind (impl_pairsOf.mono l k) fun _ => LeO.bind (LeO.refl _) fun _ => LeO.ite (LeO.bind (impl_worst.mono l _ k) fun _ => LeO.refl _) (LeO.refl _)) (LeO.refl _)
theorem told_loop_mono : ∀ (k : Nat) (x : Int) (l : List Int) (n i : Int), LeO (impl_toldBy.l0 k x l n i) (impl_toldBy.l0 (k + 1) x l n i)
  | 0, _, _, _, _ => LeO.none _
  | k + 1, x, l, n, i => LeO.ite (LeO.ite (LeO.ite (LeO.ite (told_loop_mono k _ l n _) (told_loop_mono k _ l n _)) (LeO.refl _)) (LeO.refl _)) (LeO.refl _)
theorem told_mono (kd a : Int) (l : List Int) (k : Nat) : LeO (impl_toldBy.f k kd a l) (impl_toldBy.f (k + 1) kd a l) :=
  LeO.ite (LeO.bind (impl_total.mono l k) fun _ => LeO.refl _) (LeO.ite (LeO.refl _) (LeO.ite (LeO.bind (impl_pairsOf.mono l k) fun _ => LeO.refl _) (LeO.ite (LeO.bind (surePairs_mono l a k) fun _ => LeO.refl _) (LeO.ite (LeO.refl _) (told_loop_mono k _ l _ _)))))
theorem tells2 : tellsB 2 = true := by decide +kernel
theorem tells3 : tellsB 3 = true := by decide +kernel
theorem mem_asked (n : Nat) (hn : 2 ≤ n ∧ n ≤ 3) (kd a b : Int) (h : clueB n kd a b = true) : (kd, a) ∈ asked n := by
  have hn' : n = 2 ∨ n = 3 := by omega
  unfold clueB at h
  simp only [Bool.and_eq_true, decide_eq_true_eq] at h
  obtain ⟨_, h⟩ := h
  split at h
  · rename_i hk
    have : a = 0 := by simpa using h
    subst this
    rcases hk with rfl | rfl | rfl <;> simp [asked]
  · split at h
    · rename_i h1; subst h1
      have h := of_decide_eq_true h
      rcases hn' with rfl | rfl
      · have : a = 0 ∨ a = 1 := by omega
        rcases this with rfl | rfl <;> decide
      · have : a = 0 ∨ a = 1 ∨ a = 2 := by omega
        rcases this with rfl | rfl | rfl <;> decide
    · split at h
      · rename_i h1; subst h1
        have h := of_decide_eq_true h
        have : a = 1 ∨ a = 2 ∨ a = 3 ∨ a = 4 ∨ a = 5 ∨ a = 6 := by omega
        rcases this with rfl | rfl | rfl | rfl | rfl | rfl <;> simp [asked]
      · split at h
        · rename_i h1; subst h1
          have h := of_decide_eq_true h
          rcases hn' with rfl | rfl
          · have : a = 0 ∨ a = 1 := by omega
            rcases this with rfl | rfl <;> decide
          · have : a = 0 ∨ a = 1 ∨ a = 2 := by omega
            rcases this with rfl | rfl | rfl <;> decide
        · cases h
/-- What is told: the same on both sides. -/
theorem told_of (n : Nat) (hn : 2 ≤ n ∧ n ≤ 3) (l : List Int) (hl : l ∈ hiddenAll n) (kd a b : Int) (h : clueB n kd a b = true) : ∃ r, Ev (fun k => impl_toldBy.f k kd a l) r ∧ Ev (fun k => spec_pzValue.f k kd a l) r := by
  have ht : tellsB n = true := by
    rcases (show n = 2 ∨ n = 3 by omega) with rfl | rfl
    · exact tells2
    · exact tells3
  have h1 := List.all_eq_true.1 (List.all_eq_true.1 ht l hl) _ (mem_asked n hn kd a b h)
  simp only at h1
  split at h1
  · rename_i x y hx hy
    have e : x = y := by simpa using h1
    subst e
    exact ⟨x, ⟨300, fun k hk => at_rounds (told_mono kd a l) hk hx⟩, ⟨300, fun k hk => at_rounds (spec_pzValue.mono kd a l) hk hy⟩⟩
  · cases h1
theorem hidden_mem (l : List Int) (h : hiddenB l = true) : (2 ≤ l.length ∧ l.length ≤ 3) ∧ l ∈ hiddenAll l.length := by
  unfold hiddenB allB at h
  simp only [Bool.and_eq_true, decide_eq_true_eq] at h
  exact ⟨h.1, mem_hiddenAll _ l rfl (fun x hx => by simpa using List.all_eq_true.1 h.2.1 x hx)⟩
/-! ### Solutions: on both sides all hidden socks, in order, that fit the clues -/
def told (kd a : Int) (s : List Int) : Int := (impl_toldBy.f 300 kd a s).getD 0
def cluesB (c : Int) (l : List Clue) : Bool := l.all fun x => clueB c x.f0 x.f1 x.f2
def fitB (s : List Int) (x : Clue) : Bool := told x.f0 x.f1 s == x.f2
theorem told_ev (n : Nat) (hn : 2 ≤ n ∧ n ≤ 3) (s : List Int) (hs : s ∈ hiddenAll n) (kd a b : Int) (h : clueB n kd a b = true) : Ev (fun k => impl_toldBy.f k kd a s) (told kd a s) ∧ Ev (fun k => spec_pzValue.f k kd a s) (told kd a s) := by
  have ht : tellsB n = true := by
    rcases (show n = 2 ∨ n = 3 by omega) with rfl | rfl
    · exact tells2
    · exact tells3
  have h1 := List.all_eq_true.1 (List.all_eq_true.1 ht s hs) _ (mem_asked n hn kd a b h)
  simp only at h1
  split at h1
  · rename_i x y hx hy
    have e : x = y := by simpa using h1
    subst e
    have e2 : told kd a s = x := by unfold told; rw [hx]; rfl
    rw [e2]
    exact ⟨⟨300, fun k hk => at_rounds (told_mono kd a s) hk hx⟩, ⟨300, fun k hk => at_rounds (spec_pzValue.mono kd a s) hk hy⟩⟩
  · cases h1
/-- From some rounds on for all of them. -/
theorem ev_all2 {α β : Type} (φ : Nat → α → Option β) (q : α → β) : ∀ (xs : List α), (∀ x ∈ xs, Ev (fun k => φ k x) (q x)) → ∃ N, ∀ k, N ≤ k → ∀ x ∈ xs, φ k x = some (q x)
  | [], _ => ⟨0, fun _ _ x hx => by simp at hx⟩
  | x :: xs, h => by
    obtain ⟨N, hN⟩ := h x (List.mem_cons_self ..)
    obtain ⟨M, hM⟩ := ev_all2 φ q xs (fun y hy => h y (List.mem_cons_of_mem _ hy))
    refine ⟨max N M, fun k hk y hy => ?_⟩
    rcases List.mem_cons.1 hy with rfl | hy
    · exact hN k (by omega)
    · exact hM k (by omega) y hy
theorem rdC' (l : List Clue) (n : Nat) (h : n < l.length) : rd_T44 l (n : Int) = l[n] := by rw [rdC, getD_nat l _ n h]
theorem idx_clue_loop (l : List Clue) (hl : l.length ≤ 1048576) (φ : Int → Int → Int → Option Bool) (q : Clue → Bool) (hφ : ∀ x ∈ l, φ x.f0 x.f1 x.f2 = some (q x)) (d : Nat) : ∀ (n k : Nat), n + d = l.length → d < k →
    ∃ r, slices_IndexFunc_simpl_Clue_impl_Clue.l0 k l φ (l.length : Int) n = some r ∧ (decide (r ≥ 0) = (l.drop n).any q) := by
  induction d with
  | zero =>
    intro n k hn hk
    obtain ⟨k, rfl⟩ : ∃ m, k = m + 1 := ⟨k - 1, by omega⟩
    obtain rfl : n = l.length := by omega
    exact ⟨-1, by simp only [slices_IndexFunc_simpl_Clue_impl_Clue.l0]; rw [if_neg (by omega)], by simp⟩
  | succ d ih =>
    intro n k hn hk
    obtain ⟨k, rfl⟩ : ∃ m, k = m + 1 := ⟨k - 1, by omega⟩
    have hlt : n < l.length := by omega
    have hx := hφ l[n] (List.getElem_mem hlt)
    obtain ⟨r, hr, hq⟩ := ih (n + 1) k (by omega) (by omega)
    rw [List.drop_eq_getElem_cons hlt, List.any_cons]
    cases h : q l[n]
    · refine ⟨r, ?_, by simpa [h] using hq⟩
      simp only [slices_IndexFunc_simpl_Clue_impl_Clue.l0]
      rw [if_pos (by omega), if_pos (by omega), if_pos (by omega), rdC' l n hlt, hx, h, w1 (by omega)]
      simpa using hr
    · refine ⟨n, ?_, by simp⟩
      simp only [slices_IndexFunc_simpl_Clue_impl_Clue.l0]
      rw [if_pos (by omega), if_pos (by omega), if_pos (by omega), rdC' l n hlt, hx, h]
      rfl
theorem solve1_ev (n : Nat) (hn : 2 ≤ n ∧ n ≤ 3) (l : List Clue) (hl : l.length ≤ 1048576) (hc : cluesB n l = true) (s : List Int) (hs : s ∈ hiddenAll n) : Ev (fun k => impl_solve_1.f k s l) (l.any fun x => !fitB s x) := by
  obtain ⟨N, hN⟩ := ev_all2 (fun k (x : Clue) => impl_solve_1_1.f k x.f0 x.f1 x.f2 s) (fun x => !fitB s x) l (fun x hx => by
    have h1 := (told_ev n hn s hs x.f0 x.f1 x.f2 (List.all_eq_true.1 hc x hx)).1
    exact h1.bind (f := fun k t => some (t != x.f2)) (Ev.now _))
  refine ⟨max N (l.length + 1), fun k hk => ?_⟩
  obtain ⟨r, hr, hq⟩ := idx_clue_loop l hl (fun b0 b1 b2 => impl_solve_1_1.f k b0 b1 b2 s) (fun x => !fitB s x) (hN k (by omega)) l.length 0 k (by omega) (by omega)
  have hr' : slices_IndexFunc_simpl_Clue_impl_Clue.l0 k l (fun b0 b1 b2 => impl_solve_1_1.f k b0 b1 b2 s) (l.length : Int) 0 = some r := by simpa using hr
  simp only [impl_solve_1.f, slices_ContainsFunc_simpl_Clue_impl_Clue.f, slices_IndexFunc_simpl_Clue_impl_Clue.f, hr', Option.bind_some, hq]
  simp
theorem left_is (φ : List Int → Option Bool) (q : List Int → Bool) : ∀ (xs : List (List Int)), (∀ x ∈ xs, φ x = some (q x)) → impl_solve.left φ xs = some (xs.filter fun x => !q x)
  | [], _ => rfl
  | x :: xs, h => by
    rw [impl_solve.left, h x (List.mem_cons_self ..), left_is φ q xs (fun y hy => h y (List.mem_cons_of_mem _ hy))]
    simp only [Option.bind_some, List.filter_cons]
    cases q x <;> simp
theorem idx_rows_loop (l : List (List Int)) (hl : l.length ≤ 1048576) (φ : List Int → Option Bool) (q : List Int → Bool) (hφ : ∀ x ∈ l, φ x = some (q x)) (d : Nat) : ∀ (n k : Nat), n + d = l.length → d < k →
    (slices_IndexFunc_ssint_sint.l0 k l φ (l.length : Int) n = some (-1) ∧ ∀ x ∈ l.drop n, q x = false) ∨ ∃ m : Nat, n ≤ m ∧ ∃ hm : m < l.length, slices_IndexFunc_ssint_sint.l0 k l φ (l.length : Int) n = some (m : Int) ∧ q l[m] = true ∧ ∀ x ∈ (l.take m).drop n, q x = false := by
  induction d with
  | zero =>
    intro n k hn hk
    obtain ⟨k, rfl⟩ : ∃ m, k = m + 1 := ⟨k - 1, by omega⟩
    obtain rfl : n = l.length := by omega
    exact .inl ⟨by simp only [slices_IndexFunc_ssint_sint.l0]; rw [if_neg (by omega)], by simp⟩
  | succ d ih =>
    intro n k hn hk
    obtain ⟨k, rfl⟩ : ∃ m, k = m + 1 := ⟨k - 1, by omega⟩
    have hlt : n < l.length := by omega
    have hx := hφ l[n] (List.getElem_mem hlt)
    have hrd : rd_L3 l (n : Int) = l[n] := getD_nat l [] n hlt
    cases h : q l[n]
    · have hgo : slices_IndexFunc_ssint_sint.l0 (k + 1) l φ (l.length : Int) n = slices_IndexFunc_ssint_sint.l0 k l φ (l.length : Int) ((n + 1 : Nat) : Int) := by
        simp only [slices_IndexFunc_ssint_sint.l0]
        rw [if_pos (by omega), if_pos (by omega), if_pos (by omega), hrd, hx, h, w1 (by omega)]
        simp
      rw [hgo]
      rcases ih (n + 1) k (by omega) (by omega) with ⟨h1, h2⟩ | ⟨m, hm1, hm, h1, h2, h3⟩
      · refine .inl ⟨h1, fun x hxm => ?_⟩
        rw [List.drop_eq_getElem_cons hlt] at hxm
        rcases List.mem_cons.1 hxm with rfl | hxm
        · exact h
        · exact h2 x hxm
      · refine .inr ⟨m, by omega, hm, h1, h2, fun x hxm => ?_⟩
        have hlt2 : n < (l.take m).length := by simp; omega
        rw [List.drop_eq_getElem_cons hlt2] at hxm
        rcases List.mem_cons.1 hxm with rfl | hxm
        · rw [List.getElem_take]; exact h
        · exact h3 x hxm
    · refine .inr ⟨n, Nat.le_refl _, hlt, ?_, h, fun x hxm => ?_⟩
      · simp only [slices_IndexFunc_ssint_sint.l0]
        rw [if_pos (by omega), if_pos (by omega), if_pos (by omega), hrd, hx, h]
        rfl
      · rw [List.drop_eq_nil_of_le (by simp; omega)] at hxm; cases hxm
theorem filter_keep {α : Type} (p : α → Bool) (l : List α) (h : ∀ x ∈ l, p x = true) : l.filter p = l := List.filter_eq_self.2 h
theorem del_is (k : Nat) (l : List (List Int)) (hl : l.length ≤ 1048576) (hk : l.length < k) (φ : List Int → Option Bool) (q : List Int → Bool) (hφ : ∀ x ∈ l, φ x = some (q x)) : impl_solve.del k l φ = some (l.filter fun x => !q x) := by
  unfold impl_solve.del slices_IndexFunc_ssint_sint.f
  rcases idx_rows_loop l hl φ q hφ l.length 0 k (by omega) hk with ⟨h1, h2⟩ | ⟨m, _, hm, h1, h2, h3⟩
  · have h1' : slices_IndexFunc_ssint_sint.l0 k l φ (l.length : Int) 0 = some (-1) := by simpa using h1
    rw [h1']; simp only [Option.bind_some, if_true]
    rw [filter_keep]
    intro x hx; rw [h2 x (by simpa using hx)]; rfl
  · have h1' : slices_IndexFunc_ssint_sint.l0 k l φ (l.length : Int) 0 = some (m : Int) := by simpa using h1
    rw [h1']; simp only [Option.bind_some]
    rw [if_neg (by omega), if_pos (by omega), Int.toNat_natCast, left_is φ q _ (fun x hx => hφ x (List.mem_of_mem_drop hx))]
    simp only [Option.bind_some, Option.some.injEq]
    conv => rhs; rw [← List.take_append_drop m l, List.filter_append, List.drop_eq_getElem_cons hm, List.filter_cons_of_neg (by simp [h2])]
    rw [filter_keep (fun x => !q x) (l.take m) (fun x hx => by rw [h3 x (by simpa using hx)]; rfl)]
def sols (n : Nat) (l : List Clue) : List (List Int) := ((hiddenAll n).drop 1).filter fun s => l.all (fitB s)
theorem hidden_two : impl_hidden.f 400 2 = some ((hiddenAll 2).drop 1) := by decide +kernel
theorem hidden_three : impl_hidden.f 400 3 = some ((hiddenAll 3).drop 1) := by decide +kernel
theorem hidden_ev (n : Nat) (hn : 2 ≤ n ∧ n ≤ 3) : Ev (fun k => impl_hidden.f k n) ((hiddenAll n).drop 1) := by
  rcases (show n = 2 ∨ n = 3 by omega) with rfl | rfl
  · exact ⟨400, fun k hk => at_rounds (impl_hidden.mono 2) hk hidden_two⟩
  · exact ⟨400, fun k hk => at_rounds (impl_hidden.mono 3) hk hidden_three⟩
theorem hidden_len (n : Nat) (hn : 2 ≤ n ∧ n ≤ 3) : ((hiddenAll n).drop 1).length ≤ 1048576 := by
  rcases (show n = 2 ∨ n = 3 by omega) with rfl | rfl <;> decide +kernel
theorem solve_ev (n : Nat) (hn : 2 ≤ n ∧ n ≤ 3) (l : List Clue) (hl : l.length ≤ 1048576) (hc : cluesB n l = true) : Ev (fun k => impl_solve.f k n l) (sols n l) := by
  refine (hidden_ev n hn).bind ?_
  obtain ⟨N, hN⟩ := ev_all2 (fun k s => impl_solve_1.f k s l) (fun s => l.any fun x => !fitB s x) ((hiddenAll n).drop 1) (fun s hs => solve1_ev n hn l hl hc s (List.mem_of_mem_drop hs))
  refine ⟨max N (((hiddenAll n).drop 1).length + 1), fun k hk => ?_⟩
  show impl_solve.del k _ _ = _
  rw [del_is k _ (hidden_len n hn) (by omega) _ (fun s => l.any fun x => !fitB s x) (hN k (by omega))]
  unfold sols
  congr 1
  refine List.filter_congr fun s _ => ?_
  simp [List.all_eq_not_any_not]
/-! ### The reference's search -/
def lookR (l : List Clue) : Nat → List Int → List (List Int)
  | 0, b => if wsum 0 b = 0 then [] else if l.all (fitB b) = true then [b] else []
  | m + 1, b => [0, 1, 2, 3, 4, 5].flatMap fun x => lookR l m (b ++ [x])
theorem own_is (b : List Int) (hb : b.length ≤ 1048576) : spec_l1Own.f b = some b := by
  simp only [spec_l1Own.f, Option.bind_some, List.nil_append]; rw [if_pos (by simp; omega)]
theorem look_clues (n : Nat) (hn : 2 ≤ n ∧ n ≤ 3) (l : List Clue) (hl : l.length ≤ 1048576) (hc : cluesB n l = true) (b : List Int) (hb : b ∈ hiddenAll n) (acc : List (List Int)) (ha : acc.length ≤ 1048576) (d : Nat) : ∀ (i : Nat), i + d = l.length → Ev (fun k => spec_pzLook.l1 k l b acc i) (if (l.drop i).all (fitB b) = true then acc ++ [b] else acc) := by
  induction d with
  | zero =>
    intro i hi
    obtain rfl : i = l.length := by omega
    refine ev_late 1 fun k => ?_
    simp only [spec_pzLook.l1]; rw [if_neg (by omega), if_pos (by omega)]
    simp
  | succ d ih =>
    intro i hi
    have hlt : i < l.length := by omega
    have h1 := (told_ev n hn b hb l[i].f0 l[i].f1 l[i].f2 (List.all_eq_true.1 hc l[i] (List.getElem_mem hlt))).2
    have h2 : Ev (fun k => spec_pzFits.f k l[i].f0 l[i].f1 l[i].f2 b) (fitB b l[i]) := h1.bind (Ev.now (told l[i].f0 l[i].f1 b == l[i].f2))
    refine Ev.step (f := fun k => (spec_pzFits.f k l[i].f0 l[i].f1 l[i].f2 b).bind fun t => if t = true then spec_pzLook.l1 k l b acc ((i + 1 : Nat) : Int) else some acc) (fun k => ?_) ?_
    · simp only [spec_pzLook.l1, rdC' l i hlt]
      rw [if_pos (by omega), if_pos (by omega), w1 (by omega)]
    · refine h2.bind ?_
      rw [List.drop_eq_getElem_cons hlt, List.all_cons]
      cases fitB b l[i]
      · simp only [Bool.false_eq_true, if_false, Bool.false_and]; exact Ev.now _
      · simp only [if_true, Bool.true_and]; exact ih (i + 1) (by omega)
theorem lookR_len (l : List Clue) : ∀ (m : Nat) (b : List Int), (lookR l m b).length ≤ 6 ^ m
  | 0, b => by simp only [lookR]; split <;> (try split) <;> simp
  | m + 1, b => by
    simp only [lookR, List.flatMap_cons, List.flatMap_nil, List.length_append, List.length_nil]
    have h0 := lookR_len l m (b ++ [0]); have h1 := lookR_len l m (b ++ [1]); have h2 := lookR_len l m (b ++ [2])
    have h3 := lookR_len l m (b ++ [3]); have h4 := lookR_len l m (b ++ [4]); have h5 := lookR_len l m (b ++ [5])
    rw [Nat.pow_succ]; omega
theorem look_ev (n : Nat) (hn : 2 ≤ n ∧ n ≤ 3) (l : List Clue) (hl : l.length ≤ 1048576) (hc : cluesB n l = true) : ∀ (m : Nat) (b : List Int) (acc : List (List Int)), b.length + m = n → b ∈ hiddenAll b.length → acc.length + 6 ^ m ≤ 1048576 → Ev (fun k => spec_pzLook.f k m l b acc) (acc ++ lookR l m b)
  | 0, b, acc, hb, hm, ha => by
    have hb' : b.length = n := by omega
    rw [hb'] at hm
    refine Ev.step (f := fun k => (spec_soSum.f k b).bind fun s => if s = 0 then some acc else spec_pzLook.l1 k l b acc 0) (fun k => ?_) ?_
    · simp only [spec_pzLook.f]; rw [if_neg (by omega)]
    · refine (soSum_ev b (by omega)).bind ?_
      simp only [lookR]
      by_cases h0 : wsum 0 b = 0
      · simp only [h0, if_true, List.append_nil]; exact Ev.now _
      · simp only [h0, if_false]
        refine ev_eq (look_clues n hn l hl hc b hm acc (by simp at ha; omega) l.length 0 (by omega)) ?_
        rw [List.drop_zero]
        split <;> simp
  | m + 1, b, acc, hb, hm, ha => by
    have hmem : ∀ x : Int, x ∈ [(0 : Int), 1, 2, 3, 4, 5] → b ++ [x] ∈ hiddenAll (b ++ [x]).length := fun x hx => by
      rw [List.length_append, List.length_singleton]
      exact List.mem_flatMap.2 ⟨b, hm, List.mem_map.2 ⟨x, hx, rfl⟩⟩
    have hp : 6 ^ (m + 1) = 6 ^ m * 6 := Nat.pow_succ ..
    have round : ∀ (i : Nat) (acc1 : List (List Int)) (r : List (List Int)), i ≤ 5 → acc1.length + 6 ^ m ≤ 1048576 → Ev (fun k => spec_pzLook.l0 k ((m + 1 : Nat) : Int) l b (acc1 ++ lookR l m (b ++ [(i : Int)])) ((i + 1 : Nat) : Int)) r → Ev (fun k => spec_pzLook.l0 k ((m + 1 : Nat) : Int) l b acc1 (i : Int)) r := by
      intro i acc1 r hi ha1 hr
      refine Ev.step (f := fun k => (spec_pzLook.f k m l (b ++ [(i : Int)]) acc1).bind fun acc2 => spec_pzLook.l0 k ((m + 1 : Nat) : Int) l b acc2 ((i + 1 : Nat) : Int)) (fun k => ?_) ?_
      · simp only [spec_pzLook.l0]
        rw [if_pos (by omega), own_is b (by omega)]
        simp only [Option.bind_some]
        rw [if_pos (by omega), w1 (by omega), w0 (x := ((m + 1 : Nat) : Int) - 1) (by omega) (by omega), show ((m + 1 : Nat) : Int) - 1 = (m : Int) by omega]
      · exact (look_ev n hn l hl hc m (b ++ [(i : Int)]) acc1 (by simp; omega) (hmem _ (by simp only [List.mem_cons, List.not_mem_nil, or_false]; omega)) ha1).bind hr
    refine Ev.step (f := fun k => spec_pzLook.l0 k ((m + 1 : Nat) : Int) l b acc ((0 : Nat) : Int)) (fun k => ?_) ?_
    · simp only [spec_pzLook.f]; rw [if_pos (by omega)]; rfl
    · have L := fun x => lookR_len l m (b ++ [x])
      have l0 := L 0; have l1 := L 1; have l2 := L 2; have l3 := L 3; have l4 := L 4
      refine round 0 _ _ (by omega) (by omega) ?_
      refine round 1 _ _ (by omega) (by simp only [List.length_append]; simp; omega) ?_
      refine round 2 _ _ (by omega) (by simp only [List.length_append]; simp; omega) ?_
      refine round 3 _ _ (by omega) (by simp only [List.length_append]; simp; omega) ?_
      refine round 4 _ _ (by omega) (by simp only [List.length_append]; simp; omega) ?_
      refine round 5 _ _ (by omega) (by have l5 := L 5; simp only [List.length_append]; simp; omega) ?_
      refine ev_late 1 fun k => ?_
      simp only [spec_pzLook.l0]; rw [if_neg (by omega)]
      simp [lookR, List.append_assoc]
def ext : Nat → List Int → List (List Int)
  | 0, b => [b]
  | m + 1, b => [0, 1, 2, 3, 4, 5].flatMap fun x => ext m (b ++ [x])
theorem ext_two : (ext 2 []).filter (fun s => !decide (wsum 0 s = 0)) = (hiddenAll 2).drop 1 := by decide +kernel
theorem ext_three : (ext 3 []).filter (fun s => !decide (wsum 0 s = 0)) = (hiddenAll 3).drop 1 := by decide +kernel
theorem lookR_ext (l : List Clue) : ∀ (m : Nat) (b : List Int), lookR l m b = ((ext m b).filter fun s => !decide (wsum 0 s = 0)).filter fun s => l.all (fitB s)
  | 0, b => by
    simp only [lookR, ext]
    by_cases h0 : wsum 0 b = 0
    · simp [h0]
    · by_cases h1 : l.all (fitB b) = true
      · simp only [h0, if_false, h1, if_true]; rw [List.filter_cons_of_pos (by simp [h0])]; rw [List.filter_nil, List.filter_cons_of_pos (by simpa using h1), List.filter_nil]
      · simp only [h0, if_false, h1]; rw [List.filter_cons_of_pos (by simp [h0])]; rw [List.filter_nil, List.filter_cons_of_neg (by simpa using h1), List.filter_nil]; simp
  | m + 1, b => by
    simp only [lookR, ext, List.flatMap_cons, List.flatMap_nil, List.append_nil, List.filter_append, lookR_ext l m]
theorem pzAll_ev (n : Nat) (hn : 2 ≤ n ∧ n ≤ 3) (l : List Clue) (hl : l.length ≤ 1048576) (hc : cluesB n l = true) : Ev (fun k => spec_pzAll.f k n l) (sols n l) := by
  have h := look_ev n hn l hl hc n [] [] (by simp) (by exact List.mem_singleton.2 rfl) (by
    rcases (show n = 2 ∨ n = 3 by omega) with rfl | rfl <;> decide)
  refine ev_eq h ?_
  rw [List.nil_append, lookR_ext]
  unfold sols
  rcases (show n = 2 ∨ n = 3 by omega) with rfl | rfl
  · rw [ext_two]
  · rw [ext_three]
theorem puzzle_parts (c : Int) (l : List Clue) (h : puzzleB c l = true) : ∃ n : Nat, (2 ≤ n ∧ n ≤ 3) ∧ c = (n : Int) ∧ l.length ≤ 6 ∧ cluesB n l = true := by
  unfold puzzleB at h
  simp only [Bool.and_eq_true, decide_eq_true_eq] at h
  obtain ⟨⟨h1, h2⟩, h3⟩ := h
  refine ⟨c.toNat, by omega, by omega, h2, ?_⟩
  unfold cluesB
  rw [show ((c.toNat : Nat) : Int) = c by omega]
  exact h3
theorem hidden_lens2 : ∀ x ∈ hiddenAll 2, x.length = 2 := by decide +kernel
theorem hidden_lens3 : ∀ x ∈ hiddenAll 3, x.length = 3 := by decide +kernel
theorem sols_len (n : Nat) (hn : 2 ≤ n ∧ n ≤ 3) (l : List Clue) : (∀ x ∈ sols n l, x.length = n) ∧ (sols n l).length ≤ 1048576 := by
  refine ⟨fun x hx => ?_, Nat.le_trans (List.length_filter_le _ _) (hidden_len n hn)⟩
  have h1 := List.mem_of_mem_drop (List.mem_filter.1 hx).1
  rcases (show n = 2 ∨ n = 3 by omega) with rfl | rfl
  · exact hidden_lens2 x h1
  · exact hidden_lens3 x h1
theorem set_mid {α : Type} (p q : List α) (x v : α) : (p ++ x :: q).set p.length v = p ++ v :: q := by
  induction p with
  | nil => rfl
  | cons a p ih => simp [ih]
theorem getD_mid {α : Type} (p q : List α) (x z : α) : (p ++ x :: q).getD p.length z = x := by
  simp [List.getD_eq_getElem?_getD]
/-! ### Clues: marks -/
def markC (a : Int) (n : Nat) : List Clue := (List.range n).map fun i : Nat => (⟨a + 3 * i, a + 3 * i + 1, a + 3 * i + 2⟩ : Clue)
theorem markC_len (a : Int) (n : Nat) : (markC a n).length = n := by simp [markC]
theorem markC_succ (a : Int) (n : Nat) : markC a (n + 1) = markC a n ++ [⟨a + 3 * n, a + 3 * n + 1, a + 3 * n + 2⟩] := by simp [markC, List.range_succ]
theorem markClueS_loop (a : Int) (h0 : 0 ≤ a) (h1 : a ≤ 1048576) (l : List Clue) (hl : l.length ≤ 1048577) (d : Nat) : ∀ (n k : Nat), n + d = l.length → d < k →
    laws_markClueS.l0 k (markC a n ++ l.drop n) (a + 3 * n) n = some (a + 3 * l.length, markC a l.length) := by
  induction d with
  | zero =>
    intro n k hn hk
    obtain ⟨k, rfl⟩ : ∃ m, k = m + 1 := ⟨k - 1, by omega⟩
    obtain rfl : n = l.length := by omega
    simp only [laws_markClueS.l0]; rw [if_neg (by simp [markC_len])]; simp
  | succ d ih =>
    intro n k hn hk
    obtain ⟨k, rfl⟩ : ∃ m, k = m + 1 := ⟨k - 1, by omega⟩
    have hlt : n < l.length := by omega
    have hd : l.drop n = l[n] :: l.drop (n + 1) := List.drop_eq_getElem_cons hlt
    have s : ∀ (x v : Clue), (markC a n ++ x :: l.drop (n + 1)).set ((n : Int)).toNat v = markC a n ++ v :: l.drop (n + 1) := fun x v => by
      have := set_mid (markC a n) (l.drop (n + 1)) x v; rw [markC_len] at this; simpa using this
    have g : ∀ (x : Clue), rd_T44 (markC a n ++ x :: l.drop (n + 1)) (n : Int) = x := fun x => by
      have := getD_mid (markC a n) (l.drop (n + 1)) x z44; rw [markC_len] at this; rw [rdC]; simpa using this
    simp only [laws_markClueS.l0, hd]
    rw [if_pos (by simp [markC_len]; omega), if_pos (by omega)]
    simp only [Option.bind_some, s, g]
    rw [w0 (x := a + 3 * n + 1) (by omega) (by omega), w0 (x := a + 3 * n + 1 + 1) (by omega) (by omega), w0 (x := a + 3 * n + 1 + 1 + 1) (by omega) (by omega), w1 (by omega)]
    have := ih (n + 1) k (by omega) (by omega)
    rw [markC_succ, List.append_assoc] at this
    have e1 : a + 3 * (n : Int) + 1 + 1 + 1 = a + 3 * ((n + 1 : Nat) : Int) := by omega
    have e2 : a + 3 * (n : Int) + 1 + 1 = a + 3 * (n : Int) + 2 := by omega
    rw [e1, e2]; exact this
theorem markPuzzle_ev (c a : Int) (h0 : 0 ≤ a) (h1 : a ≤ 1048576) (l : List Clue) (hl : l.length ≤ 1048577) : Ev (fun k => laws_markPuzzle.f k c l a) (a + 3 * l.length, markC a l.length) := by
  refine Ev.bind (a := (a + 3 * (l.length : Int), markC a l.length)) ⟨l.length + 1, fun k hk => ?_⟩ (Ev.now _)
  have := markClueS_loop a h0 h1 l hl l.length 0 k (by omega) (by omega)
  unfold laws_markClueS.f
  simpa [markC] using this
theorem eqIntS_loop (l : List Int) (hl : l.length ≤ 1048576) (d : Nat) : ∀ (n k : Nat), n + d = l.length → d < k → laws_eqIntS.l0 k l l n = some true := by
  induction d with
  | zero =>
    intro n k hn hk
    obtain ⟨k, rfl⟩ : ∃ m, k = m + 1 := ⟨k - 1, by omega⟩
    simp only [laws_eqIntS.l0]; rw [if_neg (by omega)]
  | succ d ih =>
    intro n k hn hk
    obtain ⟨k, rfl⟩ : ∃ m, k = m + 1 := ⟨k - 1, by omega⟩
    simp only [laws_eqIntS.l0, if_true]
    rw [if_pos (by omega), if_pos (by omega), if_pos (by omega), w1 (by omega)]
    exact ih (n + 1) k (by omega) (by omega)
theorem eqIntS_ev (l : List Int) (hl : l.length ≤ 1048576) : Ev (fun k => laws_eqIntS.f k l l) true :=
  ⟨l.length + 1, fun k hk => by
    show laws_eqIntS.f k l l = _
    unfold laws_eqIntS.f
    rw [if_pos rfl]
    exact eqIntS_loop l hl l.length 0 k (by omega) (by omega)⟩
/-! ### Lists of whole numbers: marks -/
def markI (a : Int) (n : Nat) : List Int := (List.range n).map fun i : Nat => a + (i : Int)
theorem markI_len (a : Int) (n : Nat) : (markI a n).length = n := by simp [markI]
theorem markI_succ (a : Int) (n : Nat) : markI a (n + 1) = markI a n ++ [a + (n : Int)] := by simp [markI, List.range_succ]
theorem markIntS_loop (a : Int) (h0 : 0 ≤ a) (h1 : a ≤ 1048576) (l : List Int) (hl : l.length ≤ 1048577) (d : Nat) : ∀ (n k : Nat), n + d = l.length → d < k →
    laws_markIntS.l0 k (markI a n ++ l.drop n) (a + (n : Int)) n = some (a + (l.length : Int), markI a l.length) := by
  induction d with
  | zero =>
    intro n k hn hk
    obtain ⟨k, rfl⟩ : ∃ m, k = m + 1 := ⟨k - 1, by omega⟩
    obtain rfl : n = l.length := by omega
    simp only [laws_markIntS.l0]; rw [if_neg (by simp [markI_len])]; simp
  | succ d ih =>
    intro n k hn hk
    obtain ⟨k, rfl⟩ : ∃ m, k = m + 1 := ⟨k - 1, by omega⟩
    have hlt : n < l.length := by omega
    have hd : l.drop n = l[n] :: l.drop (n + 1) := List.drop_eq_getElem_cons hlt
    have s : ∀ (x v : Int), (markI a n ++ x :: l.drop (n + 1)).set ((n : Int)).toNat v = markI a n ++ v :: l.drop (n + 1) := fun x v => by
      have := set_mid (markI a n) (l.drop (n + 1)) x v; rw [markI_len] at this; simpa using this
    simp only [laws_markIntS.l0, hd]
    rw [if_pos (by simp [markI_len]; omega), if_pos (by omega), s, w0 (x := a + (n : Int) + 1) (by omega) (by omega), w1 (by omega)]
    have := ih (n + 1) k (by omega) (by omega)
    rw [markI_succ, List.append_assoc] at this
    rw [show a + (n : Int) + 1 = a + ((n + 1 : Nat) : Int) by omega]; exact this
theorem markIntS_ev (a : Int) (h0 : 0 ≤ a) (h1 : a ≤ 1048576) (l : List Int) (hl : l.length ≤ 1048577) : Ev (fun k => laws_markIntS.f k l a) (a + (l.length : Int), markI a l.length) :=
  ⟨l.length + 1, fun k hk => by
    have := markIntS_loop a h0 h1 l hl l.length 0 k (by omega) (by omega)
    show laws_markIntS.f k l a = _
    unfold laws_markIntS.f
    simpa [markI] using this⟩
theorem heldIntS_loop (a : Int) (h0 : 0 ≤ a) (h1 : a ≤ 1048576) (m : Nat) (hl : m ≤ 1048577) (d : Nat) : ∀ (n k : Nat), n + d = m → d < k →
    laws_heldIntS.l0 k (markI a m) (a + (n : Int)) n = some (a + (m : Int)) := by
  induction d with
  | zero =>
    intro n k hn hk
    obtain ⟨k, rfl⟩ : ∃ m, k = m + 1 := ⟨k - 1, by omega⟩
    obtain rfl : n = m := by omega
    simp only [laws_heldIntS.l0]; rw [if_neg (by simp [markI_len])]
  | succ d ih =>
    intro n k hn hk
    obtain ⟨k, rfl⟩ : ∃ m, k = m + 1 := ⟨k - 1, by omega⟩
    have hlt : n < (markI a m).length := by rw [markI_len]; omega
    have g : rd (markI a m) (n : Int) = a + (n : Int) := by rw [rdI _ n hlt]; simp [markI]
    simp only [laws_heldIntS.l0, g]
    rw [if_pos (by rw [markI_len]; omega), if_pos (by omega)]
    try rw [if_pos trivial]
    rw [w0 (x := a + (n : Int) + 1) (by omega) (by omega), w1 (by omega), show a + (n : Int) + 1 = a + ((n + 1 : Nat) : Int) by omega]
    exact ih (n + 1) k (by omega) (by omega)
theorem heldIntS_ev (a : Int) (h0 : 0 ≤ a) (h1 : a ≤ 1048576) (m : Nat) (hl : m ≤ 1048577) : Ev (fun k => laws_heldIntS.f k (markI a m) a) (a + (m : Int)) :=
  ⟨m + 1, fun k hk => by
    have := heldIntS_loop a h0 h1 m hl m 0 k (by omega) (by omega)
    show laws_heldIntS.f k (markI a m) a = _
    unfold laws_heldIntS.f
    simpa using this⟩
def rowsLen : List (List Int) → Nat
  | [] => 0
  | x :: l => x.length + rowsLen l
def markRows : Int → List (List Int) → List (List Int)
  | _, [] => []
  | a, x :: l => markI a x.length :: markRows (a + (x.length : Int)) l
theorem rowsLen_le (m : Nat) : ∀ (l : List (List Int)), (∀ x ∈ l, x.length ≤ m) → rowsLen l ≤ m * l.length
  | [], _ => by simp [rowsLen]
  | x :: l, h => by
    have h1 := h x (List.mem_cons_self ..)
    have h2 := rowsLen_le m l (fun y hy => h y (List.mem_cons_of_mem _ hy))
    simp only [rowsLen, List.length_cons, Nat.mul_succ]; omega
theorem rdL3_mid (p q : List (List Int)) (x : List Int) : rd_L3 (p ++ x :: q) (p.length : Int) = x := by
  have h : p.length < (p ++ x :: q).length := by simp
  have e : rd_L3 (p ++ x :: q) (p.length : Int) = (p ++ x :: q)[p.length] := getD_nat (p ++ x :: q) [] p.length h
  rw [e]; simp
theorem markIntSS_loop : ∀ (rest pre : List (List Int)) (a : Int), 0 ≤ a → a + (rowsLen rest : Int) ≤ 1048576 → pre.length + rest.length ≤ 1048576 → Ev (fun k => laws_markIntSS.l0 k (pre ++ rest) a (pre.length : Int)) (a + (rowsLen rest : Int), pre ++ markRows a rest)
  | [], pre, a, h0, h1, h2 => ev_late 1 fun k => by
    simp only [laws_markIntSS.l0]; rw [if_neg (by simp)]; simp [rowsLen, markRows]
  | x :: rest, pre, a, h0, h1, h2 => by
    simp only [rowsLen, List.length_cons] at h1 h2
    have hm := markIntS_ev a h0 (by omega) x (by omega)
    have ih := markIntSS_loop rest (pre ++ [markI a x.length]) (a + (x.length : Int)) (by omega) (by omega) (by simp; omega)
    refine Ev.step (f := fun k => (laws_markIntS.f k x a).bind fun bt => laws_markIntSS.l0 k (pre ++ bt.2 :: rest) bt.1 ((pre.length + 1 : Nat) : Int)) (fun k => ?_) (hm.bind ?_)
    · simp only [laws_markIntSS.l0]
      rw [if_pos (by simp only [List.length_append, List.length_cons]; omega), if_pos (by omega), rdL3_mid, w1 (by omega)]
      simp only [Int.toNat_natCast, set_mid]
    · have e : pre ++ [markI a x.length] ++ rest = pre ++ markI a x.length :: rest := by simp
      rw [e] at ih
      have e2 : ((pre ++ [markI a x.length]).length : Int) = ((pre.length + 1 : Nat) : Int) := by simp
      rw [e2] at ih
      have e3 : (a + (x.length : Int) + (rowsLen rest : Int), pre ++ [markI a x.length] ++ markRows (a + (x.length : Int)) rest) = (a + ((x.length + rowsLen rest : Nat) : Int), pre ++ markI a x.length :: markRows (a + (x.length : Int)) rest) := by
        rw [Prod.mk.injEq]; exact ⟨by omega, by simp⟩
      rw [e3] at ih
      exact ih
theorem markIntSS_ev (a : Int) (h0 : 0 ≤ a) (l : List (List Int)) (h1 : a + (rowsLen l : Int) ≤ 1048576) (h2 : l.length ≤ 1048576) : Ev (fun k => laws_markIntSS.f k l a) (a + (rowsLen l : Int), markRows a l) := by
  have := markIntSS_loop l [] a h0 h1 (by simpa using h2)
  simpa [laws_markIntSS.f] using this
theorem heldIntSS_loop : ∀ (rest pre : List (List Int)) (a : Int), 0 ≤ a → a + (rowsLen rest : Int) ≤ 1048576 → pre.length + rest.length ≤ 1048576 → Ev (fun k => laws_heldIntSS.l0 k (pre ++ markRows a rest) a (pre.length : Int)) (a + (rowsLen rest : Int))
  | [], pre, a, h0, h1, h2 => by
    show Ev (fun k => laws_heldIntSS.l0 k (pre ++ []) a (pre.length : Int)) (a + ((0 : Nat) : Int))
    refine ev_late 1 fun k => ?_
    simp only [laws_heldIntSS.l0]; rw [if_neg (by simp)]; simp
  | x :: rest, pre, a, h0, h1, h2 => by
    simp only [rowsLen, List.length_cons] at h1 h2
    have hm := heldIntS_ev a h0 (by omega) x.length (by omega)
    have ih := heldIntSS_loop rest (pre ++ [markI a x.length]) (a + (x.length : Int)) (by omega) (by omega) (by simp; omega)
    show Ev (fun k => laws_heldIntSS.l0 k (pre ++ markI a x.length :: markRows (a + (x.length : Int)) rest) a (pre.length : Int)) (a + ((x.length + rowsLen rest : Nat) : Int))
    refine Ev.step (f := fun k => (laws_heldIntS.f k (markI a x.length) a).bind fun t => if t < 0 then some (-1) else laws_heldIntSS.l0 k (pre ++ markI a x.length :: markRows (a + (x.length : Int)) rest) t ((pre.length + 1 : Nat) : Int)) (fun k => ?_) (hm.bind ?_)
    · simp only [laws_heldIntSS.l0]
      rw [if_pos (by simp only [List.length_append, List.length_cons]; omega), if_pos (by omega), rdL3_mid, w1 (by omega)]
    · simp only [if_neg (show ¬ (a + (x.length : Int) < 0) by omega)]
      have e : pre ++ [markI a x.length] ++ markRows (a + (x.length : Int)) rest = pre ++ markI a x.length :: markRows (a + (x.length : Int)) rest := by simp
      rw [e] at ih
      have e2 : ((pre ++ [markI a x.length]).length : Int) = ((pre.length + 1 : Nat) : Int) := by simp
      rw [e2] at ih
      have e3 : a + (x.length : Int) + (rowsLen rest : Int) = a + ((x.length + rowsLen rest : Nat) : Int) := by omega
      rw [e3] at ih
      exact ih
theorem heldIntSS_ev (a : Int) (h0 : 0 ≤ a) (l : List (List Int)) (h1 : a + (rowsLen l : Int) ≤ 1048576) (h2 : l.length ≤ 1048576) : Ev (fun k => laws_heldIntSS.f k (markRows a l) a) (a + (rowsLen l : Int)) := by
  have := heldIntSS_loop l [] a h0 h1 (by simpa using h2)
  simpa [laws_heldIntSS.f] using this
theorem eqIntSS_loop : ∀ (rest pre : List (List Int)), (∀ x ∈ rest, x.length ≤ 1048576) → pre.length + rest.length ≤ 1048576 → Ev (fun k => laws_eqIntSS.l0 k (pre ++ rest) (pre ++ rest) (pre.length : Int)) true
  | [], pre, _, _ => ev_late 1 fun k => by
    simp only [laws_eqIntSS.l0]; rw [if_neg (by simp)]
  | x :: rest, pre, h, h2 => by
    simp only [List.length_cons] at h2
    have he := eqIntS_ev x (h x (List.mem_cons_self ..))
    have ih := eqIntSS_loop rest (pre ++ [x]) (fun y hy => h y (List.mem_cons_of_mem _ hy)) (by simp; omega)
    refine Ev.step (f := fun k => (laws_eqIntS.f k x x).bind fun t => if t = true then laws_eqIntSS.l0 k (pre ++ x :: rest) (pre ++ x :: rest) ((pre.length + 1 : Nat) : Int) else some false) (fun k => ?_) (he.bind ?_)
    · simp only [laws_eqIntSS.l0]
      rw [if_pos (by simp only [List.length_append, List.length_cons]; omega), if_pos (by omega), if_pos (by simp only [List.length_append, List.length_cons]; omega), rdL3_mid, w1 (by omega)]
    · simp only [if_true]
      have e : pre ++ [x] ++ rest = pre ++ x :: rest := by simp
      rw [e] at ih
      have e2 : ((pre ++ [x]).length : Int) = ((pre.length + 1 : Nat) : Int) := by simp
      rw [e2] at ih
      exact ih
theorem eqIntSS_ev (l : List (List Int)) (h : ∀ x ∈ l, x.length ≤ 1048576) (h2 : l.length ≤ 1048576) : Ev (fun k => laws_eqIntSS.f k l l) true := by
  have := eqIntSS_loop l [] h (by simpa using h2)
  simpa [laws_eqIntSS.f] using this
theorem hidden_few (n : Nat) (hn : 2 ≤ n ∧ n ≤ 3) : ((hiddenAll n).drop 1).length ≤ 300 := by
  rcases (show n = 2 ∨ n = 3 by omega) with rfl | rfl <;> decide +kernel
theorem all_of (c : Int) (l : List Clue) (hl : l.length ≤ 1048576) : ∃ r : List (List Int) × Bool, ((∀ x ∈ r.1, x.length ≤ 3) ∧ r.1.length ≤ 300) ∧ Ev (fun k => spec_Solutions.f k c l) r ∧ Ev (fun k => impl_Solutions.f k c l) r := by
  unfold spec_Solutions.f impl_Solutions.f
  cases h : puzzleB c l
  · refine ⟨([], false), by simp, (ev_eq (spec_good_ev c l hl) h).bind ?_, (ev_eq (impl_puzzle_ev c l hl) h).bind ?_⟩
    · simp only [Bool.false_eq_true, if_false]; exact Ev.now _
    · simp only [Bool.false_eq_true, if_false]; exact Ev.now _
  · obtain ⟨n, hn, rfl, h6, hc⟩ := puzzle_parts c l h
    obtain ⟨hrows, hlen⟩ := sols_len n hn l
    refine ⟨(sols n l, true), ⟨fun x hx => by have := hrows x hx; omega, Nat.le_trans (List.length_filter_le _ _) (hidden_few n hn)⟩, (ev_eq (spec_good_ev _ l hl) h).bind ?_, (ev_eq (impl_puzzle_ev _ l hl) h).bind ?_⟩
    · simp only [if_true]; exact (pzAll_ev n hn l hl hc).bind (Ev.now _)
    · simp only [if_true]; exact (solve_ev n hn l hl hc).bind (Ev.now _)
theorem FnExactSolutions : laws_FnExactSolutions.Pure := by
  intro c l _ hm _
  by_cases hl : l.length ≤ 1048576
  · have h2 : (l.map ofL).length ≤ 1048576 := by simpa using hl
    have t := toPuzzle_ev c l hl
    obtain ⟨r, ⟨hr, hlen⟩, h1, h3⟩ := all_of c (l.map ofL) h2
    have hr2 : ∀ x ∈ r.1, x.length ≤ 1048576 := fun x hx => by have := hr x hx; omega
    have hlen2 : r.1.length ≤ 1048576 := by omega
    have hsum : rowsLen r.1 ≤ 3 * r.1.length := rowsLen_le 3 r.1 hr
    refine Ev.rounds (r := true) ?_
    unfold laws_FnExactSolutions.f
    simp only [szPuzzle_small c l hl, Option.bind_some]
    simp only [if_neg (show ¬ (1048576 - (l.length : Int) < 0) by omega)]
    refine t.bind ?_
    refine h1.bind ?_
    refine t.bind ?_
    refine h3.bind ?_
    refine (eqIntSS_ev _ hr2 hlen2).bind ?_
    simp only [if_true, bne_self_eq_false, Bool.false_eq_true, if_false]
    refine t.bind ?_
    refine (eqPuzzle_ev _ _ h2).bind ?_
    simp only [if_true]
    refine (markPuzzle_ev _ 1 (by omega) (by omega) _ (by omega)).bind ?_
    simp only [if_neg (show ¬ (1 + 3 * ((l.map ofL).length : Int) < 0) by omega)]
    refine (eqIntSS_ev _ hr2 hlen2).bind ?_
    simp only [if_true]
    refine (markIntSS_ev 1 (by omega) r.1 (by omega) hlen2).bind ?_
    refine (heldIntSS_ev 1 (by omega) r.1 (by omega) hlen2).bind ?_
    simp only [if_neg (show ¬ (1 + (rowsLen r.1 : Int) < 0) by omega), if_true]
    refine t.bind ?_
    refine h3.bind ?_
    refine (eqIntSS_ev _ hr2 hlen2).bind ?_
    simp only [if_true, bne_self_eq_false, Bool.false_eq_true, if_false]
    refine (heldIntSS_ev 1 (by omega) r.1 (by omega) hlen2).bind ?_
    simp only [if_neg (show ¬ (1 + (rowsLen r.1 : Int) < 0) by omega), if_true]
    exact Ev.now _
  · exact ⟨0, by unfold laws_FnExactSolutions.f; rw [szPuzzle_big c l (by omega) hm]; rfl⟩
end Go.Proofs.Ytdddmkdidegngaa.Pure

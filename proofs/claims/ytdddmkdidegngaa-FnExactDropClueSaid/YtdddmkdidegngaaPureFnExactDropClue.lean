/- The program's DropClue answers as the reference's, for each puzzle whose size the law looks at and each index; it leaves the puzzle as it was, and what it makes is its own. No condition. -/
import Derived.Test.YtdddmkdidegngaaPFnExactDropCluex5
namespace Go.Proofs.Ytdddmkdidegngaa.Pure
open Go.RowKit Go.Proofs.Ytdddmkdidegngaa.PFnExactDropClue Go.Proofs.YtdddmkdidegngaaW.PrintWords Go.Proofs.YtdddmkdidegngaaW.PrintLast
set_option linter.unusedVariables false
set_option linter.unusedSimpArgs false
/-! ### Plain words -/
theorem w1 {n : Nat} (h : n < 4611686018427387904) : wrap64 ((n : Int) + 1) = ((n + 1 : Nat) : Int) := by unfold wrap64; omega
theorem w0 {x : Int} (h1 : -9223372036854775808 ≤ x) (h2 : x ≤ 9223372036854775807) : wrap64 x = x := by unfold wrap64; omega
theorem wfi {x : Int} (h : (Lit.int .i64 x).wf = true) : -9223372036854775808 ≤ x ∧ x ≤ 9223372036854775807 := by
  simpa [Lit.wf, IntKind.min, IntKind.max, IntKind.signed, IntKind.bits] using h
theorem getD_nat {α : Type} (l : List α) (z : α) (n : Nat) (h : n < l.length) : l.getD ((n : Int)).toNat z = l[n] := by
  simp [List.getD_eq_getElem?_getD, h]
theorem fill_set {α β : Type} (f : α → β) (l : List α) (z : β) (n : Nat) (h : n < l.length) :
    ((l.take n).map f ++ List.replicate (l.length - n) z).set n (f l[n]) = (l.take (n + 1)).map f ++ List.replicate (l.length - (n + 1)) z := by
  obtain ⟨d, hd⟩ : ∃ d, l.length - n = d + 1 := ⟨l.length - n - 1, by omega⟩
  rw [List.set_append, if_neg (by simp; omega), List.take_succ_eq_append_getElem h]
  have h1 : n - ((l.take n).map f).length = 0 := by simp; omega
  have h2 : l.length - (n + 1) = d := by omega
  rw [h1, h2, hd, List.replicate_succ, List.set_cons_zero, List.map_append]
  simp
theorem getD_set {α : Type} (l : List α) (z : α) (i j : Nat) (v : α) (hi : i < l.length) : (l.set i v).getD j z = if j = i then v else l.getD j z := by
  by_cases h : j = i
  · subst h; simp [List.getD_eq_getElem?_getD, hi]
  · rw [if_neg h]; simp [List.getD_eq_getElem?_getD, Ne.symm h]
/-- A way that needs no rounds. -/
theorem ev_now {α : Type} {g : Nat → Option α} {r : α} (h : ∀ k, g k = some r) : Ev g r := ⟨0, fun k _ => h k⟩
theorem ev_late {α : Type} {g : Nat → Option α} {r : α} (n : Nat) (h : ∀ k, g (k + n) = some r) : Ev g r := ⟨n, fun k hk => by
  obtain ⟨m, rfl⟩ : ∃ m, k = m + n := ⟨k - n, by omega⟩
  exact h m⟩
theorem ev_eq {α : Type} {g : Nat → Option α} {r s : α} (h : Ev g r) (e : r = s) : Ev g s := e ▸ h
abbrev LClue := S41
abbrev Clue := S44
theorem rdL (xs : List LClue) (i : Int) : rd_T41 xs i = xs.getD i.toNat z41 := rfl
theorem rdC (xs : List Clue) (i : Int) : rd_T44 xs i = xs.getD i.toNat z44 := rfl
abbrev zC : Clue := z44
/-! ### Clues: taken over, compared -/
def ofL (x : LClue) : Clue := ⟨x.f0, x.f1, x.f2⟩
theorem toClueS_loop (l : List LClue) (hl : l.length ≤ 1048576) (d : Nat) : ∀ (n k : Nat), n + d = l.length → d < k →
    laws_toClueS.l0 k l ((l.take n).map ofL ++ List.replicate (l.length - n) zC) n = some (l.map ofL) := by
  induction d with
  | zero =>
    intro n k hn hk
    obtain ⟨k, rfl⟩ : ∃ m, k = m + 1 := ⟨k - 1, by omega⟩
    simp only [laws_toClueS.l0]; rw [if_neg (by omega)]
    obtain rfl : n = l.length := by omega
    simp
  | succ d ih =>
    intro n k hn hk
    obtain ⟨k, rfl⟩ : ∃ m, k = m + 1 := ⟨k - 1, by omega⟩
    have hlt : n < l.length := by omega
    simp only [laws_toClueS.l0, laws_toClue.f, rdL]
    rw [if_pos (by omega), if_pos (by omega)]
    simp only [Option.bind_some]
    rw [if_pos (by simp; omega), getD_nat l _ n hlt, w1 (by omega), Int.toNat_natCast]
    exact (congrArg (fun z => laws_toClueS.l0 k l z ((n + 1 : Nat) : Int)) (fill_set ofL l zC n hlt)).trans (ih (n + 1) k (by omega) (by omega))
theorem toClueS_ev (l : List LClue) (hl : l.length ≤ 1048576) : Ev (fun k => laws_toClueS.f k l) (l.map ofL) :=
  ⟨l.length + 1, fun k hk => by
    show laws_toClueS.f k l = _
    unfold laws_toClueS.f
    rw [if_pos (by omega), if_pos (by simp; omega)]
    have h := toClueS_loop l hl l.length 0 k (by omega) (by omega)
    simpa using h⟩
theorem toPuzzle_ev (c : Int) (l : List LClue) (hl : l.length ≤ 1048576) : Ev (fun k => laws_toPuzzle.f k c l) (c, l.map ofL) :=
  (toClueS_ev l hl).bind (Ev.now _)
theorem szPuzzle_big (c : Int) (l : List LClue) (h : 1048576 < l.length) (hm : l.length ≤ maxLen) : laws_szPuzzle.f c l 1048576 = some (-1) := by
  unfold maxLen at hm
  unfold laws_szPuzzle.f laws_szClueS.f
  rw [w0 (by omega) (by omega), if_pos (by omega)]; rfl
theorem szPuzzle_small (c : Int) (l : List LClue) (h : l.length ≤ 1048576) : laws_szPuzzle.f c l 1048576 = some (1048576 - (l.length : Int)) := by
  unfold laws_szPuzzle.f laws_szClueS.f
  rw [w0 (by omega) (by omega), if_neg (by omega)]; simp only [Option.bind_some]; rw [if_neg (by omega)]
theorem eqClueS_loop (l : List Clue) (hl : l.length ≤ 1048576) (d : Nat) : ∀ (n k : Nat), n + d = l.length → d < k → laws_eqClueS.l0 k l l n = some true := by
  induction d with
  | zero =>
    intro n k hn hk
    obtain ⟨k, rfl⟩ : ∃ m, k = m + 1 := ⟨k - 1, by omega⟩
    simp only [laws_eqClueS.l0]; rw [if_neg (by omega)]
  | succ d ih =>
    intro n k hn hk
    obtain ⟨k, rfl⟩ : ∃ m, k = m + 1 := ⟨k - 1, by omega⟩
    simp only [laws_eqClueS.l0, laws_eqClue.f, if_true, Option.bind_some]
    rw [if_pos (by omega), if_pos (by omega), if_pos (by omega), w1 (by omega)]
    exact ih (n + 1) k (by omega) (by omega)
theorem eqClueS_ev (l : List Clue) (hl : l.length ≤ 1048576) : Ev (fun k => laws_eqClueS.f k l l) true :=
  ⟨l.length + 1, fun k hk => by
    show laws_eqClueS.f k l l = _
    unfold laws_eqClueS.f
    rw [if_pos rfl]
    exact eqClueS_loop l hl l.length 0 k (by omega) (by omega)⟩
theorem eqPuzzle_ev (c : Int) (l : List Clue) (hl : l.length ≤ 1048576) : Ev (fun k => laws_eqPuzzle.f k c l c l) true := by
  refine Ev.congr (f := fun k => (laws_eqClueS.f k l l).bind fun t => (if t = true then (some true) else (some false))) (fun k => by unfold laws_eqPuzzle.f; rw [if_pos rfl]) ?_
  exact (eqClueS_ev l hl).bind (Ev.now _)
theorem l1In_is (n a b : Int) : spec_l1In.f n a b = some (decide (a ≤ n ∧ n ≤ b)) := by
  unfold spec_l1In.f; by_cases h : n ≥ a <;> simp [h] <;> omega
theorem within_is (n a b : Int) : impl_within.f n a b = some (decide (a ≤ n ∧ n ≤ b)) := by
  unfold impl_within.f; by_cases h : a ≤ n <;> simp [h]
/-! ### Puzzles -/
def clueB (c kd a b : Int) : Bool := decide (0 ≤ b ∧ b ≤ 15) && (if kd = 0 ∨ kd = 2 ∨ kd = 5 then a == 0 else if kd = 1 then decide (0 ≤ a ∧ a ≤ c - 1) else if kd = 3 then decide (1 ≤ a ∧ a ≤ 6) else if kd = 4 then decide (0 ≤ a ∧ a ≤ c - 1 ∧ b ≤ 1) else false)
theorem spec_clue_ev (c kd a b : Int) (hc : 2 ≤ c ∧ c ≤ 3) : Ev (fun k => spec_pzClue.f k c kd a b) (clueB c kd a b) := by
  refine ev_late 2 fun k => ?_
  simp only [spec_pzClue.f, spec_pzClue.j0, l1In_is, Option.bind_some, w0 (x := c - 1) (by omega) (by omega)]
  unfold clueB
  by_cases hb : 0 ≤ b ∧ b ≤ 15
  · by_cases h0 : kd = 0
    · subst h0; simp [hb]
    · by_cases h2 : kd = 2
      · subst h2; simp [hb]
      · by_cases h5 : kd = 5
        · subst h5; simp [hb]
        · by_cases h1 : kd = 1
          · subst h1; simp [hb]
          · by_cases h3 : kd = 3
            · subst h3; simp [hb]
            · by_cases h4 : kd = 4
              · subst h4; simp only [hb]; by_cases ha : 0 ≤ a ∧ a ≤ c - 1 <;> by_cases hb2 : b ≤ 1 <;> simp [ha, hb, hb2] <;> omega
              · simp [hb, h0, h1, h2, h3, h4, h5]
  · simp [hb]
theorem impl_clue_ev (c kd a b : Int) (hc : 2 ≤ c ∧ c ≤ 3) : Ev (fun k => impl_IsClue.f k c kd a b) (clueB c kd a b) := by
  refine ev_late 3 fun k => ?_
  simp only [impl_IsClue.f, impl_IsClue.j0, impl_IsClue.j1, impl_isHiddenColours.f, within_is, Option.bind_some, w0 (x := c - 1) (by omega) (by omega)]
  unfold clueB
  by_cases hb : 0 ≤ b ∧ b ≤ 15
  · by_cases h0 : kd = 0
    · subst h0; simp [hb, hc]
    · by_cases h2 : kd = 2
      · subst h2; simp [hb, hc]
      · by_cases h5 : kd = 5
        · subst h5; simp [hb, hc]
        · by_cases h1 : kd = 1
          · subst h1; simp [hb, hc]
          · by_cases h3 : kd = 3
            · subst h3; simp [hb, hc]
            · by_cases h4 : kd = 4
              · subst h4; by_cases ha : 0 ≤ a ∧ a ≤ c - 1 <;> by_cases hb2 : b ≤ 1 <;> simp [ha, hb, hc, hb2] <;> omega
              · simp [hb, hc, h0, h1, h2, h3, h4, h5]
  · simp [hb, hc]
def puzzleB (c : Int) (l : List Clue) : Bool := decide (2 ≤ c ∧ c ≤ 3) && decide (l.length ≤ 6) && l.all (fun x => clueB c x.f0 x.f1 x.f2)
theorem spec_good_loop (c : Int) (hc : 2 ≤ c ∧ c ≤ 3) (l : List Clue) (hl : l.length ≤ 1048576) (d : Nat) : ∀ (n : Nat), n + d = l.length → Ev (fun k => spec_pzGood.l0 k l (l.length : Int) n c l) ((l.drop n).all fun x => clueB c x.f0 x.f1 x.f2) := by
  induction d with
  | zero =>
    intro n hn
    refine ev_late 1 fun k => ?_
    simp only [spec_pzGood.l0]; rw [if_neg (by omega)]
    obtain rfl : n = l.length := by omega
    simp
  | succ d ih =>
    intro n hn
    have hlt : n < l.length := by omega
    refine Ev.step (f := fun k => (spec_pzClue.f k c l[n].f0 l[n].f1 l[n].f2).bind fun t => if t = true then spec_pzGood.l0 k l (l.length : Int) ((n + 1 : Nat) : Int) c l else some false) (fun k => ?_) ?_
    · simp only [spec_pzGood.l0, rdC]
      rw [if_pos (by omega), if_pos (by omega), if_pos (by omega), getD_nat l _ n hlt, w1 (by omega)]
    · refine (spec_clue_ev c _ _ _ hc).bind ?_
      rw [List.drop_eq_getElem_cons hlt, List.all_cons]
      cases h : clueB c l[n].f0 l[n].f1 l[n].f2
      · exact Ev.now _
      · simpa using ih (n + 1) (by omega)
theorem spec_good_ev (c : Int) (l : List Clue) (hl : l.length ≤ 1048576) : Ev (fun k => spec_pzGood.f k c l) (puzzleB c l) := by
  unfold puzzleB
  by_cases hc : 2 ≤ c ∧ c ≤ 3
  · refine Ev.congr (f := fun k => spec_pzGood.j0 k (decide ((l.length : Int) > 6)) c l) (fun k => ?_) ?_
    · simp only [spec_pzGood.f, spec_pzColours.f, l1In_is, Option.bind_some]; simp [hc]
    · by_cases h6 : l.length ≤ 6
      · refine Ev.step (f := fun k => spec_pzGood.l0 k l (l.length : Int) 0 c l) (fun k => ?_) (ev_eq (spec_good_loop c hc l hl l.length 0 (by omega)) (by simp [hc, h6]))
        simp only [spec_pzGood.j0]; rw [if_neg (by simp; omega)]
      · refine ev_late 1 fun k => ?_
        simp only [spec_pzGood.j0]; rw [if_pos (by simp; omega)]; simp [h6]
  · refine ev_late 1 fun k => ?_
    simp only [spec_pzGood.f, spec_pzColours.f, l1In_is, Option.bind_some]
    rw [if_neg (by simpa using hc)]
    simp only [spec_pzGood.j0, if_true]; simp [hc]
theorem index_clue_loop (l : List Clue) (hl : l.length ≤ 1048576) (q : Clue → Bool) :
    ∃ K, ∀ k φ, K ≤ k → (∀ x ∈ l, φ x.f0 x.f1 x.f2 = some (q x)) → ∃ r, slices_IndexFunc_simpl_Clue_impl_Clue.l0 k l φ (l.length : Int) 0 = some r ∧ (decide (r ≥ 0) = l.any q) := by
  have H : ∀ (d n k : Nat) (φ : Int → Int → Int → Option Bool), n + d = l.length → d < k → (∀ x ∈ l, φ x.f0 x.f1 x.f2 = some (q x)) → ∃ r, slices_IndexFunc_simpl_Clue_impl_Clue.l0 k l φ (l.length : Int) n = some r ∧ (decide (r ≥ 0) = (l.drop n).any q) := by
    intro d
    induction d with
    | zero =>
      intro n k φ hn hk hφ
      obtain ⟨k, rfl⟩ : ∃ m, k = m + 1 := ⟨k - 1, by omega⟩
      obtain rfl : n = l.length := by omega
      exact ⟨-1, by simp only [slices_IndexFunc_simpl_Clue_impl_Clue.l0]; rw [if_neg (by omega)], by simp⟩
    | succ d ih =>
      intro n k φ hn hk hφ
      obtain ⟨k, rfl⟩ : ∃ m, k = m + 1 := ⟨k - 1, by omega⟩
      have hlt : n < l.length := by omega
      have hx := hφ l[n] (List.getElem_mem hlt)
      obtain ⟨r, hr, hq⟩ := ih (n + 1) k φ (by omega) (by omega) hφ
      rw [List.drop_eq_getElem_cons hlt, List.any_cons]
      cases h : q l[n]
      · refine ⟨r, ?_, by simpa [h] using hq⟩
        simp only [slices_IndexFunc_simpl_Clue_impl_Clue.l0, rdC]
        rw [if_pos (by omega), if_pos (by omega), if_pos (by omega), getD_nat l _ n hlt, hx, h, w1 (by omega)]
        simpa using hr
      · refine ⟨n, ?_, by simp⟩
        simp only [slices_IndexFunc_simpl_Clue_impl_Clue.l0, rdC]
        rw [if_pos (by omega), if_pos (by omega), if_pos (by omega), getD_nat l _ n hlt, hx, h]
        rfl
  exact ⟨l.length + 1, fun k φ hk hφ => by simpa using H l.length 0 k φ (by omega) (by omega) hφ⟩
/-- Rounds enough for all of a list. -/
theorem ev_all {α β : Type} (l : List α) (g : α → Nat → Option β) (r : α → β) (h : ∀ x ∈ l, Ev (g x) (r x)) : ∃ K, ∀ k, K ≤ k → ∀ x ∈ l, g x k = some (r x) := by
  induction l with
  | nil => exact ⟨0, fun k _ x hx => by cases hx⟩
  | cons a l ih =>
    obtain ⟨K, hK⟩ := ih fun x hx => h x (by simp [hx])
    obtain ⟨L, hL⟩ := h a (by simp)
    refine ⟨max K L, fun k hk x hx => ?_⟩
    rcases List.mem_cons.1 hx with rfl | hx
    · exact hL k (by omega)
    · exact hK k (by omega) x hx
theorem impl_puzzle_ev (c : Int) (l : List Clue) (hl : l.length ≤ 1048576) : Ev (fun k => impl_IsPuzzle.f k c l) (puzzleB c l) := by
  unfold puzzleB
  by_cases hc : 2 ≤ c ∧ c ≤ 3
  · by_cases h6 : l.length ≤ 6
    · have hp : ∀ x ∈ l, Ev (fun k => impl_IsPuzzle_1.f k x.f0 x.f1 x.f2 c l) (!clueB c x.f0 x.f1 x.f2) := fun x _ => (impl_clue_ev c _ _ _ hc).bind (Ev.now _)
      obtain ⟨K, hK⟩ := ev_all l (fun x k => impl_IsPuzzle_1.f k x.f0 x.f1 x.f2 c l) (fun x => !clueB c x.f0 x.f1 x.f2) hp
      obtain ⟨L, hL⟩ := index_clue_loop l hl (fun x => !clueB c x.f0 x.f1 x.f2)
      refine ⟨max K L, fun k hk => ?_⟩
      obtain ⟨r, hr, hq⟩ := hL k (fun a b d => impl_IsPuzzle_1.f k a b d c l) (by omega) (hK k (by omega))
      simp only [impl_IsPuzzle.f, impl_isHiddenColours.f, within_is, Option.bind_some]
      rw [if_pos (by simpa using hc), if_pos (by omega)]
      simp only [slices_ContainsFunc_simpl_Clue_impl_Clue.f, slices_IndexFunc_simpl_Clue_impl_Clue.f, hr, Option.bind_some, hq]
      simp [hc, h6, List.all_eq_not_any_not]
    · refine ev_now fun k => ?_
      simp only [impl_IsPuzzle.f, impl_isHiddenColours.f, within_is, Option.bind_some]
      rw [if_pos (by simpa using hc), if_neg (by omega)]; simp [h6]
  · refine ev_now fun k => ?_
    simp only [impl_IsPuzzle.f, impl_isHiddenColours.f, within_is, Option.bind_some]
    rw [if_neg (by simpa using hc)]; simp [hc]
theorem set_mid {α : Type} (p q : List α) (x v : α) : (p ++ x :: q).set p.length v = p ++ v :: q := by
  induction p with
  | nil => rfl
  | cons a p ih => simp [ih]
theorem getD_mid {α : Type} (p q : List α) (x z : α) : (p ++ x :: q).getD p.length z = x := by
  simp [List.getD_eq_getElem?_getD]
/-! ### Clues: marks -/
def markC (a : Int) (n : Nat) : List Clue := (List.range n).map fun i : Nat => (⟨a + 3 * i, a + 3 * i + 1, a + 3 * i + 2⟩ : Clue)
theorem markC_len (a : Int) (n : Nat) : (markC a n).length = n := by simp [markC]
theorem markC_succ (a : Int) (n : Nat) : markC a (n + 1) = markC a n ++ [⟨a + 3 * n, a + 3 * n + 1, a + 3 * n + 2⟩] := by simp [markC, List.range_succ]
theorem markClueS_loop (a : Int) (h0 : 0 ≤ a) (h1 : a ≤ 1048576) (l : List Clue) (hl : l.length ≤ 1048577) (d : Nat) : ∀ (n k : Nat), n + d = l.length → d < k →
    laws_markClueS.l0 k (markC a n ++ l.drop n) (a + 3 * n) n = some (a + 3 * l.length, markC a l.length) := by
  induction d with
  | zero =>
    intro n k hn hk
    obtain ⟨k, rfl⟩ : ∃ m, k = m + 1 := ⟨k - 1, by omega⟩
    obtain rfl : n = l.length := by omega
    simp only [laws_markClueS.l0]; rw [if_neg (by simp [markC_len])]; simp
  | succ d ih =>
    intro n k hn hk
    obtain ⟨k, rfl⟩ : ∃ m, k = m + 1 := ⟨k - 1, by omega⟩
    have hlt : n < l.length := by omega
    have hd : l.drop n = l[n] :: l.drop (n + 1) := List.drop_eq_getElem_cons hlt
    have s : ∀ (x v : Clue), (markC a n ++ x :: l.drop (n + 1)).set ((n : Int)).toNat v = markC a n ++ v :: l.drop (n + 1) := fun x v => by
      have := set_mid (markC a n) (l.drop (n + 1)) x v; rw [markC_len] at this; simpa using this
    have g : ∀ (x : Clue), rd_T44 (markC a n ++ x :: l.drop (n + 1)) (n : Int) = x := fun x => by
      have := getD_mid (markC a n) (l.drop (n + 1)) x z44; rw [markC_len] at this; rw [rdC]; simpa using this
    simp only [laws_markClueS.l0, hd]
    rw [if_pos (by simp [markC_len]; omega), if_pos (by omega)]
    simp only [Option.bind_some, s, g]
    rw [w0 (x := a + 3 * n + 1) (by omega) (by omega), w0 (x := a + 3 * n + 1 + 1) (by omega) (by omega), w0 (x := a + 3 * n + 1 + 1 + 1) (by omega) (by omega), w1 (by omega)]
    have := ih (n + 1) k (by omega) (by omega)
    rw [markC_succ, List.append_assoc] at this
    have e1 : a + 3 * (n : Int) + 1 + 1 + 1 = a + 3 * ((n + 1 : Nat) : Int) := by omega
    have e2 : a + 3 * (n : Int) + 1 + 1 = a + 3 * (n : Int) + 2 := by omega
    rw [e1, e2]; exact this
theorem markPuzzle_ev (c a : Int) (h0 : 0 ≤ a) (h1 : a ≤ 1048576) (l : List Clue) (hl : l.length ≤ 1048577) : Ev (fun k => laws_markPuzzle.f k c l a) (a + 3 * l.length, markC a l.length) := by
  refine Ev.bind (a := (a + 3 * (l.length : Int), markC a l.length)) ⟨l.length + 1, fun k hk => ?_⟩ (Ev.now _)
  have := markClueS_loop a h0 h1 l hl l.length 0 k (by omega) (by omega)
  unfold laws_markClueS.f
  simpa [markC] using this
theorem heldClueS_loop (a : Int) (h0 : 0 ≤ a) (h1 : a ≤ 1048576) (m : Nat) (hl : m ≤ 1048577) (d : Nat) : ∀ (n k : Nat), n + d = m → d < k →
    laws_heldClueS.l0 k (markC a m) (a + 3 * n) n = some (a + 3 * m) := by
  induction d with
  | zero =>
    intro n k hn hk
    obtain ⟨k, rfl⟩ : ∃ m, k = m + 1 := ⟨k - 1, by omega⟩
    obtain rfl : n = m := by omega
    simp only [laws_heldClueS.l0]; rw [if_neg (by simp [markC_len])]
  | succ d ih =>
    intro n k hn hk
    obtain ⟨k, rfl⟩ : ∃ m, k = m + 1 := ⟨k - 1, by omega⟩
    have hlt : n < (markC a m).length := by rw [markC_len]; omega
    have g : rd_T44 (markC a m) (n : Int) = ⟨a + 3 * n, a + 3 * n + 1, a + 3 * n + 2⟩ := by
      rw [rdC, getD_nat _ _ n hlt]; simp [markC]
    simp only [laws_heldClueS.l0, g]
    rw [if_pos (by rw [markC_len]; omega), if_pos trivial, w0 (x := a + 3 * n + 1) (by omega) (by omega), if_pos rfl, w0 (x := a + 3 * n + 1 + 1) (by omega) (by omega), if_pos (by omega), w0 (x := a + 3 * n + 1 + 1 + 1) (by omega) (by omega), w1 (by omega)]
    have e1 : a + 3 * (n : Int) + 1 + 1 + 1 = a + 3 * ((n + 1 : Nat) : Int) := by omega
    rw [e1, if_pos (by omega)]; exact ih (n + 1) k (by omega) (by omega)
theorem heldPuzzle_ev (c a : Int) (h0 : 0 ≤ a) (h1 : a ≤ 1048576) (m : Nat) (hl : m ≤ 1048577) : Ev (fun k => laws_heldPuzzle.f k c (markC a m) a) (a + 3 * m) := by
  refine Ev.bind (a := a + 3 * (m : Int)) ⟨m + 1, fun k hk => ?_⟩ ?_
  · have := heldClueS_loop a h0 h1 m hl m 0 k (by omega) (by omega)
    show laws_heldClueS.f k (markC a m) a = _
    unfold laws_heldClueS.f
    simpa using this
  · simp only [if_neg (show ¬ (a + 3 * (m : Int) < 0) by omega)]; exact Ev.now _
theorem puzzle_colours (c : Int) (l : List Clue) (h : puzzleB c l = true) : (2 ≤ c ∧ c ≤ 3) ∧ l.length ≤ 6 := by
  unfold puzzleB at h; simp only [Bool.and_eq_true, decide_eq_true_eq] at h; exact ⟨h.1.1, h.1.2⟩
def dropR (c : Int) (l : List Clue) (k : Int) : Int × List Clue × Bool := if puzzleB c l = true ∧ 0 ≤ k ∧ k < (l.length : Int) then (c, l.eraseIdx k.toNat, true) else (0, [], false)
theorem spec_drop_ev (c : Int) (l : List Clue) (hl : l.length ≤ 1048576) (x : Int) : Ev (fun k => spec_DropClue.f k c l x) (dropR c l x) := by
  unfold spec_DropClue.f dropR
  refine (spec_good_ev c l hl).bind ?_
  cases h : puzzleB c l
  · simp only [Bool.false_eq_true, if_false, false_and]; exact Ev.now _
  · simp only [if_true, true_and, spec_l1In.f, w0 (x := (l.length : Int) - 1) (by omega) (by omega)]
    by_cases h0 : 0 ≤ x
    · simp only [ge_iff_le, if_pos h0, Option.bind_some, decide_eq_true_eq]
      by_cases h1 : x < (l.length : Int)
      · obtain ⟨n, rfl⟩ : ∃ n : Nat, x = (n : Int) := ⟨x.toNat, by omega⟩
        have hn : n < l.length := by omega
        simp only [if_pos (show (n : Int) ≤ (l.length : Int) - 1 by omega), spec_pzWithout.f, Option.bind_some, if_pos (show (0 : Int) ≤ (n : Int) by omega), if_pos (show (n : Int) ≤ (l.length : Int) by omega), List.nil_append, w1 (n := n) (by omega), if_pos (show (0 : Int) ≤ ((n + 1 : Nat) : Int) by omega), if_pos (show ((n + 1 : Nat) : Int) ≤ (l.length : Int) by omega), Int.toNat_natCast, true_and, if_pos h1]
        rw [if_pos (show ([] : List Clue).length + (l.take n).length < 5864062014805 by simp; omega)]
        try simp only [Option.bind_some]
        rw [if_pos (show (l.take n).length + (l.drop (n + 1)).length < 5864062014805 by simp; omega), ← List.eraseIdx_eq_take_drop_succ, if_pos (show 0 ≤ (n : Int) ∧ (n : Int) < (l.length : Int) from ⟨by omega, h1⟩)]
        exact Ev.now _
      · simp only [if_neg (show ¬ (x ≤ (l.length : Int) - 1) by omega), h1, and_false, if_false]; exact Ev.now _
    · simp only [ge_iff_le, if_neg h0, Option.bind_some, Bool.false_eq_true, if_false, h0, false_and]; exact Ev.now _
theorem impl_drop_ev (c : Int) (l : List Clue) (hl : l.length ≤ 1048576) (x : Int) : Ev (fun k => impl_DropClue.f k c l x) (dropR c l x) := by
  unfold impl_DropClue.f dropR
  refine (impl_puzzle_ev c l hl).bind ?_
  cases h : puzzleB c l
  · simp only [Bool.false_eq_true, if_false, false_and]; exact Ev.now _
  · simp only [if_true, true_and, impl_within.f, w0 (x := (l.length : Int) - 1) (by omega) (by omega)]
    by_cases h0 : 0 ≤ x
    · simp only [if_pos h0, Option.bind_some, decide_eq_true_eq]
      by_cases h1 : x < (l.length : Int)
      · simp only [if_pos (show x ≤ (l.length : Int) - 1 by omega), impl_without.f, slices_Clone_simpl_Clue_impl_Clue.f, Option.bind_some, List.nil_append, h0, h1, and_self, if_true, true_and]
        rw [if_pos (show ([] : List Clue).length + l.length < 5864062014805 by simp; omega)]
        try simp only [Option.bind_some, h1, if_true]
        exact Ev.now _
      · simp only [if_neg (show ¬ (x ≤ (l.length : Int) - 1) by omega), h1, and_false, if_false]; exact Ev.now _
    · simp only [if_neg h0, Option.bind_some, Bool.false_eq_true, if_false, h0, false_and]; exact Ev.now _
theorem dropR_len (c : Int) (l : List Clue) (hl : l.length ≤ 1048576) (x : Int) : (dropR c l x).2.1.length ≤ 1048576 := by
  unfold dropR; split
  · have := List.length_eraseIdx_le l x.toNat; simp only; omega
  · simp
theorem FnExactDropClue : laws_FnExactDropClue.Pure := by
  intro c l x _ hm _ _
  by_cases hl : l.length ≤ 1048576
  · have h2 : (l.map ofL).length ≤ 1048576 := by simpa using hl
    have h3 := dropR_len c _ h2 x
    have t := toPuzzle_ev c l hl
    refine Ev.rounds (r := true) ?_
    unfold laws_FnExactDropClue.f
    simp only [szPuzzle_small c l hl, Option.bind_some]
    simp only [if_neg (show ¬ (1048576 - (l.length : Int) < 0) by omega)]
    refine t.bind ?_
    refine (spec_drop_ev c _ h2 x).bind ?_
    refine t.bind ?_
    refine (impl_drop_ev c _ h2 x).bind ?_
    refine (eqPuzzle_ev _ _ h3).bind ?_
    simp only [if_true, bne_self_eq_false, Bool.false_eq_true, if_false]
    refine t.bind ?_
    refine (eqPuzzle_ev _ _ h2).bind ?_
    simp only [if_true]
    refine (markPuzzle_ev _ 1 (by omega) (by omega) _ (by omega)).bind ?_
    simp only [if_neg (show ¬ (1 + 3 * ((l.map ofL).length : Int) < 0) by omega)]
    refine (eqPuzzle_ev _ _ h3).bind ?_
    simp only [if_true]
    refine (markPuzzle_ev _ 1 (by omega) (by omega) _ (by omega)).bind ?_
    refine (heldPuzzle_ev _ 1 (by omega) (by omega) _ (by omega)).bind ?_
    simp only [if_neg (show ¬ (1 + 3 * ((dropR c (l.map ofL) x).2.1.length : Int) < 0) by omega), if_true]
    refine t.bind ?_
    refine (impl_drop_ev c _ h2 x).bind ?_
    refine (eqPuzzle_ev _ _ h3).bind ?_
    simp only [if_true, bne_self_eq_false, Bool.false_eq_true, if_false]
    refine (heldPuzzle_ev _ 1 (by omega) (by omega) _ (by omega)).bind ?_
    simp only [if_neg (show ¬ (1 + 3 * ((dropR c (l.map ofL) x).2.1.length : Int) < 0) by omega), if_true]
    exact Ev.now _
  · exact ⟨0, by unfold laws_FnExactDropClue.f; rw [szPuzzle_big c l (by omega) hm]; rfl⟩
end Go.Proofs.Ytdddmkdidegngaa.Pure

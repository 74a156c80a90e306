/- The program's PuzzleText answers as the reference's, for each puzzle whose size the law looks at, and leaves the puzzle as it was. No condition. -/
import Derived.Test.YtdddmkdidegngaaDoorPFnExactPuzzleTextx6
namespace Go.Proofs.YtdddmkdidegngaaDoor.Pure
open Go.RowKit Go.Proofs.YtdddmkdidegngaaDoor.PFnExactPuzzleText Go.Proofs.YtdddmkdidegngaaDoorW.PrintWords Go.Proofs.YtdddmkdidegngaaDoorW.PrintLast
set_option linter.unusedVariables false
set_option linter.unusedSimpArgs false
/-! ### Plain words -/
theorem w1 {n : Nat} (h : n < 4611686018427387904) : wrap64 ((n : Int) + 1) = ((n + 1 : Nat) : Int) := by unfold wrap64; omega
theorem w0 {x : Int} (h1 : -9223372036854775808 ≤ x) (h2 : x ≤ 9223372036854775807) : wrap64 x = x := by unfold wrap64; omega
theorem wfi {x : Int} (h : (Lit.int .i64 x).wf = true) : -9223372036854775808 ≤ x ∧ x ≤ 9223372036854775807 := by
  simpa [Lit.wf, IntKind.min, IntKind.max, IntKind.signed, IntKind.bits] using h
theorem getD_nat {α : Type} (l : List α) (z : α) (n : Nat) (h : n < l.length) : l.getD ((n : Int)).toNat z = l[n] := by
  simp [List.getD_eq_getElem?_getD, h]
theorem fill_set {α β : Type} (f : α → β) (l : List α) (z : β) (n : Nat) (h : n < l.length) :
    ((l.take n).map f ++ List.replicate (l.length - n) z).set n (f l[n]) = (l.take (n + 1)).map f ++ List.replicate (l.length - (n + 1)) z := by
  obtain ⟨d, hd⟩ : ∃ d, l.length - n = d + 1 := ⟨l.length - n - 1, by omega⟩
  rw [List.set_append, if_neg (by simp; omega), List.take_succ_eq_append_getElem h]
  have h1 : n - ((l.take n).map f).length = 0 := by simp; omega
  have h2 : l.length - (n + 1) = d := by omega
  rw [h1, h2, hd, List.replicate_succ, List.set_cons_zero, List.map_append]
  simp
theorem getD_set {α : Type} (l : List α) (z : α) (i j : Nat) (v : α) (hi : i < l.length) : (l.set i v).getD j z = if j = i then v else l.getD j z := by
  by_cases h : j = i
  · subst h; simp [List.getD_eq_getElem?_getD, hi]
  · rw [if_neg h]; simp [List.getD_eq_getElem?_getD, Ne.symm h]
/-- A way that needs no rounds. -/
theorem ev_now {α : Type} {g : Nat → Option α} {r : α} (h : ∀ k, g k = some r) : Ev g r := ⟨0, fun k _ => h k⟩
theorem ev_late {α : Type} {g : Nat → Option α} {r : α} (n : Nat) (h : ∀ k, g (k + n) = some r) : Ev g r := ⟨n, fun k hk => by
  obtain ⟨m, rfl⟩ : ∃ m, k = m + n := ⟨k - n, by omega⟩
  exact h m⟩
theorem ev_eq {α : Type} {g : Nat → Option α} {r s : α} (h : Ev g r) (e : r = s) : Ev g s := e ▸ h
abbrev Clue := S53
theorem rdC (xs : List Clue) (i : Int) : rd_T53 xs i = xs.getD i.toNat z53 := rfl
abbrev zC : Clue := z53
theorem rdI (xs : List Int) (n : Nat) (h : n < xs.length) : rd xs (n : Int) = xs[n] := getD_nat xs 0 n h
theorem eqClueS_loop (l : List Clue) (hl : l.length ≤ 1048576) (d : Nat) : ∀ (n k : Nat), n + d = l.length → d < k → laws_eqClueS.l0 k l l n = some true := by
  induction d with
  | zero =>
    intro n k hn hk
    obtain ⟨k, rfl⟩ : ∃ m, k = m + 1 := ⟨k - 1, by omega⟩
    simp only [laws_eqClueS.l0]; rw [if_neg (by omega)]
  | succ d ih =>
    intro n k hn hk
    obtain ⟨k, rfl⟩ : ∃ m, k = m + 1 := ⟨k - 1, by omega⟩
    simp only [laws_eqClueS.l0, laws_eqClue.f, if_true, Option.bind_some]
    rw [if_pos (by omega), if_pos (by omega), if_pos (by omega), w1 (by omega)]
    exact ih (n + 1) k (by omega) (by omega)
theorem eqClueS_ev (l : List Clue) (hl : l.length ≤ 1048576) : Ev (fun k => laws_eqClueS.f k l l) true :=
  ⟨l.length + 1, fun k hk => by
    show laws_eqClueS.f k l l = _
    unfold laws_eqClueS.f
    rw [if_pos rfl]
    exact eqClueS_loop l hl l.length 0 k (by omega) (by omega)⟩
theorem eqPuzzle_ev (c : Int) (l : List Clue) (hl : l.length ≤ 1048576) : Ev (fun k => laws_eqPuzzle.f k c l c l) true := by
  refine Ev.congr (f := fun k => (laws_eqClueS.f k l l).bind fun t => (if t = true then (some true) else (some false))) (fun k => by unfold laws_eqPuzzle.f; rw [if_pos rfl]) ?_
  exact (eqClueS_ev l hl).bind (Ev.now _)
abbrev LClue := S56
theorem rdL (xs : List LClue) (i : Int) : rd_T56 xs i = xs.getD i.toNat z56 := rfl
/-! ### Clues: taken over, compared -/
def ofL (x : LClue) : Clue := ⟨x.f0, x.f1, x.f2⟩
theorem toClueS_loop (l : List LClue) (hl : l.length ≤ 1048576) (d : Nat) : ∀ (n k : Nat), n + d = l.length → d < k →
    laws_toClueS.l0 k l ((l.take n).map ofL ++ List.replicate (l.length - n) zC) n = some (l.map ofL) := by
  induction d with
  | zero =>
    intro n k hn hk
    obtain ⟨k, rfl⟩ : ∃ m, k = m + 1 := ⟨k - 1, by omega⟩
    simp only [laws_toClueS.l0]; rw [if_neg (by omega)]
    obtain rfl : n = l.length := by omega
    simp
  | succ d ih =>
    intro n k hn hk
    obtain ⟨k, rfl⟩ : ∃ m, k = m + 1 := ⟨k - 1, by omega⟩
    have hlt : n < l.length := by omega
    simp only [laws_toClueS.l0, laws_toClue.f, rdL]
    rw [if_pos (by omega), if_pos (by omega)]
    simp only [Option.bind_some]
    rw [if_pos (by simp; omega), getD_nat l _ n hlt, w1 (by omega), Int.toNat_natCast]
    exact (congrArg (fun z => laws_toClueS.l0 k l z ((n + 1 : Nat) : Int)) (fill_set ofL l zC n hlt)).trans (ih (n + 1) k (by omega) (by omega))
theorem toClueS_ev (l : List LClue) (hl : l.length ≤ 1048576) : Ev (fun k => laws_toClueS.f k l) (l.map ofL) :=
  ⟨l.length + 1, fun k hk => by
    show laws_toClueS.f k l = _
    unfold laws_toClueS.f
    rw [if_pos (by omega), if_pos (by simp; omega)]
    have h := toClueS_loop l hl l.length 0 k (by omega) (by omega)
    simpa using h⟩
theorem toPuzzle_ev (c : Int) (l : List LClue) (hl : l.length ≤ 1048576) : Ev (fun k => laws_toPuzzle.f k c l) (c, l.map ofL) :=
  (toClueS_ev l hl).bind (Ev.now _)
theorem szPuzzle_big (c : Int) (l : List LClue) (h : 1048576 < l.length) (hm : l.length ≤ maxLen) : laws_szPuzzle.f c l 1048576 = some (-1) := by
  unfold maxLen at hm
  unfold laws_szPuzzle.f laws_szClueS.f
  rw [w0 (by omega) (by omega), if_pos (by omega)]; rfl
theorem szPuzzle_small (c : Int) (l : List LClue) (h : l.length ≤ 1048576) : laws_szPuzzle.f c l 1048576 = some (1048576 - (l.length : Int)) := by
  unfold laws_szPuzzle.f laws_szClueS.f
  rw [w0 (by omega) (by omega), if_neg (by omega)]; simp only [Option.bind_some]; rw [if_neg (by omega)]
def clueB (c kd a b : Int) : Bool := decide (0 ≤ b ∧ b ≤ 15) && (if kd = 0 ∨ kd = 2 ∨ kd = 5 then a == 0 else if kd = 1 then decide (0 ≤ a ∧ a ≤ c - 1) else if kd = 3 then decide (1 ≤ a ∧ a ≤ 6) else if kd = 4 then decide (0 ≤ a ∧ a ≤ c - 1 ∧ b ≤ 1) else false)
theorem l1In_is (n a b : Int) : spec_l1In.f n a b = some (decide (a ≤ n ∧ n ≤ b)) := by
  unfold spec_l1In.f; by_cases h : n ≥ a <;> simp [h] <;> omega
theorem within_is (n a b : Int) : impl_within.f n a b = some (decide (a ≤ n ∧ n ≤ b)) := by
  unfold impl_within.f; by_cases h : a ≤ n <;> simp [h]
/-! ### Puzzles -/
theorem spec_clue_ev (c kd a b : Int) (hc : 2 ≤ c ∧ c ≤ 3) : Ev (fun k => spec_pzClue.f k c kd a b) (clueB c kd a b) := by
  refine ev_late 2 fun k => ?_
  simp only [spec_pzClue.f, spec_pzClue.j0, l1In_is, Option.bind_some, w0 (x := c - 1) (by omega) (by omega)]
  unfold clueB
  by_cases hb : 0 ≤ b ∧ b ≤ 15
  · by_cases h0 : kd = 0
    · subst h0; simp [hb]
    · by_cases h2 : kd = 2
      · subst h2; simp [hb]
      · by_cases h5 : kd = 5
        · subst h5; simp [hb]
        · by_cases h1 : kd = 1
          · subst h1; simp [hb]
          · by_cases h3 : kd = 3
            · subst h3; simp [hb]
            · by_cases h4 : kd = 4
              · subst h4; simp only [hb]; by_cases ha : 0 ≤ a ∧ a ≤ c - 1 <;> by_cases hb2 : b ≤ 1 <;> simp [ha, hb, hb2] <;> omega
              · simp [hb, h0, h1, h2, h3, h4, h5]
  · simp [hb]
theorem impl_clue_ev (c kd a b : Int) (hc : 2 ≤ c ∧ c ≤ 3) : Ev (fun k => impl_IsClue.f k c kd a b) (clueB c kd a b) := by
  refine ev_late 3 fun k => ?_
  simp only [impl_IsClue.f, impl_IsClue.j0, impl_IsClue.j1, impl_isHiddenColours.f, within_is, Option.bind_some, w0 (x := c - 1) (by omega) (by omega)]
  unfold clueB
  by_cases hb : 0 ≤ b ∧ b ≤ 15
  · by_cases h0 : kd = 0
    · subst h0; simp [hb, hc]
    · by_cases h2 : kd = 2
      · subst h2; simp [hb, hc]
      · by_cases h5 : kd = 5
        · subst h5; simp [hb, hc]
        · by_cases h1 : kd = 1
          · subst h1; simp [hb, hc]
          · by_cases h3 : kd = 3
            · subst h3; simp [hb, hc]
            · by_cases h4 : kd = 4
              · subst h4; by_cases ha : 0 ≤ a ∧ a ≤ c - 1 <;> by_cases hb2 : b ≤ 1 <;> simp [ha, hb, hc, hb2] <;> omega
              · simp [hb, hc, h0, h1, h2, h3, h4, h5]
  · simp [hb, hc]
def puzzleB (c : Int) (l : List Clue) : Bool := decide (2 ≤ c ∧ c ≤ 3) && decide (l.length ≤ 6) && l.all (fun x => clueB c x.f0 x.f1 x.f2)
theorem spec_good_loop (c : Int) (hc : 2 ≤ c ∧ c ≤ 3) (l : List Clue) (hl : l.length ≤ 1048576) (d : Nat) : ∀ (n : Nat), n + d = l.length → Ev (fun k => spec_pzGood.l0 k l (l.length : Int) n c l) ((l.drop n).all fun x => clueB c x.f0 x.f1 x.f2) := by
  induction d with
  | zero =>
    intro n hn
    refine ev_late 1 fun k => ?_
    simp only [spec_pzGood.l0]; rw [if_neg (by omega)]
    obtain rfl : n = l.length := by omega
    simp
  | succ d ih =>
    intro n hn
    have hlt : n < l.length := by omega
    refine Ev.step (f := fun k => (spec_pzClue.f k c l[n].f0 l[n].f1 l[n].f2).bind fun t => if t = true then spec_pzGood.l0 k l (l.length : Int) ((n + 1 : Nat) : Int) c l else some false) (fun k => ?_) ?_
    · simp only [spec_pzGood.l0, rdC]
      rw [if_pos (by omega), if_pos (by omega), if_pos (by omega), getD_nat l _ n hlt, w1 (by omega)]
    · refine (spec_clue_ev c _ _ _ hc).bind ?_
      rw [List.drop_eq_getElem_cons hlt, List.all_cons]
      cases h : clueB c l[n].f0 l[n].f1 l[n].f2
      · exact Ev.now _
      · simpa using ih (n + 1) (by omega)
theorem spec_good_ev (c : Int) (l : List Clue) (hl : l.length ≤ 1048576) : Ev (fun k => spec_pzGood.f k c l) (puzzleB c l) := by
  unfold puzzleB
  by_cases hc : 2 ≤ c ∧ c ≤ 3
  · refine Ev.congr (f := fun k => spec_pzGood.j0 k (decide ((l.length : Int) > 6)) c l) (fun k => ?_) ?_
    · simp only [spec_pzGood.f, spec_pzColours.f, l1In_is, Option.bind_some]; simp [hc]
    · by_cases h6 : l.length ≤ 6
      · refine Ev.step (f := fun k => spec_pzGood.l0 k l (l.length : Int) 0 c l) (fun k => ?_) (ev_eq (spec_good_loop c hc l hl l.length 0 (by omega)) (by simp [hc, h6]))
        simp only [spec_pzGood.j0]; rw [if_neg (by simp; omega)]
      · refine ev_late 1 fun k => ?_
        simp only [spec_pzGood.j0]; rw [if_pos (by simp; omega)]; simp [h6]
  · refine ev_late 1 fun k => ?_
    simp only [spec_pzGood.f, spec_pzColours.f, l1In_is, Option.bind_some]
    rw [if_neg (by simpa using hc)]
    simp only [spec_pzGood.j0, if_true]; simp [hc]
theorem index_clue_loop (l : List Clue) (hl : l.length ≤ 1048576) (q : Clue → Bool) :
    ∃ K, ∀ k φ, K ≤ k → (∀ x ∈ l, φ x.f0 x.f1 x.f2 = some (q x)) → ∃ r, slices_IndexFunc_simpl_Clue_impl_Clue.l0 k l φ (l.length : Int) 0 = some r ∧ (decide (r ≥ 0) = l.any q) := by
  have H : ∀ (d n k : Nat) (φ : Int → Int → Int → Option Bool), n + d = l.length → d < k → (∀ x ∈ l, φ x.f0 x.f1 x.f2 = some (q x)) → ∃ r, slices_IndexFunc_simpl_Clue_impl_Clue.l0 k l φ (l.length : Int) n = some r ∧ (decide (r ≥ 0) = (l.drop n).any q) := by
    intro d
    induction d with
    | zero =>
      intro n k φ hn hk hφ
      obtain ⟨k, rfl⟩ : ∃ m, k = m + 1 := ⟨k - 1, by omega⟩
      obtain rfl : n = l.length := by omega
      exact ⟨-1, by simp only [slices_IndexFunc_simpl_Clue_impl_Clue.l0]; rw [if_neg (by omega)], by simp⟩
    | succ d ih =>
      intro n k φ hn hk hφ
      obtain ⟨k, rfl⟩ : ∃ m, k = m + 1 := ⟨k - 1, by omega⟩
      have hlt : n < l.length := by omega
      have hx := hφ l[n] (List.getElem_mem hlt)
      obtain ⟨r, hr, hq⟩ := ih (n + 1) k φ (by omega) (by omega) hφ
      rw [List.drop_eq_getElem_cons hlt, List.any_cons]
      cases h : q l[n]
      · refine ⟨r, ?_, by simpa [h] using hq⟩
        simp only [slices_IndexFunc_simpl_Clue_impl_Clue.l0, rdC]
        rw [if_pos (by omega), if_pos (by omega), if_pos (by omega), getD_nat l _ n hlt, hx, h, w1 (by omega)]
        simpa using hr
      · refine ⟨n, ?_, by simp⟩
        simp only [slices_IndexFunc_simpl_Clue_impl_Clue.l0, rdC]
        rw [if_pos (by omega), if_pos (by omega), if_pos (by omega), getD_nat l _ n hlt, hx, h]
        rfl
  exact ⟨l.length + 1, fun k φ hk hφ => by simpa using H l.length 0 k φ (by omega) (by omega) hφ⟩
/-- Rounds enough for all of a list. -/
theorem ev_all {α β : Type} (l : List α) (g : α → Nat → Option β) (r : α → β) (h : ∀ x ∈ l, Ev (g x) (r x)) : ∃ K, ∀ k, K ≤ k → ∀ x ∈ l, g x k = some (r x) := by
  induction l with
  | nil => exact ⟨0, fun k _ x hx => by cases hx⟩
  | cons a l ih =>
    obtain ⟨K, hK⟩ := ih fun x hx => h x (by simp [hx])
    obtain ⟨L, hL⟩ := h a (by simp)
    refine ⟨max K L, fun k hk x hx => ?_⟩
    rcases List.mem_cons.1 hx with rfl | hx
    · exact hL k (by omega)
    · exact hK k (by omega) x hx
theorem impl_puzzle_ev (c : Int) (l : List Clue) (hl : l.length ≤ 1048576) : Ev (fun k => impl_IsPuzzle.f k c l) (puzzleB c l) := by
  unfold puzzleB
  by_cases hc : 2 ≤ c ∧ c ≤ 3
  · by_cases h6 : l.length ≤ 6
    · have hp : ∀ x ∈ l, Ev (fun k => impl_IsPuzzle_1.f k x.f0 x.f1 x.f2 c l) (!clueB c x.f0 x.f1 x.f2) := fun x _ => (impl_clue_ev c _ _ _ hc).bind (Ev.now _)
      obtain ⟨K, hK⟩ := ev_all l (fun x k => impl_IsPuzzle_1.f k x.f0 x.f1 x.f2 c l) (fun x => !clueB c x.f0 x.f1 x.f2) hp
      obtain ⟨L, hL⟩ := index_clue_loop l hl (fun x => !clueB c x.f0 x.f1 x.f2)
      refine ⟨max K L, fun k hk => ?_⟩
      obtain ⟨r, hr, hq⟩ := hL k (fun a b d => impl_IsPuzzle_1.f k a b d c l) (by omega) (hK k (by omega))
      simp only [impl_IsPuzzle.f, impl_isHiddenColours.f, within_is, Option.bind_some]
      rw [if_pos (by simpa using hc), if_pos (by omega)]
      simp only [slices_ContainsFunc_simpl_Clue_impl_Clue.f, slices_IndexFunc_simpl_Clue_impl_Clue.f, hr, Option.bind_some, hq]
      simp [hc, h6, List.all_eq_not_any_not]
    · refine ev_now fun k => ?_
      simp only [impl_IsPuzzle.f, impl_isHiddenColours.f, within_is, Option.bind_some]
      rw [if_pos (by simpa using hc), if_neg (by omega)]; simp [h6]
  · refine ev_now fun k => ?_
    simp only [impl_IsPuzzle.f, impl_isHiddenColours.f, within_is, Option.bind_some]
    rw [if_neg (by simpa using hc)]; simp [hc]
theorem puzzle_colours (c : Int) (l : List Clue) (h : puzzleB c l = true) : (2 ≤ c ∧ c ≤ 3) ∧ l.length ≤ 6 := by
  unfold puzzleB at h; simp only [Bool.and_eq_true, decide_eq_true_eq] at h; exact ⟨h.1.1, h.1.2⟩
/-! ### The decimal text of a small number -/
def numB (n : Nat) : ByteArray := ⟨(Go.Lib.decDigits n).toArray⟩
theorem digit_is : ∀ d : Nat, d < 10 → strOfNums [(wrap64 (48 + (d : Int))) % 256] = (⟨#[UInt8.ofNat (48 + d)]⟩ : ByteArray) := by decide +kernel
theorem numB_one (n : Nat) (h : n < 10) : numB n = (⟨#[UInt8.ofNat (48 + n)]⟩ : ByteArray) := by
  unfold numB; rw [Go.Lib.decDigits, dif_pos h]
theorem numB_two (n : Nat) (h : ¬ n < 10) (h2 : n < 100) : numB n = (⟨#[UInt8.ofNat (48 + n / 10)]⟩ : ByteArray) ++ (⟨#[UInt8.ofNat (48 + n % 10)]⟩ : ByteArray) := by
  unfold numB; rw [Go.Lib.decDigits, dif_neg h, Go.Lib.decDigits, dif_pos (by omega)]
  apply ByteArray.ext
  rw [ByteArray.data_append]
  simp
theorem numB_size (n : Nat) (h : n < 100) : (numB n).size ≤ 2 := by
  by_cases h1 : n < 10
  · rw [numB_one n h1]; exact (by decide : (1 : Nat) ≤ 2)
  · rw [numB_two n h1 h, ByteArray.size_append]; exact (by decide : (1 : Nat) + 1 ≤ 2)
theorem l1Num_one (n : Nat) (h : n < 10) (k : Nat) : spec_l1Num.f (k + 1) (n : Int) = some (numB n) := by
  simp only [spec_l1Num.f]
  rw [if_pos (by omega), digit_is n h, numB_one n h]
theorem l1Num_ev (n : Nat) (h : n < 100) : Ev (fun k => spec_l1Num.f k (n : Int)) (numB n) := by
  by_cases h1 : n < 10
  · exact ev_late 1 fun k => l1Num_one n h1 k
  · refine ev_late 2 fun k => ?_
    rw [show spec_l1Num.f (k + 2) (n : Int) = spec_l1Num.f (k + 1 + 1) (n : Int) from rfl, spec_l1Num.f]
    have hd : Int.tdiv (n : Int) 10 = ((n / 10 : Nat) : Int) := by rw [Int.tdiv_eq_ediv_of_nonneg (by omega)]; omega
    have hm : Int.tmod (n : Int) 10 = ((n % 10 : Nat) : Int) := by rw [Int.tmod_eq_emod_of_nonneg (by omega)]; omega
    rw [if_neg (by omega), hd, hm, w0 (by omega) (by omega), l1Num_one (n / 10) (by omega) k]
    simp only [Option.bind_some]
    rw [digit_is (n % 10) (by omega), numB_one (n / 10) (by omega), if_pos (by exact (by decide : (1 : Nat) + 1 ≤ 9223372036854775807)), numB_two n h1 h]
theorem itoa_is (n : Nat) (h : n < 100) : strconv_Itoa.f (n : Int) = some (numB n) := by
  unfold strconv_Itoa.f; rw [if_pos (by omega)]; rfl
theorem rdC' (l : List Clue) (n : Nat) (h : n < l.length) : rd_T53 l (n : Int) = l[n] := by rw [rdC, getD_nat l _ n h]
theorem num_ev (v : Int) (h : 0 ≤ v ∧ v < 100) : Ev (fun k => spec_l1Num.f k v) (numB v.toNat) := by
  obtain ⟨n, rfl⟩ : ∃ n : Nat, v = (n : Int) := ⟨v.toNat, by omega⟩
  rw [Int.toNat_natCast]; exact l1Num_ev n (by omega)
theorem num_is (v : Int) (h : 0 ≤ v ∧ v < 100) : strconv_Itoa.f v = some (numB v.toNat) := by
  obtain ⟨n, rfl⟩ : ∃ n : Nat, v = (n : Int) := ⟨v.toNat, by omega⟩
  rw [Int.toNat_natCast]; exact itoa_is n (by omega)
def smallC (x : Clue) : Prop := (0 ≤ x.f0 ∧ x.f0 < 100) ∧ (0 ≤ x.f1 ∧ x.f1 < 100) ∧ (0 ≤ x.f2 ∧ x.f2 < 100)
theorem clue_small (c : Int) (hc : 2 ≤ c ∧ c ≤ 3) (x : Clue) (h : clueB c x.f0 x.f1 x.f2 = true) : smallC x := by
  unfold clueB at h; unfold smallC
  simp only [Bool.and_eq_true, decide_eq_true_eq] at h
  obtain ⟨hb, h⟩ := h
  split at h
  · rename_i hk; have ha : x.f1 = 0 := by simpa using h
    rw [ha]; omega
  · split at h
    · rename_i hk; simp only [decide_eq_true_eq] at h; omega
    · split at h
      · rename_i hk; simp only [decide_eq_true_eq] at h; omega
      · split at h
        · rename_i hk; simp only [decide_eq_true_eq] at h; omega
        · cases h
def dot : ByteArray := ⟨#[46]⟩
def comma : ByteArray := ⟨#[44]⟩
def clueT (x : Clue) : ByteArray := ((((numB x.f0.toNat ++ (⟨#[46]⟩ : ByteArray)) ++ numB x.f1.toNat) ++ (⟨#[46]⟩ : ByteArray)) ++ numB x.f2.toNat)
theorem one46 : (⟨#[46]⟩ : ByteArray).size = 1 := rfl
theorem one44 : (⟨#[44]⟩ : ByteArray).size = 1 := rfl
theorem one99 : (⟨#[99]⟩ : ByteArray).size = 1 := rfl
theorem clue_sizes (x : Clue) (h : smallC x) : (numB x.f0.toNat).size + 1 ≤ 9223372036854775807 ∧ (numB x.f0.toNat ++ (⟨#[46]⟩ : ByteArray)).size + (numB x.f1.toNat).size ≤ 9223372036854775807 ∧ ((numB x.f0.toNat ++ (⟨#[46]⟩ : ByteArray)) ++ numB x.f1.toNat).size + 1 ≤ 9223372036854775807 ∧ (((numB x.f0.toNat ++ (⟨#[46]⟩ : ByteArray)) ++ numB x.f1.toNat) ++ (⟨#[46]⟩ : ByteArray)).size + (numB x.f2.toNat).size ≤ 9223372036854775807 ∧ (clueT x).size ≤ 8 := by
  obtain ⟨a, b, c⟩ := h
  have h1 := numB_size x.f0.toNat (by omega)
  have h2 := numB_size x.f1.toNat (by omega)
  have h3 := numB_size x.f2.toNat (by omega)
  unfold clueT
  simp only [ByteArray.size_append, one46]; omega
/-- The text behind acc of the clues to come; first: whether none came yet. -/
def endT : Bool → ByteArray → List Clue → ByteArray
  | _, acc, [] => acc
  | true, acc, x :: r => endT false (acc ++ clueT x) r
  | false, acc, x :: r => endT false ((acc ++ (⟨#[44]⟩ : ByteArray)) ++ clueT x) r
theorem pzText_loop (l : List Clue) (hs : ∀ x ∈ l, smallC x) (hl : l.length ≤ 6) (d : Nat) : ∀ (i : Nat) (acc : ByteArray), i + d = l.length → acc.size ≤ 100 + 9 * i → Ev (fun k => spec_pzText.l0 k acc l (l.length : Int) (i : Int)) (endT (decide (i = 0)) acc (l.drop i)) := by
  induction d with
  | zero =>
    intro i acc hi ha
    obtain rfl : i = l.length := by omega
    refine ev_late 1 fun k => ?_
    simp only [spec_pzText.l0]; rw [if_neg (by omega), List.drop_length]
    cases decide (l.length = 0) <;> rfl
  | succ d ih =>
    intro i acc hi ha
    have hlt : i < l.length := by omega
    have hsm := hs l[i] (List.getElem_mem hlt)
    obtain ⟨s1, s2, s3, s4, s5⟩ := clue_sizes l[i] hsm
    rw [List.drop_eq_getElem_cons hlt]
    by_cases h0 : i = 0
    · subst h0
      have hn := ih 1 (acc ++ clueT l[0]) (by omega) (by rw [ByteArray.size_append]; omega)
      refine Ev.step (f := fun k => (spec_l1Num.f k l[0].f0).bind fun t128 => if t128.size + 1 ≤ 9223372036854775807 then (spec_l1Num.f k l[0].f1).bind fun t129 => if (t128 ++ (⟨#[46]⟩ : ByteArray)).size + t129.size ≤ 9223372036854775807 then if ((t128 ++ (⟨#[46]⟩ : ByteArray)) ++ t129).size + 1 ≤ 9223372036854775807 then (spec_l1Num.f k l[0].f2).bind fun t130 => if (((t128 ++ (⟨#[46]⟩ : ByteArray)) ++ t129) ++ (⟨#[46]⟩ : ByteArray)).size + t130.size ≤ 9223372036854775807 then if acc.size + ((((t128 ++ (⟨#[46]⟩ : ByteArray)) ++ t129) ++ (⟨#[46]⟩ : ByteArray)) ++ t130).size ≤ 9223372036854775807 then spec_pzText.l0 k (acc ++ ((((t128 ++ (⟨#[46]⟩ : ByteArray)) ++ t129) ++ (⟨#[46]⟩ : ByteArray)) ++ t130)) l (l.length : Int) ((0 + 1 : Nat) : Int) else none else none else none else none else none) (fun k => ?_) ?_
      · simp only [spec_pzText.l0]
        rw [if_pos (by omega), if_pos (by omega), if_pos (by omega), if_neg (by omega), rdC' l 0 hlt, w1 (by omega)]
      · refine (num_ev _ hsm.1).bind ?_
        simp only [if_pos s1]
        refine (num_ev _ hsm.2.1).bind ?_
        simp only [if_pos s2, if_pos s3]
        refine (num_ev _ hsm.2.2).bind ?_
        have s6 : acc.size + ((((numB l[0].f0.toNat ++ (⟨#[46]⟩ : ByteArray)) ++ numB l[0].f1.toNat) ++ (⟨#[46]⟩ : ByteArray)) ++ numB l[0].f2.toNat).size ≤ 9223372036854775807 := by
          have e : ((((numB l[0].f0.toNat ++ (⟨#[46]⟩ : ByteArray)) ++ numB l[0].f1.toNat) ++ (⟨#[46]⟩ : ByteArray)) ++ numB l[0].f2.toNat).size = (clueT l[0]).size := rfl
          omega
        simp only [if_pos s4, if_pos s6]
        exact hn
    · have hn := ih (i + 1) ((acc ++ (⟨#[44]⟩ : ByteArray)) ++ clueT l[i]) (by omega) (by rw [ByteArray.size_append, ByteArray.size_append, one44]; omega)
      have hd : decide (i = 0) = false := decide_eq_false h0
      have hd1 : decide (i + 1 = 0) = false := decide_eq_false (by omega)
      rw [hd1] at hn
      rw [hd]
      refine Ev.step (f := fun k => if acc.size + 1 ≤ 9223372036854775807 then (spec_l1Num.f k l[i].f0).bind fun t125 => if t125.size + 1 ≤ 9223372036854775807 then (spec_l1Num.f k l[i].f1).bind fun t126 => if (t125 ++ (⟨#[46]⟩ : ByteArray)).size + t126.size ≤ 9223372036854775807 then if ((t125 ++ (⟨#[46]⟩ : ByteArray)) ++ t126).size + 1 ≤ 9223372036854775807 then (spec_l1Num.f k l[i].f2).bind fun t127 => if (((t125 ++ (⟨#[46]⟩ : ByteArray)) ++ t126) ++ (⟨#[46]⟩ : ByteArray)).size + t127.size ≤ 9223372036854775807 then if (acc ++ (⟨#[44]⟩ : ByteArray)).size + ((((t125 ++ (⟨#[46]⟩ : ByteArray)) ++ t126) ++ (⟨#[46]⟩ : ByteArray)) ++ t127).size ≤ 9223372036854775807 then spec_pzText.l0 k ((acc ++ (⟨#[44]⟩ : ByteArray)) ++ ((((t125 ++ (⟨#[46]⟩ : ByteArray)) ++ t126) ++ (⟨#[46]⟩ : ByteArray)) ++ t127)) l (l.length : Int) ((i + 1 : Nat) : Int) else none else none else none else none else none else none) (fun k => ?_) ?_
      · simp only [spec_pzText.l0]
        rw [if_pos (by omega), if_pos (by omega), if_pos (by omega), if_pos (by omega), rdC' l i hlt, w1 (by omega)]
      · simp only [if_pos (show acc.size + 1 ≤ 9223372036854775807 by omega)]
        refine (num_ev _ hsm.1).bind ?_
        simp only [if_pos s1]
        refine (num_ev _ hsm.2.1).bind ?_
        simp only [if_pos s2, if_pos s3]
        refine (num_ev _ hsm.2.2).bind ?_
        have s6 : (acc ++ (⟨#[44]⟩ : ByteArray)).size + ((((numB l[i].f0.toNat ++ (⟨#[46]⟩ : ByteArray)) ++ numB l[i].f1.toNat) ++ (⟨#[46]⟩ : ByteArray)) ++ numB l[i].f2.toNat).size ≤ 9223372036854775807 := by
          have e : ((((numB l[i].f0.toNat ++ (⟨#[46]⟩ : ByteArray)) ++ numB l[i].f1.toNat) ++ (⟨#[46]⟩ : ByteArray)) ++ numB l[i].f2.toNat).size = (clueT l[i]).size := rfl
          rw [ByteArray.size_append, one44]; omega
        simp only [if_pos s4, if_pos s6]
        exact hn
theorem endT_false : ∀ (r : List Clue) (acc : ByteArray), (endT false acc r).data.toList = acc.data.toList ++ Go.Lib.joinTail [44] (r.map fun x => (clueT x).data.toList)
  | [], acc => by simp [endT, Go.Lib.joinTail]
  | x :: r, acc => by
    rw [endT, endT_false r]
    simp [Go.Lib.joinTail, ByteArray.data_append, List.append_assoc]
theorem endT_true (l : List Clue) (acc : ByteArray) : (endT true acc l).data.toList = acc.data.toList ++ Go.Lib.join (l.map fun x => (clueT x).data.toList) [44] := by
  cases l with
  | nil => simp [endT, Go.Lib.join_nil]
  | cons x r =>
    rw [endT, endT_false r, ByteArray.data_append, Array.toList_append, List.append_assoc]
    rw [List.map_cons, Go.Lib.join_cons]
theorem join3 (a b c : ByteArray) : Go.Lib.join ([a, b, c].map (·.data.toList)) (⟨#[46]⟩ : ByteArray).data.toList = ((((a ++ (⟨#[46]⟩ : ByteArray)) ++ b) ++ (⟨#[46]⟩ : ByteArray)) ++ c).data.toList := by
  simp [Go.Lib.join, List.intercalate, List.intersperse, ByteArray.data_append]
theorem bytes_len (a : ByteArray) : a.data.toList.length = a.size := by rw [Array.length_toList]; rfl
theorem joined_ev (x : Clue) (h : smallC x) : Ev (fun k => impl_joined.f k [x.f0, x.f1, x.f2] (⟨#[46]⟩ : ByteArray)) (clueT x) := by
  refine ev_late 4 fun k => ?_
  have s5 := (clue_sizes x h).2.2.2.2
  have e0 : wrap64 (0 + 1) = 1 := by unfold wrap64; omega
  have e1 : wrap64 (1 + 1) = 2 := by unfold wrap64; omega
  have e2 : wrap64 (2 + 1) = 3 := by unfold wrap64; omega
  have r0 : rd [x.f0, x.f1, x.f2] 0 = x.f0 := rfl
  have r1 : rd [x.f0, x.f1, x.f2] 1 = x.f1 := rfl
  have r2 : rd [x.f0, x.f1, x.f2] 2 = x.f2 := rfl
  have hj : strings_Join.f [numB x.f0.toNat, numB x.f1.toNat, numB x.f2.toNat] (⟨#[46]⟩ : ByteArray) = some (clueT x) := by
    unfold strings_Join.f
    rw [join3, if_pos]
    · rfl
    · refine ⟨?_, by simp⟩
      rw [bytes_len]
      have e : ((((numB x.f0.toNat ++ (⟨#[46]⟩ : ByteArray)) ++ numB x.f1.toNat) ++ (⟨#[46]⟩ : ByteArray)) ++ numB x.f2.toNat).size = (clueT x).size := rfl
      omega
  show impl_joined.l0 (k + 3 + 1) (⟨#[46]⟩ : ByteArray) [] [x.f0, x.f1, x.f2] 3 0 = _
  simp only [impl_joined.l0, List.length_cons, List.length_nil, r0, r1, r2, e0, e1, e2, num_is _ h.1, num_is _ h.2.1, num_is _ h.2.2, Option.bind_some, List.nil_append, List.cons_append, hj]
  simp
theorem implText_loop (c : Int) (hc : 0 ≤ c ∧ c < 100) (l : List Clue) (hs : ∀ x ∈ l, smallC x) (hl : l.length ≤ 6) (d : Nat) : ∀ (i : Nat), i + d = l.length → Ev (fun k => impl_Puzzle_text.l0 k ((l.take i).map clueT) l (l.length : Int) (i : Int) c l) (endT true (numB c.toNat ++ (⟨#[99]⟩ : ByteArray)) l) := by
  induction d with
  | zero =>
    intro i hi
    obtain rfl : i = l.length := by omega
    refine ev_late 1 fun k => ?_
    simp only [impl_Puzzle_text.l0]
    rw [if_neg (by omega), num_is c hc, List.take_length]
    have h1 := numB_size c.toNat (by omega)
    have hlen : ∀ r : List Clue, (∀ x ∈ r, smallC x) → (Go.Lib.joinTail [44] (r.map fun x => (clueT x).data.toList)).length ≤ 9 * r.length := by
      intro r
      induction r with
      | nil => intro _; simp [Go.Lib.joinTail]
      | cons y r ihr =>
        intro hr
        have h2 := ihr (fun z hz => hr z (List.mem_cons_of_mem _ hz))
        have h3 := (clue_sizes y (hr y (List.mem_cons_self ..))).2.2.2.2
        have h4 := bytes_len (clueT y)
        simp only [Go.Lib.joinTail, List.map_cons, List.flatten_cons, List.length_append, List.length_cons, List.length_nil] at h2 ⊢
        omega
    have hjl : (Go.Lib.join ((l.map clueT).map (·.data.toList)) (⟨#[44]⟩ : ByteArray).data.toList).length ≤ 60 := by
      rw [List.map_map]
      cases l with
      | nil => simp [Go.Lib.join_nil]
      | cons x r =>
        have h2 := hlen r (fun z hz => hs z (List.mem_cons_of_mem _ hz))
        have h3 := (clue_sizes x (hs x (List.mem_cons_self ..))).2.2.2.2
        have h4 := bytes_len (clueT x)
        rw [List.map_cons, Go.Lib.join_cons, List.length_append]
        simp only [List.length_cons] at hl
        have h5 : (Go.Lib.joinTail (⟨#[44]⟩ : ByteArray).data.toList (r.map ((fun y : ByteArray => y.data.toList) ∘ clueT))).length = (Go.Lib.joinTail [44] (r.map fun x => (clueT x).data.toList)).length := rfl
        simp only [Function.comp] at h5 ⊢
        omega
    have hj : strings_Join.f (l.map clueT) (⟨#[44]⟩ : ByteArray) = some ⟨(Go.Lib.join ((l.map clueT).map (·.data.toList)) (⟨#[44]⟩ : ByteArray).data.toList).toArray⟩ := by
      unfold strings_Join.f; rw [if_pos ⟨by omega, by rw [List.length_map]; omega⟩]
    have hz : (⟨(Go.Lib.join ((l.map clueT).map (·.data.toList)) (⟨#[44]⟩ : ByteArray).data.toList).toArray⟩ : ByteArray).size ≤ 60 := by rw [← bytes_len]; exact hjl
    have hfin : (numB c.toNat ++ (⟨#[99]⟩ : ByteArray)).size + (⟨(Go.Lib.join ((l.map clueT).map (·.data.toList)) (⟨#[44]⟩ : ByteArray).data.toList).toArray⟩ : ByteArray).size ≤ 9223372036854775807 := by
      rw [ByteArray.size_append, one99]; omega
    simp only [Option.bind_some, hj]
    rw [if_pos (by omega), if_pos hfin]
    congr 1
    apply ByteArray.ext
    apply Array.toList_inj.1
    rw [endT_true, ByteArray.data_append, Array.toList_append, List.map_map]
    rfl
  | succ d ih =>
    intro i hi
    have hlt : i < l.length := by omega
    have hsm := hs l[i] (List.getElem_mem hlt)
    have hn := ih (i + 1) (by omega)
    refine Ev.step (f := fun k => (impl_joined.f k [l[i].f0, l[i].f1, l[i].f2] (⟨#[46]⟩ : ByteArray)).bind fun t184 => if ((l.take i).map clueT).length < 8796093022208 then impl_Puzzle_text.l0 k ((l.take i).map clueT ++ [t184]) l (l.length : Int) ((i + 1 : Nat) : Int) c l else none) (fun k => ?_) ?_
    · simp only [impl_Puzzle_text.l0]
      rw [if_pos (by omega), if_pos (by omega), if_pos (by omega), rdC' l i hlt, w1 (by omega)]
    · refine (joined_ev _ hsm).bind ?_
      simp only [if_pos (show ((l.take i).map clueT).length < 8796093022208 by rw [List.length_map, List.length_take]; omega)]
      have e : (l.take i).map clueT ++ [clueT l[i]] = (l.take (i + 1)).map clueT := by
        rw [← List.map_singleton, ← List.map_append, List.take_add_one, List.getElem?_eq_getElem hlt]; rfl
      rw [e]; exact hn
theorem texts (c : Int) (l : List Clue) (hl : l.length ≤ 1048576) : ∃ r, Ev (fun k => spec_PuzzleText.f k c l) r ∧ Ev (fun k => impl_PuzzleText.f k c l) r := by
  unfold spec_PuzzleText.f impl_PuzzleText.f
  cases h : puzzleB c l
  · exact ⟨((⟨#[]⟩ : ByteArray), false), (ev_eq (spec_good_ev c l hl) h).bind (by simp only [Bool.false_eq_true, if_false]; exact Ev.now _), (ev_eq (impl_puzzle_ev c l hl) h).bind (by simp only [Bool.false_eq_true, if_false]; exact Ev.now _)⟩
  · obtain ⟨hc, h6⟩ := puzzle_colours c l h
    have hs : ∀ x ∈ l, smallC x := fun x hx => clue_small c hc x (by
      unfold puzzleB at h; simp only [Bool.and_eq_true] at h
      exact List.all_eq_true.1 h.2 x hx)
    have h1 := numB_size c.toNat (by omega)
    refine ⟨(endT true (numB c.toNat ++ (⟨#[99]⟩ : ByteArray)) l, true), (ev_eq (spec_good_ev c l hl) h).bind ?_, (ev_eq (impl_puzzle_ev c l hl) h).bind ?_⟩
    · simp only [if_true, spec_pzText.f]
      refine Ev.bind (a := endT true (numB c.toNat ++ (⟨#[99]⟩ : ByteArray)) l) ((num_ev c (by omega)).bind ?_) (Ev.now _)
      simp only [if_pos (show (numB c.toNat).size + 1 ≤ 9223372036854775807 by omega)]
      have := pzText_loop l hs h6 l.length 0 (numB c.toNat ++ (⟨#[99]⟩ : ByteArray)) (by omega) (by rw [ByteArray.size_append, one99]; omega)
      simpa using this
    · simp only [if_true, impl_Puzzle_text.f]
      refine Ev.bind (a := endT true (numB c.toNat ++ (⟨#[99]⟩ : ByteArray)) l) ?_ (Ev.now _)
      have := implText_loop c (by omega) l hs h6 l.length 0 (by omega)
      simpa using this
theorem FnExactPuzzleText : laws_FnExactPuzzleText.Pure := by
  intro c l _ hm _
  by_cases hl : l.length ≤ 1048576
  · have h2 : (l.map ofL).length ≤ 1048576 := by simpa using hl
    have t := toPuzzle_ev c l hl
    obtain ⟨r, h1, h3⟩ := texts c (l.map ofL) h2
    refine Ev.rounds (r := true) ?_
    unfold laws_FnExactPuzzleText.f
    simp only [szPuzzle_small c l hl, Option.bind_some]
    simp only [if_neg (show ¬ (1048576 - (l.length : Int) < 0) by omega)]
    refine t.bind ?_
    refine h1.bind ?_
    refine t.bind ?_
    refine h3.bind ?_
    simp only [if_true, bne_self_eq_false, Bool.false_eq_true, if_false]
    refine t.bind ?_
    exact (eqPuzzle_ev _ _ h2).bind (by simp only [if_true]; exact Ev.now _)
  · exact ⟨0, by unfold laws_FnExactPuzzleText.f; rw [szPuzzle_big c l (by omega) hm]; rfl⟩
end Go.Proofs.YtdddmkdidegngaaDoor.Pure

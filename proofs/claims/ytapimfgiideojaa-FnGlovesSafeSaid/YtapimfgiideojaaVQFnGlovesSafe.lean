/- The law FnGlovesSafe as a plain statement of plain functions: it answers true, whatever comes in. No condition. -/
import Derived.Test.YtapimfgiideojaaVPFnGlovesSafe
import Derived.Test.YtapimfgiideojaaVaiEv
namespace Go.Proofs.YtapimfgiideojaaV.Law
set_option linter.unusedVariables false
set_option linter.unusedSimpArgs false
open Go.Proofs.YtapimfgiideojaaV
abbrev CurT := List Int × Int × Int × Unit
/-- A cursor that has gone no further than m. -/
def Cur (m : Int) (c : CurT) : Prop := (∀ x ∈ c.1, 0 ≤ x ∧ x ≤ 255) ∧ 0 ≤ c.2.1 ∧ c.2.1 ≤ m
theorem Cur.mono {m m' : Int} {c : CurT} (h : Cur m c) (hm : m ≤ m') : Cur m' c := ⟨h.1, h.2.1, Int.le_trans h.2.2 hm⟩
theorem and255 (x : Int) : 0 ≤ iw (andI .u64 x 255) ∧ iw (andI .u64 x 255) ≤ 255 := by
  have h : 0 ≤ andI .u64 x 255 ∧ andI .u64 x 255 ≤ 255 := by
    unfold andI
    have h1 : (BitVec.ofInt IntKind.u64.bits x &&& BitVec.ofInt IntKind.u64.bits 255).toNat ≤ 255 := by
      rw [BitVec.toNat_and]
      exact Nat.le_trans Nat.and_le_right (by decide)
    generalize (BitVec.ofInt IntKind.u64.bits x &&& BitVec.ofInt IntKind.u64.bits 255).toNat = y at h1 ⊢
    have : IntKind.wrap .u64 (y : Int) = (y : Int) % 18446744073709551616 := rfl
    rw [this]; omega
  rw [iw_id] <;> omega
theorem next_is (k : Nat) {m : Int} {c : CurT} (h : Cur m c) (hm : m ≤ 1000000000000000) :
    ∃ v s, spec_l1Cur_next_f k c = some ((v, ()), ((c.1, c.2.1 + 1, s, ()), ())) ∧ 0 ≤ v ∧ v ≤ 255 := by
  obtain ⟨hb, h0, h1⟩ := h
  obtain ⟨l, a, s, u⟩ := c
  simp only at hb h0 h1
  unfold spec_l1Cur_next_f
  have ha : iw (a + 1) = a + 1 := iw_id (by omega) (by omega)
  have key : ∀ v : Int, 0 ≤ v → v ≤ 255 → ∃ v' s', (cond (decide ((iw (a + 1)) ≤ ((List.length l : Nat) : Int))) (some (((v, ()), ((l, (iw (a + 1)), (IntKind.wrap .u64 ((IntKind.wrap .u64 ((IntKind.wrap .u64 (s * 6364136223846793005)) + (IntKind.wrap .u64 v))) + 1442695040888963407)), ()), ())) : (Int × Unit) × (CurT × Unit))) (some (((iw ((andI .u64 (shrI .u64 (IntKind.wrap .u64 ((IntKind.wrap .u64 ((IntKind.wrap .u64 (s * 6364136223846793005)) + (IntKind.wrap .u64 v))) + 1442695040888963407)) 40) 255))), ()), ((l, (iw (a + 1)), (IntKind.wrap .u64 ((IntKind.wrap .u64 ((IntKind.wrap .u64 (s * 6364136223846793005)) + (IntKind.wrap .u64 v))) + 1442695040888963407)), ()), ())))) = some ((v', ()), ((l, a + 1, s', ()), ())) ∧ 0 ≤ v' ∧ v' ≤ 255 := by
    intro v hv0 hv1
    rw [ha, cond_dec]
    split
    · exact ⟨v, _, rfl, hv0, hv1⟩
    · exact ⟨_, _, rfl, and255 _⟩
  simp only [cond_dec (p := a < ((List.length l : Nat) : Int))]
  split
  · rename_i hlt
    rw [ixk_in h0 hlt]
    simp only [met_inl]
    have hin : rd l a ∈ l := by
      unfold rd
      rw [List.getD_eq_getElem?_getD, List.getElem?_eq_getElem (by omega)]
      exact List.getElem_mem _
    obtain ⟨h2, h3⟩ := hb _ hin
    have e : iw (rd l a) = rd l a := iw_id (by omega) (by omega)
    rw [e]
    exact key _ h2 h3
  · simp only [met_inl]
    exact key 0 (by omega) (by omega)
theorem pick_is (k : Nat) {m : Int} {c : CurT} (h : Cur m c) (hm : m ≤ 999999999999999) (n : Int) :
    ∃ v c', spec_l1Cur_pick_f k c n = some ((v, ()), (c', ())) ∧ 0 ≤ v ∧ (v < n ∨ v = 0 ∧ n ≤ 1) ∧ Cur (m + 2) c' ∧ c'.1 = c.1 := by
  unfold spec_l1Cur_pick_f
  rw [cond_dec]
  split
  · rename_i h1
    exact ⟨0, _, rfl, by omega, .inr ⟨rfl, h1⟩, h.mono (by omega), rfl⟩
  · rename_i h1
    obtain ⟨v, s, e, hv0, hv1⟩ := next_is k h (by omega)
    rw [show (c.1, c.2.1, c.2.2.1, ()) = c from rfl, e]
    simp only [Option.bind_some]
    have hc' : Cur (m + 1) (c.1, c.2.1 + 1, s, ()) := ⟨h.1, by have := h.2.1; simp only; omega, by have := h.2.2; simp only; omega⟩
    have done : ∀ (c' : CurT) (v : Int), 0 ≤ v → Cur (m + 2) c' → c'.1 = c.1 → ∃ v' c'', (chk (!(n == 0)) (some (((Int.tmod v n), ()), ((c'.1, c'.2.1, c'.2.2.1, ()), ()))) : Option ((Int × Unit) × (CurT × Unit))) = some ((v', ()), (c'', ())) ∧ 0 ≤ v' ∧ (v' < n ∨ v' = 0 ∧ n ≤ 1) ∧ Cur (m + 2) c'' ∧ c''.1 = c.1 := by
      intro c' v hv hc he
      rw [chk_true (by simp; omega)]
      refine ⟨_, _, rfl, ?_, ?_, hc, he⟩
      · exact Int.tmod_nonneg _ hv
      · left; exact Int.tmod_lt_of_pos _ (by omega)
    rw [cond_dec]
    split
    · obtain ⟨v2, s2, e2, hv2, _⟩ := next_is k hc' (by omega)
      simp only [] at e2 ⊢
      rw [e2]
      simp only [Option.bind_some, met_inl]
      refine done (c.1, c.2.1 + 1 + 1, s2, ()) _ ?_ ⟨h.1, by have := h.2.1; simp only; omega, by have := h.2.2; simp only; omega⟩ rfl
      have q1 : iw (v * 256) = v * 256 := iw_id (by omega) (by omega)
      rw [q1, iw_id] <;> omega
    · simp only [met_inl]
      exact done (c.1, c.2.1 + 1, s, ()) v hv0 (hc'.mono (by omega)) rfl
theorem among_is (k : Nat) {m : Int} {c : CurT} (h : Cur m c) (hm : m ≤ 999999999999999) (l : List Int) (hl : 0 < l.length) :
    ∃ v c', spec_l1Cur_among_f k c l = some ((v, ()), (c', ())) ∧ v ∈ l ∧ Cur (m + 2) c' ∧ c'.1 = c.1 := by
  unfold spec_l1Cur_among_f
  obtain ⟨v, c', e, h0, h1, h2, h3⟩ := pick_is k h hm ((List.length l : Nat) : Int)
  rw [show (c.1, c.2.1, c.2.2.1, ()) = c from rfl, e]
  simp only [Option.bind_some]
  rw [ixk_in h0 (by omega)]
  refine ⟨_, _, rfl, ?_, h2, h3⟩
  unfold rd
  rw [List.getD_eq_getElem?_getD, List.getElem?_eq_getElem (by omega)]
  exact List.getElem_mem _

abbrev GT := List Int × List Int × Unit
def in64 (l : List Int) : Prop := ∀ x ∈ l, -9223372036854775808 ≤ x ∧ x ≤ 9223372036854775807
/-- What is told of gloves that are drawn. -/
def Drawn (n : Nat) (L R : List Int) : Prop := L.length ≤ n ∧ R.length ≤ n ∧ in64 L ∧ in64 R
theorem in64.snoc {l : List Int} {x : Int} (h : in64 l) (h1 : -9223372036854775808 ≤ x) (h2 : x ≤ 9223372036854775807) : in64 (l ++ [x]) := by
  intro y hy
  rcases List.mem_append.1 hy with hy | hy
  · exact h y hy
  · rw [List.mem_singleton.1 hy]; exact ⟨h1, h2⟩
theorem in64.one {x : Int} (h1 : -9223372036854775808 ≤ x) (h2 : x ≤ 9223372036854775807) : in64 [x] := by
  intro y hy
  rw [List.mem_singleton.1 hy]; exact ⟨h1, h2⟩
abbrev SR := (CurT × GT × GT × Unit) ⊕ (((List Int × List Int × Unit) × Unit) × (CurT × Unit))
def sureF (k : Nat) (rec : (CurT × GT × GT × Int × Unit) → Option SR) (x : CurT × GT × GT × Int × Unit) : Option SR :=
  spec_l1Cur_sureGloves_l1_b k (fun x0 x4 x5 x6 => rec (x0, x4, x5, x6, ())) x.1 x.2.1 x.2.2.1 x.2.2.2.1
theorem sure_loop (k : Nat) (x4 : GT) : ∀ (j i : Nat) (m : Int) (c : CurT) (L R : List Int), Cur m c → m + 4 * j ≤ 999999999999990 → j < i → Drawn 10 L R → L.length + j ≤ 10 → R.length + j ≤ 10 →
    ∃ c' L' R', iter i (sureF k) (c, x4, (L, R, ()), (j : Int), ()) = some (.inl (c', x4, (L', R', ()), ())) ∧ Cur (m + 4 * j) c' ∧ c'.1 = c.1 ∧ Drawn 10 L' R' ∧ L'.length = L.length + j ∧ R'.length = R.length + j := by
  intro j
  induction j with
  | zero =>
    intro i m c L R hc hm hi hd _ _
    obtain ⟨i, rfl⟩ : ∃ i', i = i' + 1 := ⟨i - 1, by omega⟩
    refine ⟨c, L, R, ?_, by simpa using hc, rfl, hd, rfl, rfl⟩
    show sureF k _ _ = _
    unfold sureF spec_l1Cur_sureGloves_l1_b
    simp only [cond_dec]
    rw [if_neg (by simp)]
  | succ j ih =>
    intro i m c L R hc hm hi hd hL hR
    obtain ⟨i, rfl⟩ : ∃ i', i = i' + 1 := ⟨i - 1, by omega⟩
    obtain ⟨v1, c1, e1, a1, b1, h1, q1⟩ := pick_is k hc (by omega) 5
    obtain ⟨v2, c2, e2, a2, b2, h2, q2⟩ := pick_is k h1 (by omega) 5
    obtain ⟨c', L', R', e3, h3, q3, d3, l3, r3⟩ := ih i (m + 2 + 2) c2 (L ++ [v1]) (R ++ [v2]) h2 (by omega) (by omega) ⟨by simp; omega, by simp; omega, hd.2.2.1.snoc (by omega) (by omega), hd.2.2.2.snoc (by omega) (by omega)⟩ (by simp; omega) (by simp; omega)
    refine ⟨c', L', R', ?_, h3.mono (by omega), by rw [q3, q2, q1], d3, by rw [l3]; simp; omega, by rw [r3]; simp; omega⟩
    rw [← e3]
    show sureF k _ _ = _
    unfold sureF spec_l1Cur_sureGloves_l1_b
    simp only [cond_dec]
    rw [if_pos (by omega), show (c.1, c.2.1, c.2.2.1, ()) = c from rfl, e1]
    simp only [Option.bind_some]
    rw [chk_dec (by simp; omega)]
    rw [show (c1.1, c1.2.1, c1.2.2.1, ()) = c1 from rfl, e2]
    simp only [Option.bind_some]
    rw [chk_dec (by simp; omega), iw_id (by omega) (by omega), show ((j + 1 : Nat) : Int) - 1 = (j : Int) by omega]
theorem sure_is (k : Nat) (hk : 100 ≤ k) {m : Int} {c : CurT} (h : Cur m c) (hm : m ≤ 999999999999900) :
    ∃ L R c', spec_l1Cur_sureGloves_f k c 4 = some (((L, R, ()), ()), (c', ())) ∧ Cur (m + 30) c' ∧ c'.1 = c.1 ∧ Drawn 4 L R ∧ R.length = L.length := by
  unfold spec_l1Cur_sureGloves_f
  obtain ⟨v1, c1, e1, a1, b1, h1, q1⟩ := pick_is k h (by omega) 4
  obtain ⟨v2, c2, e2, a2, b2, h2, q2⟩ := pick_is k h1 (by omega) 5
  obtain ⟨v3, c3, e3, a3, b3, h3, q3⟩ := pick_is k h2 (by omega) 4
  rw [show (c.1, c.2.1, c.2.2.1, ()) = c from rfl, e1]
  simp only [Option.bind_some]
  rw [show (c1.1, c1.2.1, c1.2.2.1, ()) = c1 from rfl, e2]
  simp only [Option.bind_some]
  rw [show (c2.1, c2.2.1, c2.2.2.1, ()) = c2 from rfl, e3]
  simp only [Option.bind_some]
  obtain ⟨n, rfl⟩ : ∃ n : Nat, v3 = (n : Int) := ⟨v3.toNat, by omega⟩
  have hi : iw (1 + v1) = 1 + v1 := iw_id (by omega) (by omega)
  obtain ⟨c', L', R', e4, h4, q4, d4, l4, r4⟩ := sure_loop k ([], [], ()) n k (m + 2 + 2 + 2) c3 [1 + v1] [v2] h3 (by omega) (by omega) ⟨by simp, by simp, .one (by omega) (by omega), .one (by omega) (by omega)⟩ (by simp; omega) (by simp; omega)
  refine ⟨L', R', c', ?_, h4.mono (by omega), by rw [q4, q3, q2, q1], ⟨by rw [l4]; simp; omega, by rw [r4]; simp; omega, d4.2.2⟩, by rw [r4, l4]; rfl⟩
  rw [hi, show (spec_l1Cur_sureGloves_l1 k (c3.1, c3.2.1, c3.2.2.1, ()) ([], [], ()) ([1 + v1], [v2], ()) (n : Int)) = iter k (sureF k) (c3, ([], [], ()), ([1 + v1], [v2], ()), (n : Int), ()) from rfl, e4]
  rfl
abbrev GR := (CurT × GT × GT × Unit) ⊕ ((CurT × GT × GT × Unit) ⊕ ((CurT × GT × GT × Unit) ⊕ ((CurT × GT × GT × Unit) ⊕ ((CurT × GT × GT × Unit) ⊕ ((CurT × GT × GT × Unit) ⊕ (((List Int × List Int × Unit) × Unit) × (CurT × Unit)))))))
def glovesF (k : Nat) (rec : (CurT × GT × GT × Unit) → Option GR) (x : CurT × GT × GT × Unit) : Option GR :=
  spec_l1Cur_gloves_l1_b k (fun x0 x2 x3 => rec (x0, x2, x3, ())) x.1 x.2.1 x.2.2.1
theorem gloves_loop (k : Nat) (x2 : GT) : ∀ (j i : Nat) (m : Int) (c : CurT) (L R : List Int), Cur m c → m + 2 * j ≤ 999999999999900 → j < i → in64 L → in64 R → L.length + j = 10 → R.length + j ≤ 10 →
    ∃ c' L' R', iter i (glovesF k) (c, x2, (L, R, ()), ()) = some (.inl (c', x2, (L', R', ()), ())) ∧ Cur (m + 2 * j + 2) c' ∧ c'.1 = c.1 ∧ Drawn 10 L' R' := by
  intro j
  induction j with
  | zero =>
    intro i m c L R hc hm hi hL hR h1 h2
    obtain ⟨i, rfl⟩ : ∃ i', i = i' + 1 := ⟨i - 1, by omega⟩
    obtain ⟨v1, c1, e1, a1, b1, h1', q1⟩ := pick_is k hc (by omega) 2
    refine ⟨c1, L, R, ?_, h1'.mono (by omega), q1, by omega, by omega, hL, hR⟩
    show glovesF k _ _ = _
    unfold glovesF spec_l1Cur_gloves_l1_b
    rw [show (c.1, c.2.1, c.2.2.1, ()) = c from rfl, e1]
    simp only [Option.bind_some, cond_dec]
    rw [iw_id (by omega) (by omega), if_neg (by omega)]
  | succ j ih =>
    intro i m c L R hc hm hi hL hR h1 h2
    obtain ⟨i, rfl⟩ : ∃ i', i = i' + 1 := ⟨i - 1, by omega⟩
    obtain ⟨v1, c1, e1, a1, b1, h1', q1⟩ := pick_is k hc (by omega) 2
    by_cases hlt : ((L.length : Nat) : Int) < 8 + v1
    · obtain ⟨c', L', R', e3, h3, q3, d3⟩ := ih i (m + 2) c1 (L ++ [1]) (R ++ [1]) h1' (by omega) (by omega) (hL.snoc (by omega) (by omega)) (hR.snoc (by omega) (by omega)) (by simp; omega) (by simp; omega)
      refine ⟨c', L', R', ?_, h3.mono (by omega), by rw [q3, q1], d3⟩
      rw [← e3]
      show glovesF k _ _ = _
      unfold glovesF spec_l1Cur_gloves_l1_b
      rw [show (c.1, c.2.1, c.2.2.1, ()) = c from rfl, e1]
      simp only [Option.bind_some, cond_dec]
      rw [iw_id (by omega) (by omega), if_pos hlt, chk_dec (by simp; omega), chk_dec (by simp; omega)]
    · refine ⟨c1, L, R, ?_, h1'.mono (by omega), q1, by omega, by omega, hL, hR⟩
      show glovesF k _ _ = _
      unfold glovesF spec_l1Cur_gloves_l1_b
      rw [show (c.1, c.2.1, c.2.2.1, ()) = c from rfl, e1]
      simp only [Option.bind_some, cond_dec]
      rw [iw_id (by omega) (by omega), if_neg hlt]
theorem gloves_is (k : Nat) (hk : 100 ≤ k) {m : Int} {c : CurT} (h : Cur m c) (hm : m ≤ 999999999999000) :
    ∃ L R c', spec_l1Cur_gloves_f k c = some (((L, R, ()), ()), (c', ())) ∧ Cur (m + 60) c' ∧ c'.1 = c.1 ∧ Drawn 10 L R := by
  unfold spec_l1Cur_gloves_f
  obtain ⟨L, R, c1, e1, h1, q1, d1, f1⟩ := sure_is k hk h (by omega)
  rw [show (c.1, c.2.1, c.2.2.1, ()) = c from rfl, e1]
  simp only [Option.bind_some]
  obtain ⟨v2, c2, e2, a2, b2, h2, q2⟩ := pick_is k h1 (by omega) 20
  rw [show (c1.1, c1.2.1, c1.2.2.1, ()) = c1 from rfl, e2]
  simp only [Option.bind_some]
  have d10 : Drawn 10 L R := ⟨by have := d1.1; omega, by have := d1.2.1; omega, d1.2.2⟩
  have l5 : ∀ x ∈ [(-1), 0, 20, 21, (4611686018427387904 : Int)], -9223372036854775808 ≤ x ∧ x ≤ 9223372036854775807 := by decide
  rw [show (c2.1, c2.2.1, c2.2.2.1, ()) = c2 from rfl]
  cases g0 : v2 == 0 with
  | true =>
    exact ⟨[0, 0], [0, 0], c2, rfl, h2.mono (by omega), by rw [q2, q1], by decide, by decide, by unfold in64; decide, by unfold in64; decide⟩
  | false =>
    cases g1 : v2 == 1 with
    | true =>
      obtain ⟨v3, c3, e3, a3, h3, q3⟩ := among_is k h2 (by omega) [(-1), 0, 20, 21, 4611686018427387904] (by decide)
      refine ⟨L ++ [v3], R, c3, ?_, h3.mono (by omega), by rw [q3, q2, q1], by have := d1.1; simp; omega, d10.2.1, d1.2.2.1.snoc (l5 _ a3).1 (l5 _ a3).2, d1.2.2.2⟩
      simp only [cond_true, cond_false, e3, Option.bind_some]
      rw [chk_dec (by have := d1.1; simp; omega)]
      rfl
    | false =>
      cases g2 : v2 == 2 with
      | true =>
        obtain ⟨v3, c3, e3, a3, h3, q3⟩ := among_is k h2 (by omega) [(-1), 0, 20, 21, 4611686018427387904] (by decide)
        refine ⟨L ++ [1], R ++ [v3], c3, ?_, h3.mono (by omega), by rw [q3, q2, q1], by have := d1.1; simp; omega, by have := d1.2.1; simp; omega, d1.2.2.1.snoc (by omega) (by omega), d1.2.2.2.snoc (l5 _ a3).1 (l5 _ a3).2⟩
        simp only [cond_true, cond_false, e3, Option.bind_some]
        rw [chk_dec (by have := d1.1; simp; omega), chk_dec (by have := d1.2.1; simp; omega)]
        rfl
      | false =>
        cases g3 : v2 == 3 with
        | true =>
          obtain ⟨c3, L', R', e3, h3, q3, d3⟩ := gloves_loop k ([], [], ()) (10 - L.length) k (m + 30 + 2) c2 L R h2 (by omega) (by omega) d1.2.2.1 d1.2.2.2 (by have := d1.1; omega) (by have := d1.1; omega)
          refine ⟨L', R', c3, ?_, h3.mono (by omega), by rw [q3, q2, q1], d3⟩
          simp only [cond_true, cond_false]
          rw [show (spec_l1Cur_gloves_l1 k c2 ([], [], ()) (L, R, ())) = iter k (glovesF k) (c2, ([], [], ()), (L, R, ()), ()) from rfl, e3]
          rfl
        | false =>
          exact ⟨L, R, c2, rfl, h2.mono (by omega), by rw [q2, q1], d10⟩

theorem within_is (k : Nat) (x lo hi : Int) : impl_within_f k x lo hi = some ((decide (lo ≤ x) && decide (x ≤ hi), ()), ()) := by
  unfold impl_within_f
  by_cases h : lo ≤ x <;> simp [h]
theorem l1In_is (k : Nat) (x lo hi : Int) : spec_l1In_f k x lo hi = some ((decide (lo ≤ x) && decide (x ≤ hi), ()), ()) := by
  unfold spec_l1In_f
  by_cases h : lo ≤ x <;> simp [h]
theorem total_is (k : Nat) (l : List Int) (hk : l.length < k) (hl : l.length ≤ 1000) : impl_total_f k l = some ((sumW l, ()), ()) := by
  unfold impl_total_f
  have h : impl_total_l1 k l 0 0 = some (.inl (sumW l, ())) := by
    unfold impl_total_l1
    refine iter_to (fun j => ((l.take j).foldl (fun a x => iw (a + x)) 0, (j : Int), ())) l.length _ (fun j hj rec => ?_) (fun rec => ?_) k hk
    · simp only [impl_total_l1_b, cond_dec]
      rw [if_pos (by omega), ixk_in (by omega) (by omega), iw_nat (by omega), rd_nat l j hj, take_fold _ _ _ _ hj]
    · simp only [impl_total_l1_b, cond_dec]
      rw [if_neg (by omega), List.take_length]
      rfl
  rw [h]; rfl
theorem soSum_is (k : Nat) (l : List Int) (hk : l.length < k) (hl : l.length ≤ 1000) : spec_soSum_f k l = some ((sumW l, ()), ()) := total_is k l hk hl
theorem mSum_is (k : Nat) (l : List Int) (hk : l.length < k) (hl : l.length ≤ 1000) : laws_mSum_f k l = some ((sumW l, ()), ()) := total_is k l hk hl
def allIn (lo hi : Int) (l : List Int) : Bool := l.all fun x => decide (lo ≤ x) && decide (x ≤ hi)
theorem drop_cons {β : Type} (l : List β) (j : Nat) (h : j < l.length) : l.drop j = l[j] :: l.drop (j + 1) := List.drop_eq_getElem_cons h
theorem allIn_drop (lo hi : Int) (l : List Int) (j : Nat) (h : j < l.length) : allIn lo hi (l.drop j) = ((decide (lo ≤ l[j]) && decide (l[j] ≤ hi)) && allIn lo hi (l.drop (j + 1))) := by
  rw [drop_cons l j h]; rfl
def firstBad (lo hi : Int) : Nat → List Int → Option Nat
  | _, [] => none
  | j, x :: r => if (decide (lo ≤ x) && decide (x ≤ hi)) = true then firstBad lo hi (j + 1) r else some j
theorem firstBad_all (lo hi : Int) : ∀ (l : List Int) (j : Nat), (firstBad lo hi j l).isNone = allIn lo hi l
  | [], _ => rfl
  | x :: r, j => by
    simp only [firstBad, allIn, List.all_cons]
    cases h : (decide (lo ≤ x) && decide (x ≤ hi)) with
    | true => simpa [allIn] using firstBad_all lo hi r (j + 1)
    | false => rfl
def idxRes : Option Nat → Option (Unit ⊕ ((Int × Unit) × Unit))
  | none => some (.inl ())
  | some i => some (.inr (((i : Int), ()), ()))
theorem indexFunc_is (k : Nat) (l : List Int) (lo hi : Int) (hk : l.length < k) (hl : l.length ≤ 1000) :
    ∃ i : Int, slices_IndexFunc_int_int__218_f k l ((lo, ()), (hi, ()), ()) = some ((i, ()), ()) ∧ decide (i ≥ 0) = !allIn lo hi l := by
  unfold slices_IndexFunc_int_int__218_f
  have h : slices_IndexFunc_int_int__218_l1 k l ((lo, ()), (hi, ()), ()) 0 = idxRes (firstBad lo hi 0 l) := by
    unfold slices_IndexFunc_int_int__218_l1
    refine iter_up (fun j => ((j : Int), ())) (fun j => idxRes (firstBad lo hi j (l.drop j))) l.length (fun j hj => ?_) k 0 (Nat.zero_le _) (by omega)
    rcases Nat.lt_or_ge j l.length with h1 | h1
    · have e : ∀ rec : (Int × Unit) → Option (Unit ⊕ ((Int × Unit) × Unit)), slices_IndexFunc_int_int__218_l1_b k l ((lo, ()), (hi, ()), ()) (fun x8 => rec (x8, ())) (j : Int) = if (decide (lo ≤ l[j]) && decide (l[j] ≤ hi)) = true then rec (((j + 1 : Nat) : Int), ()) else some (.inr (((j : Int), ()), ())) := fun rec => by
        simp only [slices_IndexFunc_int_int__218_l1_b, impl_areWithin_1_f, within_is, Option.bind_some]
        rw [cond_dec, if_pos (by omega), ixk_in (by omega) (by omega), iw_nat (by omega), rd_nat l j h1]
        cases (decide (lo ≤ l[j]) && decide (l[j] ≤ hi)) <;> rfl
      simp only [e]
      rw [drop_cons l j h1]
      simp only [firstBad]
      split
      · exact .inr ⟨h1, rfl, fun _ => rfl⟩
      · exact .inl fun _ => rfl
    · refine .inl fun rec => ?_
      simp only [slices_IndexFunc_int_int__218_l1_b]
      rw [cond_dec, if_neg (by omega), List.drop_of_length_le (by omega)]
      rfl
  rw [h]
  have := firstBad_all lo hi l 0
  cases hb : firstBad lo hi 0 l with
  | none => rw [hb] at this; exact ⟨-1, rfl, by rw [← this]; rfl⟩
  | some i => rw [hb] at this; exact ⟨(i : Int), rfl, by rw [← this]; simp⟩
theorem areWithin_is (k : Nat) (l : List Int) (lo hi : Int) (hk : l.length < k) (hl : l.length ≤ 1000) : impl_areWithin_f k l lo hi = some ((allIn lo hi l, ()), ()) := by
  unfold impl_areWithin_f slices_ContainsFunc_int_int__218_f
  obtain ⟨i, e, h⟩ := indexFunc_is k l lo hi hk hl
  rw [e]
  simp only [Option.bind_some, h, Bool.not_not]
def allRes : Bool → Option (Unit ⊕ ((Bool × Unit) × Unit))
  | true => some (.inl ())
  | false => some (.inr ((false, ()), ()))
theorem l1All_is (k : Nat) (l : List Int) (lo hi : Int) (hk : l.length < k) (hl : l.length ≤ 1000) : spec_l1All_f k l lo hi = some ((allIn lo hi l, ()), ()) := by
  unfold spec_l1All_f
  have h : spec_l1All_l1 k l lo hi 0 = allRes (allIn lo hi l) := by
    unfold spec_l1All_l1
    refine iter_up (fun j => ((j : Int), ())) (fun j => allRes (allIn lo hi (l.drop j))) l.length (fun j hj => ?_) k 0 (Nat.zero_le _) (by omega)
    rcases Nat.lt_or_ge j l.length with h1 | h1
    · have e : ∀ rec : (Int × Unit) → Option (Unit ⊕ ((Bool × Unit) × Unit)), spec_l1All_l1_b k l lo hi (fun x8 => rec (x8, ())) (j : Int) = if (decide (lo ≤ l[j]) && decide (l[j] ≤ hi)) = true then rec (((j + 1 : Nat) : Int), ()) else some (.inr ((false, ()), ())) := fun rec => by
        simp only [spec_l1All_l1_b]
        rw [cond_dec, if_pos (by omega), ixk_in (by omega) (by omega), iw_nat (by omega), rd_nat l j h1]
        simp only [l1In_is, Option.bind_some]
        cases (decide (lo ≤ l[j]) && decide (l[j] ≤ hi)) <;> rfl
      simp only [e]
      rw [allIn_drop lo hi l j h1]
      cases (decide (lo ≤ l[j]) && decide (l[j] ≤ hi)) with
      | true => exact .inr ⟨h1, rfl, fun _ => rfl⟩
      | false => exact .inl fun _ => rfl
    · refine .inl fun rec => ?_
      simp only [spec_l1All_l1_b]
      rw [cond_dec, if_neg (by omega), List.drop_of_length_le (by omega)]
      rfl
  rw [h]
  cases allIn lo hi l <;> rfl
/-- Are they gloves. -/
def good (L R : List Int) : Bool := (decide (1 ≤ (L.length : Int)) && decide ((L.length : Int) ≤ 8)) && (((R.length : Int) == (L.length : Int)) && (allIn 0 20 L && (allIn 0 20 R && decide (iw (sumW L + sumW R) > 0))))
theorem areGloves_is (k : Nat) (hk : 100 ≤ k) (L R : List Int) (hL : L.length ≤ 10) (hR : R.length ≤ 10) : impl_AreGloves_f k (L, R) = some ((good L R, ()), ()) := by
  unfold impl_AreGloves_f good
  simp only [within_is, Option.bind_some, areWithin_is k L 0 20 (by omega) (by omega), areWithin_is k R 0 20 (by omega) (by omega), total_is k L (by omega) (by omega), total_is k R (by omega) (by omega)]
  cases (decide (1 ≤ (L.length : Int)) && decide ((L.length : Int) ≤ 8)) with
  | false => rfl
  | true => cases ((R.length : Int) == (L.length : Int)) with
    | false => rfl
    | true => cases allIn 0 20 L with
      | false => rfl
      | true => cases allIn 0 20 R <;> rfl
theorem gvGood_is (k : Nat) (hk : 100 ≤ k) (L R : List Int) (hL : L.length ≤ 10) (hR : R.length ≤ 10) : spec_gvGood_f k (L, R) = some ((good L R, ()), ()) := by
  unfold spec_gvGood_f good
  simp only [l1In_is, Option.bind_some, l1All_is k L 0 20 (by omega) (by omega), l1All_is k R 0 20 (by omega) (by omega), soSum_is k L (by omega) (by omega), soSum_is k R (by omega) (by omega)]
  cases (decide (1 ≤ (L.length : Int)) && decide ((L.length : Int) ≤ 8)) with
  | false => rfl
  | true => cases ((R.length : Int) == (L.length : Int)) with
    | false => rfl
    | true => cases allIn 0 20 L with
      | false => rfl
      | true => cases allIn 0 20 R <;> rfl
/-- What gloves are. -/
structure Good (L R : List Int) : Prop where
  l0 : 1 ≤ L.length
  l8 : L.length ≤ 8
  len : R.length = L.length
  inL : ∀ x ∈ L, 0 ≤ x ∧ x ≤ 20
  inR : ∀ x ∈ R, 0 ≤ x ∧ x ≤ 20
  pos : 0 < L.sum + R.sum
theorem allIn_mem {lo hi : Int} {l : List Int} (h : allIn lo hi l = true) : ∀ x ∈ l, lo ≤ x ∧ x ≤ hi := by
  intro x hx
  have := List.all_eq_true.1 h x hx
  simpa using this
theorem sum_bound {l : List Int} (h : ∀ x ∈ l, 0 ≤ x ∧ x ≤ 20) : 0 ≤ l.sum ∧ l.sum ≤ 20 * l.length := by
  induction l with
  | nil => simp
  | cons x l ih =>
    have h1 := h x (by simp)
    have h2 := ih fun y hy => h y (by simp [hy])
    simp only [List.sum_cons, List.length_cons]
    omega
theorem foldW_is : ∀ (l : List Int) (a : Int), (∀ x ∈ l, 0 ≤ x ∧ x ≤ 20) → 0 ≤ a → a + 20 * l.length ≤ 1000000 → l.foldl (fun a x => iw (a + x)) a = a + l.sum
  | [], a, _, _, _ => by simp
  | x :: l, a, h, h0, h1 => by
    have h2 := h x (by simp)
    simp only [List.foldl_cons, List.sum_cons, List.length_cons] at h1 ⊢
    rw [iw_id (by omega) (by omega), foldW_is l (a + x) (fun y hy => h y (by simp [hy])) (by omega) (by omega)]
    omega
theorem sumW_is {l : List Int} (h : ∀ x ∈ l, 0 ≤ x ∧ x ≤ 20) (hl : l.length ≤ 1000) : sumW l = l.sum := by
  unfold sumW; rw [foldW_is l 0 h (by omega) (by omega)]; omega
theorem good_is {L R : List Int} (h : good L R = true) : Good L R := by
  unfold good at h
  simp only [Bool.and_eq_true, decide_eq_true_eq, beq_iff_eq] at h
  obtain ⟨⟨h1, h2⟩, h3, h4, h5, h6⟩ := h
  have hL := allIn_mem h4
  have hR := allIn_mem h5
  have b1 := sum_bound hL
  have b2 := sum_bound hR
  rw [sumW_is hL (by omega), sumW_is hR (by omega), iw_id (by omega) (by omega)] at h6
  exact ⟨by omega, by omega, by omega, hL, hR, h6⟩

abbrev ZS := List (Int × Int)
def sumR : ZS → Int
  | [] => 0
  | (_, b) :: zs => b + sumR zs
/-- Lefts of the colours of a set, rights of the others: are there so many. -/
def badN : Nat → ZS → Int → Int → Bool
  | _, [], l, r => decide (l ≤ 0) && decide (r ≤ 0)
  | s, (a, b) :: zs, l, r => if s % 2 = 1 then badN (s / 2) zs (l - a) r else badN (s / 2) zs l (r - b)
def ex : ZS → Int → Int → Bool
  | [], l, r => decide (l ≤ 0) && decide (r ≤ 0)
  | (a, b) :: zs, l, r => ex zs (l - a) r || ex zs l (r - b)
theorem ex_iff : ∀ (zs : ZS) (l r : Int), ex zs l r = true ↔ ∃ s, s < 2 ^ zs.length ∧ badN s zs l r = true
  | [], l, r => by
    simp only [ex, List.length_nil, Nat.pow_zero]
    exact ⟨fun h => ⟨0, by omega, h⟩, fun ⟨_, _, h⟩ => h⟩
  | (a, b) :: zs, l, r => by
    simp only [ex, Bool.or_eq_true, ex_iff zs, List.length_cons, Nat.pow_succ]
    constructor
    · rintro (⟨s, h1, h2⟩ | ⟨s, h1, h2⟩)
      · refine ⟨2 * s + 1, by omega, ?_⟩
        simp only [badN]
        rw [if_pos (by omega), show (2 * s + 1) / 2 = s by omega]; exact h2
      · refine ⟨2 * s, by omega, ?_⟩
        simp only [badN]
        rw [if_neg (by omega), show (2 * s) / 2 = s by omega]; exact h2
    · rintro ⟨s, h1, h2⟩
      simp only [badN] at h2
      split at h2
      · exact .inl ⟨s / 2, by omega, h2⟩
      · exact .inr ⟨s / 2, by omega, h2⟩
theorem ex_mono : ∀ (zs : ZS) {l r l' r' : Int}, l' ≤ l → r' ≤ r → ex zs l r = true → ex zs l' r' = true
  | [], l, r, l', r', h1, h2, h => by
    simp only [ex, Bool.and_eq_true, decide_eq_true_eq] at h ⊢
    omega
  | (a, b) :: zs, l, r, l', r', h1, h2, h => by
    simp only [ex, Bool.or_eq_true] at h ⊢
    rcases h with h | h
    · exact .inl (ex_mono zs (by omega) h2 h)
    · exact .inr (ex_mono zs h1 (by omega) h)
theorem bad_zero : ∀ (zs : ZS) (l r : Int), badN 0 zs l r = (decide (l ≤ 0) && decide (r ≤ sumR zs))
  | [], l, r => rfl
  | (a, b) :: zs, l, r => by
    simp only [badN]
    rw [if_neg (by omega), Nat.zero_div, bad_zero zs]
    rw [Bool.eq_iff_iff]
    simp only [Bool.and_eq_true, decide_eq_true_eq]
    rw [show sumR ((a, b) :: zs) = b + sumR zs from rfl]
    omega
/-- The first list of bad colours. -/
def gv : Nat → ZS → Int → Int → Option (List Nat)
  | _, [], l, r => if l ≤ 0 ∧ r ≤ 0 then some [] else none
  | f, (a, b) :: zs, l, r => if l ≤ 0 ∧ r ≤ b + sumR zs then some [] else match gv (f + 1) zs (l - a) r with
    | some o => some (f :: o)
    | none => gv (f + 1) zs l (r - b)
def cols : Nat → Nat → Nat → List Nat
  | _, 0, _ => []
  | f, n + 1, s => if s % 2 = 1 then f :: cols (f + 1) n (s / 2) else cols (f + 1) n (s / 2)
theorem cols_ge : ∀ (n f s : Nat), ∀ x ∈ cols f n s, f ≤ x
  | 0, _, _, _, h => by cases h
  | n + 1, f, s, x, h => by
    simp only [cols] at h
    split at h
    · rcases List.mem_cons.1 h with h | h
      · omega
      · have := cols_ge n _ _ x h; omega
    · have := cols_ge n _ _ x h; omega
theorem cols_nil : ∀ (n f s : Nat), s < 2 ^ n → cols f n s = [] → s = 0
  | 0, _, s, h, _ => by simp at h; exact h
  | n + 1, f, s, h, e => by
    simp only [cols] at e
    split at e
    · cases e
    · have := cols_nil n _ _ (by rw [Nat.pow_succ] at h; omega) e
      omega
theorem cols_zero : ∀ (n f : Nat), cols f n 0 = []
  | 0, _ => rfl
  | n + 1, f => by simp only [cols]; rw [if_neg (by omega), Nat.zero_div]; exact cols_zero n _
/-- Lists in order. -/
def lt : List Nat → List Nat → Bool
  | _, [] => false
  | [], _ :: _ => true
  | x :: l, y :: m => decide (x < y) || (x == y && lt l m)
theorem lt_irrefl : ∀ l, lt l l = false
  | [] => rfl
  | x :: l => by simp [lt, lt_irrefl l]
theorem lt_total : ∀ l m, lt l m = false → lt m l = false → l = m
  | [], [], _, _ => rfl
  | [], _ :: _, h, _ => by simp [lt] at h
  | _ :: _, [], _, h => by simp [lt] at h
  | x :: l, y :: m, h1, h2 => by
    simp only [lt, Bool.or_eq_false_iff, decide_eq_false_iff_not, Bool.and_eq_false_iff, beq_eq_false_iff_ne] at h1 h2
    have e : x = y := by omega
    subst e
    rw [lt_total l m (h1.2.resolve_left fun h => h rfl) (h2.2.resolve_left fun h => h rfl)]
theorem lt_trans : ∀ {l m n}, lt l m = true → lt m n = true → lt l n = true
  | _, _, [], _, h => by cases ‹List Nat› <;> simp [lt] at h
  | _, [], _ :: _, h, _ => by cases ‹List Nat› <;> simp [lt] at h
  | [], _ :: _, _ :: _, _, _ => rfl
  | x :: l, y :: m, z :: n, h1, h2 => by
    simp only [lt, Bool.or_eq_true, decide_eq_true_eq, Bool.and_eq_true, beq_iff_eq] at h1 h2 ⊢
    rcases h1 with h1 | ⟨h1, h1'⟩
    · rcases h2 with h2 | ⟨h2, _⟩
      · left; omega
      · left; omega
    · rcases h2 with h2 | ⟨h2, h2'⟩
      · left; omega
      · right; exact ⟨by omega, lt_trans h1' h2'⟩
theorem gv_some : ∀ (zs : ZS) (f : Nat) (l r : Int), (gv f zs l r).isSome = ex zs l r
  | [], f, l, r => by
    simp only [gv, ex]
    split <;> simp <;> omega
  | (a, b) :: zs, f, l, r => by
    simp only [gv]
    split
    · rename_i h
      symm
      refine (ex_iff _ _ _).2 ⟨0, by simp [Nat.pow_pos], ?_⟩
      rw [bad_zero]; simp [sumR, h]
    · have h1 := gv_some zs (f + 1) (l - a) r
      have h2 := gv_some zs (f + 1) l (r - b)
      cases hg : gv (f + 1) zs (l - a) r with
      | some o => rw [hg] at h1; simp only [ex, ← h1]; rfl
      | none => rw [hg] at h1; simp only [ex, ← h1, h2]; rfl
theorem gv_least : ∀ (zs : ZS) (f : Nat) (l r : Int) (o : List Nat), gv f zs l r = some o →
    ∃ s, s < 2 ^ zs.length ∧ badN s zs l r = true ∧ o = cols f zs.length s ∧ ∀ s', s' < 2 ^ zs.length → badN s' zs l r = true → lt (cols f zs.length s') o = false
  | [], f, l, r, o, h => by
    simp only [gv] at h
    split at h
    · rename_i hc
      cases h
      exact ⟨0, by simp, by simp [badN, hc], rfl, fun _ _ _ => rfl⟩
    · cases h
  | (a, b) :: zs, f, l, r, o, h => by
    simp only [gv] at h
    split at h
    · rename_i hc
      cases h
      exact ⟨0, by simp [Nat.pow_pos], by rw [bad_zero]; simp [sumR, hc], (cols_zero _ _).symm, fun s' _ _ => by cases cols f ((a, b) :: zs).length s' <;> rfl⟩
    · rename_i hc
      split at h
      · rename_i o' hg
        cases h
        obtain ⟨s, h1, h2, h3, h4⟩ := gv_least zs (f + 1) (l - a) r o' hg
        refine ⟨2 * s + 1, by simp only [List.length_cons, Nat.pow_succ]; omega, ?_, ?_, fun s' k1 k2 => ?_⟩
        · simp only [badN]; rw [if_pos (by omega), show (2 * s + 1) / 2 = s by omega]; exact h2
        · simp only [List.length_cons, cols]; rw [if_pos (by omega), show (2 * s + 1) / 2 = s by omega, h3]
        · simp only [List.length_cons, Nat.pow_succ] at k1
          simp only [List.length_cons, cols]
          simp only [badN] at k2
          split
          · rename_i ho
            rw [if_pos ho] at k2
            have := h4 (s' / 2) (by omega) k2
            simp [lt, this]
          · rename_i ho
            rw [if_neg ho] at k2
            cases hcs : cols (f + 1) zs.length (s' / 2) with
            | nil =>
              exfalso
              have h0 := cols_nil _ _ _ (by omega) hcs
              rw [h0, bad_zero] at k2
              simp only [Bool.and_eq_true, decide_eq_true_eq] at k2
              exact hc ⟨k2.1, by omega⟩
            | cons x m =>
              have := cols_ge zs.length (f + 1) (s' / 2) x (by rw [hcs]; simp)
              simp only [lt, Bool.or_eq_false_iff, decide_eq_false_iff_not, Bool.and_eq_false_iff, beq_eq_false_iff_ne]
              exact ⟨by omega, .inl (by omega)⟩
      · rename_i hg
        obtain ⟨s, h1, h2, h3, h4⟩ := gv_least zs (f + 1) l (r - b) o h
        have hno : ex zs (l - a) r = false := by rw [← gv_some zs (f + 1), hg]; rfl
        refine ⟨2 * s, by simp only [List.length_cons, Nat.pow_succ]; omega, ?_, ?_, fun s' k1 k2 => ?_⟩
        · simp only [badN]; rw [if_neg (by omega), show (2 * s) / 2 = s by omega]; exact h2
        · simp only [List.length_cons, cols]; rw [if_neg (by omega), show (2 * s) / 2 = s by omega, h3]
        · simp only [List.length_cons, Nat.pow_succ] at k1
          simp only [List.length_cons, cols]
          simp only [badN] at k2
          split
          · rename_i ho
            rw [if_pos ho] at k2
            have : ex zs (l - a) r = true := (ex_iff _ _ _).2 ⟨s' / 2, by omega, k2⟩
            rw [hno] at this; cases this
          · rename_i ho
            rw [if_neg ho] at k2
            exact h4 (s' / 2) (by omega) k2

theorem bit_is (s j : Nat) (hs : s < 1152921504606846976) (hj : j ≤ 60) : (andI .i64 (shrI .i64 (s : Int) (j : Int)) 1 == 1) = decide (s / 2 ^ j % 2 = 1) := by
  have h1 : shrI .i64 (s : Int) (j : Int) = ((s / 2 ^ j : Nat) : Int) := by
    unfold shrI
    rw [Int.toNat_natCast, Nat.min_eq_left (by show j ≤ 64; omega), Int.fdiv_eq_ediv_of_nonneg _ (by exact_mod_cast Nat.zero_le _)]
    norm_cast
  rw [h1]
  generalize hx : s / 2 ^ j = x
  have hxs : x ≤ s := by rw [← hx]; exact Nat.div_le_self _ _
  have h2 : andI .i64 (x : Int) 1 = ((x % 2 : Nat) : Int) := by
    unfold andI
    have e : (BitVec.ofInt IntKind.i64.bits (x : Int) &&& BitVec.ofInt IntKind.i64.bits 1).toNat = x % 2 := by
      rw [BitVec.toNat_and, show (BitVec.ofInt IntKind.i64.bits (1 : Int)).toNat = 1 from rfl, Nat.and_one_is_mod, BitVec.toNat_ofInt]
      show (((x : Int) % 18446744073709551616).toNat) % 2 = x % 2
      rw [Int.emod_eq_of_lt (by omega) (by omega)]
      rfl
    rw [e]
    exact iw_id (by omega) (by omega)
  rw [h2]
  rcases Nat.mod_two_eq_zero_or_one x with h | h <;> rw [h] <;> rfl
section
variable {L R : List Int} (G : Good L R)
include G
theorem zip_len : (L.zip R).length = L.length := by rw [List.length_zip, G.len, Nat.min_self]
theorem zip_drop (j : Nat) (h : j < L.length) : (L.zip R).drop j = (L[j], R[j]'(by rw [G.len]; exact h)) :: (L.zip R).drop (j + 1) := by
  rw [List.drop_eq_getElem_cons (by rw [zip_len G]; exact h), List.getElem_zip]
theorem in_l (j : Nat) (h : j < L.length) : 0 ≤ L[j] ∧ L[j] ≤ 20 := G.inL _ (List.getElem_mem _)
theorem in_r (j : Nat) (h : j < L.length) : 0 ≤ R[j]'(by rw [G.len]; exact h) ∧ R[j]'(by rw [G.len]; exact h) ≤ 20 := G.inR _ (List.getElem_mem _)
end
def badF (k : Nat) (L R : List Int) (s : Int) (rec : (Int × Int × GT × Int × Unit) → Option ((Int × Int × Unit) ⊕ ((Bool × Unit) × Unit))) (x : Int × Int × GT × Int × Unit) : Option ((Int × Int × Unit) ⊕ ((Bool × Unit) × Unit)) :=
  impl_Gloves_isBad_l1_b k (L, R) s (fun x2 x3 x4 x14 => rec (x2, x3, x4, x14, ())) x.1 x.2.1 x.2.2.1 x.2.2.2.1
theorem isBad_loop (k : Nat) {L R : List Int} (G : Good L R) (s : Nat) (hs : s < 1152921504606846976) : ∀ (d i j : Nat) (l r : Int), j + d = L.length → d < i → -1000000 + 20 * (d : Int) ≤ l → l ≤ 1000000 → -1000000 + 20 * (d : Int) ≤ r → r ≤ 1000000 →
    ∃ l' r', iter i (badF k L R s) (l, r, (L, R, ()), (j : Int), ()) = some (.inl (l', r', ())) ∧ (decide (l' ≤ 0) && decide (r' ≤ 0)) = badN (s / 2 ^ j) ((L.zip R).drop j) l r := by
  intro d
  induction d with
  | zero =>
    intro i j l r hj hi _ _ _ _
    obtain ⟨i, rfl⟩ : ∃ i', i = i' + 1 := ⟨i - 1, by omega⟩
    refine ⟨l, r, ?_, ?_⟩
    · show badF k L R s _ _ = _
      simp only [badF, impl_Gloves_isBad_l1_b, cond_dec]
      rw [if_neg (by omega)]
    · rw [List.drop_of_length_le (by rw [zip_len G]; omega)]; rfl
  | succ d ih =>
    intro i j l r hj hi h1 h2 h3 h4
    obtain ⟨i, rfl⟩ : ∃ i', i = i' + 1 := ⟨i - 1, by omega⟩
    have hlt : j < L.length := by omega
    have a := in_l G j hlt
    have b := in_r G j hlt
    have hl8 := G.l8
    have hlen := G.len
    have e : ∀ rec, badF k L R s rec (l, r, (L, R, ()), (j : Int), ()) = if s / 2 ^ j % 2 = 1 then rec (l - L[j], r, (L, R, ()), ((j + 1 : Nat) : Int), ()) else rec (l, r - R[j]'(by omega), (L, R, ()), ((j + 1 : Nat) : Int), ()) := fun rec => by
      simp only [badF, impl_Gloves_isBad_l1_b]
      rw [cond_dec, if_pos (by omega), ixk_in (by omega) (by omega), chk_dec (by omega), bit_is s j hs (by omega), cond_dec, rd_nat L j hlt, rd_nat R j (by omega), iw_nat (by omega)]
      split
      · simp only [met_inl]
        rw [iw_id (by omega) (by omega)]
      · rw [ixk_in (by omega) (by omega)]
        simp only [met_inl]
        rw [iw_id (by omega) (by omega)]
    have hd : badN (s / 2 ^ j) ((L.zip R).drop j) l r = if s / 2 ^ j % 2 = 1 then badN (s / 2 ^ (j + 1)) ((L.zip R).drop (j + 1)) (l - L[j]) r else badN (s / 2 ^ (j + 1)) ((L.zip R).drop (j + 1)) l (r - R[j]'(by omega)) := by
      rw [zip_drop G j hlt]
      simp only [badN, Nat.pow_succ, Nat.div_div_eq_div_mul]
    rw [hd]
    show ∃ l' r', badF k L R s (iter i (badF k L R s)) _ = _ ∧ _
    rw [e]
    split
    · exact ih i (j + 1) _ _ (by omega) (by omega) (by omega) (by omega) (by omega) (by omega)
    · exact ih i (j + 1) _ _ (by omega) (by omega) (by omega) (by omega) (by omega) (by omega)
theorem isBad_is (k : Nat) (hk : 100 ≤ k) {L R : List Int} (G : Good L R) (s : Nat) (hs : s < 1152921504606846976) (l r : Int) (h1 : -1000 ≤ l) (h2 : l ≤ 1000) (h3 : -1000 ≤ r) (h4 : r ≤ 1000) :
    impl_Gloves_isBad_f k (L, R) s l r = some ((badN s (L.zip R) l r, ()), ()) := by
  have hl8 := G.l8
  unfold impl_Gloves_isBad_f
  obtain ⟨l', r', e, h⟩ := isBad_loop k G s hs L.length k 0 l r (by omega) (by omega) (by omega) (by omega) (by omega) (by omega)
  rw [show impl_Gloves_isBad_l1 k (L, R) s l r (L, R, ()) 0 = iter k (badF k L R s) (l, r, (L, R, ()), ((0 : Nat) : Int), ()) from rfl, e]
  rw [Nat.pow_zero, Nat.div_one, List.drop_zero] at h
  simp only [met_inl]
  rw [← h]
  cases decide (l' ≤ 0) <;> rfl
def safe (L R : List Int) (l r : Int) : Bool := !ex (L.zip R) l r
def safeRes : Bool → Option (Unit ⊕ ((Bool × Unit) × Unit))
  | true => some (.inl ())
  | false => some (.inr ((false, ()), ()))
theorem pow8 {n : Nat} (h : n ≤ 8) : 2 ^ n ≤ 256 := by
  have := Nat.pow_le_pow_right (n := 2) (by omega) h
  simpa using this
theorem shl_is {n : Nat} (h : n ≤ 8) : shlI .i64 1 (n : Int) = ((2 ^ n : Nat) : Int) := by
  unfold shlI
  have h1 := pow8 h
  rw [Int.toNat_natCast, Nat.min_eq_left (by show n ≤ 64; omega), Int.one_mul]
  have e : (2 : Int) ^ n = ((2 ^ n : Nat) : Int) := by norm_cast
  rw [e]
  generalize 2 ^ n = m at h1
  exact iw_id (by omega) (by omega)
theorem isSafe_is (k : Nat) (hk : 1000 ≤ k) {L R : List Int} (G : Good L R) (l r : Int) (h1 : -1000 ≤ l) (h2 : l ≤ 1000) (h3 : -1000 ≤ r) (h4 : r ≤ 1000) :
    impl_Gloves_isSafe_f k (L, R) l r = some ((safe L R l r, ()), ()) := by
  have hp := pow8 G.l8
  unfold impl_Gloves_isSafe_f
  rw [chk_dec (by omega)]
  have h : impl_Gloves_isSafe_l1 k (L, R) l r (L, R, ()) 0 = safeRes ((List.range' 0 (2 ^ L.length)).all fun s => !badN s (L.zip R) l r) := by
    unfold impl_Gloves_isSafe_l1
    refine iter_up (fun j => ((L, R, ()), (j : Int), ())) (fun j => safeRes ((List.range' j (2 ^ L.length - j)).all fun s => !badN s (L.zip R) l r)) (2 ^ L.length) (fun j hj => ?_) k 0 (Nat.zero_le _) (by omega)
    rcases Nat.lt_or_ge j (2 ^ L.length) with hlt | hge
    · have e : ∀ rec : (GT × Int × Unit) → Option (Unit ⊕ ((Bool × Unit) × Unit)), impl_Gloves_isSafe_l1_b k (L, R) l r (fun x3 x12 => rec (x3, x12, ())) (L, R, ()) (j : Int) = if badN j (L.zip R) l r = true then some (.inr ((false, ()), ())) else rec ((L, R, ()), ((j + 1 : Nat) : Int), ()) := fun rec => by
        simp only [impl_Gloves_isSafe_l1_b]
        rw [cond_dec, shl_is G.l8, if_pos (by omega), isBad_is k (by omega) G j (by omega) l r h1 h2 h3 h4, iw_nat (by omega)]
        simp only [Option.bind_some]
        cases badN j (L.zip R) l r <;> rfl
      simp only [e]
      rw [show 2 ^ L.length - j = (2 ^ L.length - (j + 1)) + 1 by omega, List.range'_succ, List.all_cons]
      cases hb : badN j (L.zip R) l r with
      | true => exact .inl fun _ => rfl
      | false => exact .inr ⟨hlt, rfl, fun _ => rfl⟩
    · refine .inl fun rec => ?_
      simp only [impl_Gloves_isSafe_l1_b]
      rw [cond_dec, shl_is G.l8, if_neg (by omega), show 2 ^ L.length - j = 0 by omega]
      rfl
  rw [h]
  have hs : ((List.range' 0 (2 ^ L.length)).all fun s => !badN s (L.zip R) l r) = safe L R l r := by
    unfold safe
    rw [Bool.eq_iff_iff, List.all_eq_true]
    simp only [Bool.not_eq_true', List.mem_range'_1, Nat.zero_add]
    constructor
    · intro hall
      cases hx : ex (L.zip R) l r with
      | false => rfl
      | true =>
        obtain ⟨s, k1, k2⟩ := (ex_iff _ _ _).1 hx
        rw [zip_len G] at k1
        rw [hall s ⟨Nat.zero_le _, k1⟩] at k2; cases k2
    · intro hx s hs
      cases hb : badN s (L.zip R) l r with
      | false => rfl
      | true =>
        have := (ex_iff (L.zip R) l r).2 ⟨s, by rw [zip_len G]; exact hs.2, hb⟩
        rw [hx] at this; cases this
  rw [hs]
  cases safe L R l r <;> rfl

theorem gv_len : ∀ (zs : ZS) (f : Nat) (l r : Int) (o : List Nat), gv f zs l r = some o → o.length ≤ zs.length
  | [], f, l, r, o, h => by
    simp only [gv] at h
    split at h
    · cases h; simp
    · cases h
  | (a, b) :: zs, f, l, r, o, h => by
    simp only [gv] at h
    split at h
    · cases h; simp
    · split at h
      · rename_i o' hg
        cases h
        have := gv_len zs _ _ _ _ hg
        simp only [List.length_cons]; omega
      · have := gv_len zs _ _ _ _ h
        simp only [List.length_cons]; omega
def ints (o : List Nat) : List Int := o.map fun (x : Nat) => (x : Int)
def gvRes : Option (List Nat) → (List Int × Bool × Unit) × Unit
  | none => (([], false, ()), ())
  | some o => ((ints o, true, ()), ())
abbrev LR := Unit ⊕ ((List Int × Bool × Unit) × Unit)
def loopRes : Option (List Nat) → Option LR
  | none => some (.inl ())
  | some o => some (.inr ((ints o, true, ()), ()))
theorem sumR_drop : ∀ (L R : List Int) (j : Nat), R.length = L.length → sumR ((L.zip R).drop j) = (R.drop j).sum
  | [], [], j, _ => by simp [sumR]
  | a :: L, b :: R, 0, h => by
    have := sumR_drop L R 0 (by simpa using h)
    simp only [List.drop_zero] at this
    simp [sumR, this]
  | a :: L, b :: R, j + 1, h => by simpa using sumR_drop L R j (by simpa using h)
  | [], _ :: _, _, h => by simp at h
  | _ :: _, [], _, h => by simp at h
theorem rest_is (k : Nat) (hk : 100 ≤ k) {L R : List Int} (G : Good L R) (j : Nat) (hj : j ≤ L.length) :
    spec_gvBad_l1 k (L, R) (j : Int) (L, R, ()) 0 0 = some (.inl ((L, R, ()), sumR ((L.zip R).drop j), ())) := by
  have hl8 := G.l8
  have hlen := G.len
  unfold spec_gvBad_l1
  have hs : (R.drop j).foldl (fun a x => iw (a + x)) 0 = sumR ((L.zip R).drop j) := by
    rw [sumR_drop L R j G.len, foldW_is (R.drop j) 0 (fun x hx => G.inR x (List.mem_of_mem_drop hx)) (by omega) (by simp; omega)]
    omega
  refine iter_to (fun i => ((L, R, ()), ((R.drop j).take i).foldl (fun a x => iw (a + x)) 0, (i : Int), ())) (R.drop j).length _ (fun i hi rec => ?_) (fun rec => ?_) k (by simp; omega)
  · simp only [spec_gvBad_l1_b, Int.toNat_natCast, cond_dec]
    rw [if_pos (by omega), ixk_in (by omega) (by omega), iw_nat (by simp at hi; omega), rd_nat _ i hi, take_fold _ _ _ _ hi]
  · simp only [spec_gvBad_l1_b, Int.toNat_natCast, cond_dec]
    rw [if_neg (by omega), List.take_length, hs]
def gvF (k : Nat) (me : (List Int × List Int) → Int → Int → Int → Option ((List Int × Bool × Unit) × Unit)) (p2 p3 : Int) (rec : (GT × Int × Int × Unit) → Option LR) (x : GT × Int × Int × Unit) : Option LR :=
  spec_gvBad_l4_b k me p2 p3 (fun x4_1 x13 x14 => rec (x4_1, x13, x14, ())) x.1 x.2.1 x.2.2.1
theorem gv_loop (k n : Nat) {L R : List Int} (G : Good L R) (p2 p3 : Int) (me : (List Int × List Int) → Int → Int → Int → Option ((List Int × Bool × Unit) × Unit))
    (hme : ∀ (d j : Nat) (l r : Int), j + d = L.length → d < n → -1000 + 20 * (d : Int) ≤ l → l ≤ 500 → -1000 + 20 * (d : Int) ≤ r → r ≤ 500 → me (L, R) (j : Int) l r = some (gvRes (gv j ((L.zip R).drop j) l r))) :
    ∀ (d i j : Nat) (other : Int), j + d = L.length → d < i → d ≤ n → ¬ (p2 ≤ 0 ∧ p3 - other ≤ sumR ((L.zip R).drop j)) → -1000 + 20 * (d : Int) ≤ p2 → p2 ≤ 500 → -1000 + 20 * (d : Int) ≤ p3 - other → p3 ≤ 500 → 0 ≤ other → other ≤ 500 - 20 * (d : Int) →
    iter i (gvF k me p2 p3) ((L, R, ()), other, (j : Int), ()) = loopRes (gv j ((L.zip R).drop j) p2 (p3 - other)) := by
  have hl8 := G.l8
  have hlen := G.len
  intro d
  induction d with
  | zero =>
    intro i j other hj hi hn hc h1 h2 h3 h4 h5 h6
    obtain ⟨i, rfl⟩ : ∃ i', i = i' + 1 := ⟨i - 1, by omega⟩
    have hd : (L.zip R).drop j = [] := List.drop_of_length_le (by rw [zip_len G]; omega)
    rw [hd] at hc ⊢
    show gvF k me p2 p3 _ _ = _
    simp only [gvF, spec_gvBad_l4_b, cond_dec]
    rw [if_neg (by omega)]
    simp only [gv]
    rw [if_neg (by simpa [sumR] using hc)]
    rfl
  | succ d ih =>
    intro i j other hj hi hn hc h1 h2 h3 h4 h5 h6
    obtain ⟨i, rfl⟩ : ∃ i', i = i' + 1 := ⟨i - 1, by omega⟩
    have hlt : j < L.length := by omega
    have a := in_l G j hlt
    have b := in_r G j hlt
    have hih := ih i (j + 1) (other + R[j]'(by omega)) (by omega) (by omega) (by omega)
    have hm := hme d (j + 1) (p2 - L[j]) (p3 - other) (by omega) (by omega) (by omega) (by omega) (by omega) (by omega)
    rw [zip_drop G j hlt] at hc ⊢
    have hz : ((L.zip R).drop (j + 1)).length ≤ 8 := by rw [List.length_drop, zip_len G]; omega
    generalize (L.zip R).drop (j + 1) = zs at hih hm hc hz ⊢
    have hc' : ¬ (p2 ≤ 0 ∧ p3 - other ≤ R[j]'(by omega) + sumR zs) := hc
    show gvF k me p2 p3 (iter i (gvF k me p2 p3)) _ = _
    simp only [gvF, spec_gvBad_l4_b]
    rw [cond_dec, if_pos (by omega), ixk_in (by omega) (by omega), iw_nat (by omega), rd_nat L j hlt, iw_id (x := p2 - L[j]) (by omega) (by omega), iw_id (x := p3 - other) (by omega) (by omega), hm]
    simp only [Option.bind_some]
    simp only [gv]
    rw [if_neg hc']
    cases hg : gv (j + 1) zs (p2 - L[j]) (p3 - other) with
    | some o =>
      have hl := gv_len zs _ _ _ _ hg
      simp only [gvRes, cond_true]
      show chk (decide ([(j : Int)].length + (ints o).length ≤ 15637498706147)) (some (.inr (([(j : Int)] ++ ints o, true, ()), ()))) = loopRes (some (j :: o))
      rw [chk_dec (by simp [ints]; omega)]
      rfl
    | none =>
      simp only [gvRes, cond_false]
      rw [ixk_in (by omega) (by omega), rd_nat R j (by omega), iw_id (x := other + R[j]'(by omega)) (by omega) (by omega)]
      have e := hih (by omega) (by omega) (by omega) (by omega) (by omega) (by omega) (by omega)
      rw [show p3 - (other + R[j]'(by omega)) = p3 - other - R[j]'(by omega) by omega] at e
      exact e
theorem gvBad_r (k : Nat) (hk : 100 ≤ k) {L R : List Int} (G : Good L R) : ∀ (n d j : Nat) (l r : Int), j + d = L.length → d < n → -1000 + 20 * (d : Int) ≤ l → l ≤ 500 → -1000 + 20 * (d : Int) ≤ r → r ≤ 500 →
    spec_gvBad_r k n (L, R) (j : Int) l r = some (gvRes (gv j ((L.zip R).drop j) l r)) := by
  have hl8 := G.l8
  have hlen := G.len
  intro n
  induction n with
  | zero => intro d j l r _ h; omega
  | succ n ih =>
    intro d j l r hj hd h1 h2 h3 h4
    show spec_gvBad_s k (spec_gvBad_r k n) (L, R) (j : Int) l r = _
    unfold spec_gvBad_s
    rw [chk_dec (by omega), chk_dec (by show (j : Int) ≤ (R.length : Int); omega), rest_is k hk G j (by omega)]
    simp only [met_inl]
    have e : (met (cond (decide (l ≤ 0)) (some (.inl ((L, R, ()), (decide (sumR ((L.zip R).drop j) ≥ r)), ()))) (some (.inl ((L, R, ()), false, ())))) (fun j3 : GT × Bool × Unit => (cond j3.2.1 (some (([], true, ()), ())) (met (spec_gvBad_l4 k (spec_gvBad_r k n) l r (j3.1.1, j3.1.2.1, ()) 0 (j : Int)) (fun j5 => (some (([], false, ()), ())))))) : Option ((List Int × Bool × Unit) × Unit)) = if l ≤ 0 ∧ r ≤ sumR ((L.zip R).drop j) then some (([], true, ()), ()) else met (spec_gvBad_l4 k (spec_gvBad_r k n) l r (L, R, ()) 0 (j : Int)) (fun j5 => (some (([], false, ()), ()))) := by
      by_cases hl : l ≤ 0
      · by_cases hr : r ≤ sumR ((L.zip R).drop j)
        · rw [if_pos ⟨hl, hr⟩]; simp [hl, hr]
        · rw [if_neg (fun h => hr h.2)]; simp [hl, hr]
      · rw [if_neg (fun h => hl h.1)]; simp [hl]
    rw [e]
    have hg : ∀ zs : ZS, l ≤ 0 ∧ r ≤ sumR zs → gv j zs l r = some [] := by
      intro zs h
      cases zs with
      | nil => simp only [gv]; rw [if_pos (by simpa [sumR] using h)]
      | cons z zs => simp only [gv]; rw [if_pos (by simpa [sumR] using h)]
    split
    · rename_i hc
      rw [hg _ hc]; rfl
    · rename_i hc
      have hm := gv_loop k n G l r (spec_gvBad_r k n) (fun d' j' l' r' k1 k2 k3 k4 k5 k6 => ?_) d k j 0 hj (by omega) (by omega) (by rw [Int.sub_zero]; exact hc) (by omega) (by omega) (by omega) (by omega) (by omega) (by omega)
      · rw [show spec_gvBad_l4 k (spec_gvBad_r k n) l r (L, R, ()) 0 (j : Int) = iter k (gvF k (spec_gvBad_r k n) l r) ((L, R, ()), 0, (j : Int), ()) from rfl, hm, Int.sub_zero]
        cases gv j ((L.zip R).drop j) l r <;> rfl
      · exact ih d' j' l' r' k1 k2 k3 k4 k5 k6

def choice (L R : List Int) (l r : Int) : Bool := good L R && ((decide (0 ≤ l) && decide (l ≤ sumW L)) && (decide (0 ≤ r) && decide (r ≤ sumW R)))
theorem isChoice_is (k : Nat) (hk : 100 ≤ k) (L R : List Int) (hL : L.length ≤ 10) (hR : R.length ≤ 10) (l r : Int) : impl_isChoice_f k (L, R) l r = some ((choice L R l r, ()), ()) := by
  unfold impl_isChoice_f choice
  simp only [areGloves_is k hk L R hL hR, within_is, Option.bind_some, total_is k L (by omega) (by omega), total_is k R (by omega) (by omega)]
  cases good L R with
  | false => rfl
  | true => cases (decide (0 ≤ l) && decide (l ≤ sumW L)) <;> rfl
theorem gvChoice_is (k : Nat) (hk : 100 ≤ k) (L R : List Int) (hL : L.length ≤ 10) (hR : R.length ≤ 10) (l r : Int) : spec_gvChoice_f k (L, R) l r = some ((choice L R l r, ()), ()) := by
  unfold spec_gvChoice_f choice
  simp only [gvGood_is k hk L R hL hR, l1In_is, Option.bind_some, soSum_is k L (by omega) (by omega), soSum_is k R (by omega) (by omega)]
  cases good L R with
  | false => rfl
  | true => cases (decide (0 ≤ l) && decide (l ≤ sumW L)) <;> rfl
/-- What a choice is. -/
structure Choice (L R : List Int) (l r : Int) : Prop where
  G : Good L R
  l0 : 0 ≤ l
  l1 : l ≤ L.sum
  r0 : 0 ≤ r
  r1 : r ≤ R.sum
  lb : l ≤ 160
  rb : r ≤ 160
theorem choice_is {L R : List Int} {l r : Int} (h : choice L R l r = true) : Choice L R l r := by
  unfold choice at h
  simp only [Bool.and_eq_true, decide_eq_true_eq] at h
  obtain ⟨h0, ⟨h1, h2⟩, h3, h4⟩ := h
  have G := good_is h0
  have := G.l8
  have := G.len
  have b1 := sum_bound G.inL
  have b2 := sum_bound G.inR
  rw [sumW_is G.inL (by omega)] at h2
  rw [sumW_is G.inR (by omega)] at h4
  exact ⟨G, h1, h2, h3, h4, by omega, by omega⟩
theorem good_true {L R : List Int} (G : Good L R) : good L R = true := by
  have := G.l8
  have := G.len
  have := G.l0
  have := G.pos
  have b1 := sum_bound G.inL
  have b2 := sum_bound G.inR
  unfold good
  rw [sumW_is G.inL (by omega), sumW_is G.inR (by omega), iw_id (by omega) (by omega)]
  have a1 : allIn 0 20 L = true := List.all_eq_true.2 fun x hx => by simpa using G.inL x hx
  have a2 : allIn 0 20 R = true := List.all_eq_true.2 fun x hx => by simpa using G.inR x hx
  rw [a1, a2]
  simp only [Bool.true_and, Bool.and_eq_true, decide_eq_true_eq, beq_iff_eq]
  omega
theorem choice_true {L R : List Int} {l r : Int} (G : Good L R) (h0 : 0 ≤ l) (h1 : l ≤ L.sum) (h2 : 0 ≤ r) (h3 : r ≤ R.sum) : choice L R l r = true := by
  have := G.l8
  have := G.len
  unfold choice
  rw [good_true G, sumW_is G.inL (by omega), sumW_is G.inR (by omega)]
  simp only [Bool.true_and, Bool.and_eq_true, decide_eq_true_eq]
  omega
theorem gvBad_is (k : Nat) (hk : 100 ≤ k) {L R : List Int} (G : Good L R) (l r : Int) (h1 : -500 ≤ l) (h2 : l ≤ 500) (h3 : -500 ≤ r) (h4 : r ≤ 500) : spec_gvBad_f k (L, R) 0 l r = some (gvRes (gv 0 (L.zip R) l r)) := by
  have := G.l8
  have h := gvBad_r k hk G k L.length 0 l r (by omega) (by omega) (by omega) (by omega) (by omega) (by omega)
  rwa [List.drop_zero] at h
theorem gvRes_ok (L R : List Int) (l r : Int) : (gvRes (gv 0 (L.zip R) l r)).1.2.1 = !safe L R l r := by
  unfold safe
  rw [← gv_some (L.zip R) 0, Bool.not_not]
  cases gv 0 (L.zip R) l r <;> rfl
theorem gvSafe_is (k : Nat) (hk : 100 ≤ k) {L R : List Int} (G : Good L R) (l r : Int) (h1 : -500 ≤ l) (h2 : l ≤ 500) (h3 : -500 ≤ r) (h4 : r ≤ 500) : spec_gvSafe_f k (L, R) l r = some ((safe L R l r, ()), ()) := by
  unfold spec_gvSafe_f
  rw [gvBad_is k hk G l r h1 h2 h3 h4]
  simp only [Option.bind_some, gvRes_ok, Bool.not_not]
/-- What both answer: is a choice safe. -/
def safeVal (L R : List Int) (l r : Int) : (Bool × Bool × Unit) × Unit := if choice L R l r = true then ((safe L R l r, true, ()), ()) else ((false, false, ()), ())
theorem isSafeChoice_is (k : Nat) (hk : 1000 ≤ k) (L R : List Int) (hL : L.length ≤ 10) (hR : R.length ≤ 10) (l r : Int) : impl_IsSafeChoice_f k (L, R) l r = some (safeVal L R l r) := by
  unfold impl_IsSafeChoice_f safeVal
  rw [isChoice_is k (by omega) L R hL hR]
  simp only [Option.bind_some]
  cases h : choice L R l r with
  | false => rfl
  | true =>
    have C := choice_is h
    have := C.l0
    have := C.r0
    have := C.lb
    have := C.rb
    rw [isSafe_is k hk C.G l r (by omega) (by omega) (by omega) (by omega)]
    rfl
theorem specSafeChoice_is (k : Nat) (hk : 1000 ≤ k) (L R : List Int) (hL : L.length ≤ 10) (hR : R.length ≤ 10) (l r : Int) : spec_IsSafeChoice_f k (L, R) l r = some (safeVal L R l r) := by
  unfold spec_IsSafeChoice_f safeVal
  rw [gvChoice_is k (by omega) L R hL hR]
  simp only [Option.bind_some]
  cases h : choice L R l r with
  | false => rfl
  | true =>
    have C := choice_is h
    have := C.l0
    have := C.r0
    have := C.lb
    have := C.rb
    rw [gvSafe_is k (by omega) C.G l r (by omega) (by omega) (by omega) (by omega)]
    rfl
/-! ### Lists of colours -/
def bits (s m : Nat) : List Nat := (List.range m).filter fun i => decide (s / 2 ^ i % 2 = 1)
theorem bits_succ (s m : Nat) : bits s (m + 1) = if s / 2 ^ m % 2 = 1 then bits s m ++ [m] else bits s m := by
  unfold bits
  rw [List.range_succ, List.filter_append]
  by_cases h : s / 2 ^ m % 2 = 1 <;> simp [h]
theorem bits_far (s n : Nat) (h : s < 2 ^ n) : ∀ d, bits s (n + d) = bits s n
  | 0 => rfl
  | d + 1 => by
    rw [show n + (d + 1) = n + d + 1 by omega, bits_succ, bits_far s n h d, if_neg]
    rw [Nat.div_eq_of_lt (Nat.lt_of_lt_of_le h (Nat.pow_le_pow_right (by omega) (by omega)))]
    omega
theorem cols_bits : ∀ (n f s : Nat), cols f n s = (bits s n).map fun i => f + i
  | 0, _, _ => rfl
  | n + 1, f, s => by
    have e : bits s (n + 1) = (if s % 2 = 1 then [0] else []) ++ (bits (s / 2) n).map fun i => i + 1 := by
      unfold bits
      rw [List.range_succ_eq_map, List.filter_cons, List.filter_map]
      have : ((fun i => decide (s / 2 ^ i % 2 = 1)) ∘ Nat.succ) = fun i => decide (s / 2 / 2 ^ i % 2 = 1) := by
        funext i
        show decide (s / 2 ^ (i + 1) % 2 = 1) = decide (s / 2 / 2 ^ i % 2 = 1)
        rw [Nat.pow_succ, Nat.mul_comm, Nat.div_div_eq_div_mul]
      rw [this]
      by_cases h : s % 2 = 1 <;> simp [h]
    rw [e]
    simp only [cols, cols_bits n]
    by_cases h : s % 2 = 1
    · simp only [if_pos h, List.map_append, List.map_map]
      simp only [List.map_cons, List.map_nil, List.cons_append, List.nil_append, Nat.add_zero, List.cons.injEq, true_and]
      exact List.map_congr_left fun i _ => by simp only [Function.comp]; omega
    · simp only [if_neg h, List.map_append, List.map_map]
      simp only [List.map_nil, List.nil_append]
      exact List.map_congr_left fun i _ => by simp only [Function.comp]; omega
theorem ints_snoc (l : List Nat) (x : Nat) : ints (l ++ [x]) = ints l ++ [(x : Int)] := by simp [ints]
theorem colours_is (k : Nat) (hk : 100 ≤ k) (s : Nat) (hs : s < 1152921504606846976) : impl_colours_f k (s : Int) = some ((ints (bits s 8), ()), ()) := by
  unfold impl_colours_f
  have h : impl_colours_l1 k (s : Int) [] 0 = some (.inl (ints (bits s 8), ())) := by
    unfold impl_colours_l1
    refine iter_to (fun j => (ints (bits s j), (j : Int), ())) 8 _ (fun j hj rec => ?_) (fun rec => ?_) k (by omega)
    · simp only [impl_colours_l1_b]
      rw [cond_dec, if_pos (by omega), chk_dec (by omega), bit_is s j hs (by omega), cond_dec, iw_nat (by omega), bits_succ]
      have hb : (bits s j).length ≤ 8 := by
        unfold bits
        exact Nat.le_trans (List.length_filter_le _ _) (by simp; omega)
      split
      · rw [chk_dec (by simp [ints]; omega), ints_snoc]
        simp only [met_inl]
      · simp only [met_inl]
    · simp only [impl_colours_l1_b, cond_dec]
      rw [if_neg (by omega)]
  rw [h]; rfl

def cmpN : List Nat → List Nat → Int
  | [], [] => 0
  | [], _ :: _ => -1
  | _ :: _, [] => 1
  | x :: l, y :: m => if x < y then -1 else if y < x then 1 else cmpN l m
theorem cmpN_iff : ∀ l m, cmpN l m < 0 ↔ lt l m = true
  | [], [] => by simp [cmpN, lt]
  | [], _ :: _ => by simp [cmpN, lt]
  | _ :: _, [] => by simp [cmpN, lt]
  | x :: l, y :: m => by
    have ih := cmpN_iff l m
    show (if x < y then -1 else if y < x then 1 else cmpN l m) < 0 ↔ (decide (x < y) || (x == y && lt l m)) = true
    simp only [Bool.or_eq_true, decide_eq_true_eq, Bool.and_eq_true, beq_iff_eq, ← ih]
    split
    · simp [*]
    · split <;> omega
theorem cmpN_lt (l m : List Nat) : decide (cmpN l m < 0) = lt l m := by
  rw [Bool.eq_iff_iff, decide_eq_true_iff]; exact cmpN_iff l m
theorem compare1 (k : Nat) (x y : Int) : cmp_Compare_int_f k x y = some ((if x < y then -1 else if y < x then 1 else 0, ()), ()) := by
  unfold cmp_Compare_int_f cmp_isNaN_int_f
  by_cases h : x < y
  · simp [h]
  · by_cases h' : y < x <;> simp [h, h']
theorem ints_len (l : List Nat) : (ints l).length = l.length := by simp [ints]
theorem ints_get (l : List Nat) (j : Nat) (h : j < l.length) : rd (ints l) (j : Int) = (l[j] : Int) := by
  rw [rd_nat _ j (by rw [ints_len]; exact h)]; simp [ints]
theorem compare_is (k : Nat) (l m : List Nat) (hk : l.length < k) (hl : l.length ≤ 1000) : slices_Compare_int_int_f k (ints l) (ints m) = some ((cmpN l m, ()), ()) := by
  unfold slices_Compare_int_int_f slices_Compare_int_int_l1
  rw [show (0 : Int) = ((0 : Nat) : Int) from rfl]
  refine (iter_met (fun j => ((j : Int), ())) (fun j => some ((cmpN (l.drop j) (m.drop j), ()), ())) (min l.length m.length) (fun j hj => ?_) k 0 (Nat.zero_le _) (by omega)).trans rfl
  rcases Nat.lt_or_ge j l.length with h1 | h1
  · rcases Nat.lt_or_ge j m.length with h2 | h2
    · have e : ∀ rec : (Int × Unit) → Option (Unit ⊕ ((Int × Unit) × Unit)), slices_Compare_int_int_l1_b k (ints l) (ints m) (fun x11 => rec (x11, ())) (j : Int) = if l[j] < m[j] then some (.inr ((-1, ()), ())) else if m[j] < l[j] then some (.inr ((1, ()), ())) else rec (((j + 1 : Nat) : Int), ()) := fun rec => by
        simp only [slices_Compare_int_int_l1_b]
        rw [cond_dec, if_pos (by rw [ints_len]; omega), ixk_in (by omega) (by rw [ints_len]; omega), cond_dec, if_neg (by rw [ints_len]; omega), ixk_in (by omega) (by rw [ints_len]; omega), ints_get l j h1, ints_get m j h2, compare1, iw_nat (by omega)]
        simp only [Option.bind_some]
        by_cases c1 : l[j] < m[j]
        · rw [if_pos (by omega), if_pos c1]; rfl
        · rw [if_neg (by omega), if_neg c1]
          by_cases c2 : m[j] < l[j]
          · rw [if_pos (by omega), if_pos c2]; rfl
          · rw [if_neg (by omega), if_neg c2]; rfl
      simp only [e]
      rw [List.drop_eq_getElem_cons h1, List.drop_eq_getElem_cons h2]
      simp only [cmpN]
      by_cases c1 : l[j] < m[j]
      · simp only [if_pos c1]; exact .inl fun _ => rfl
      · simp only [if_neg c1]
        by_cases c2 : m[j] < l[j]
        · simp only [if_pos c2]; exact .inl fun _ => rfl
        · simp only [if_neg c2]; exact .inr ⟨by omega, by trivial, fun _ => by trivial⟩
    · refine .inl fun rec => ?_
      simp only [slices_Compare_int_int_l1_b]
      rw [cond_dec, if_pos (by rw [ints_len]; omega), ixk_in (by omega) (by rw [ints_len]; omega), cond_dec, if_pos (by rw [ints_len]; omega), List.drop_eq_getElem_cons h1, List.drop_of_length_le (l := m) (by omega)]
      rfl
  · refine .inl fun rec => ?_
    simp only [slices_Compare_int_int_l1_b]
    rw [cond_dec, if_neg (by rw [ints_len]; omega), List.drop_of_length_le (l := l) (by omega)]
    simp only [met_inl, ints_len, cond_dec]
    rcases Nat.lt_or_ge j m.length with h2 | h2
    · rw [if_pos (by omega), List.drop_eq_getElem_cons h2]; rfl
    · rw [if_neg (by omega), List.drop_of_length_le (by omega)]; rfl
/-- The least of lists. -/
def least (m : List Nat) (l : List (List Nat)) : List Nat := l.foldl (fun m x => if lt x m = true then x else m) m
theorem least_mem : ∀ (l : List (List Nat)) (m : List Nat), least m l = m ∨ least m l ∈ l
  | [], m => .inl rfl
  | x :: l, m => by
    show least (if lt x m = true then x else m) l = m ∨ least (if lt x m = true then x else m) l ∈ x :: l
    split
    · rcases least_mem l x with h | h
      · right; rw [h]; simp
      · right; exact List.mem_cons_of_mem _ h
    · rcases least_mem l m with h | h
      · left; exact h
      · right; exact List.mem_cons_of_mem _ h
theorem least_le : ∀ (l : List (List Nat)) (m : List Nat) (y : List Nat), y = m ∨ y ∈ l → lt y (least m l) = false
  | [], m, y, h => by
    rcases h with rfl | h
    · exact lt_irrefl _
    · cases h
  | x :: l, m, y, h => by
    show lt y (least (if lt x m = true then x else m) l) = false
    split
    · rename_i hx
      rcases h with rfl | h
      · cases hy : lt y (least x l) with
        | false => rfl
        | true =>
          have := least_le l x x (.inl rfl)
          rw [lt_trans hx hy] at this; cases this
      · rcases List.mem_cons.1 h with rfl | h
        · exact least_le l _ _ (.inl rfl)
        · exact least_le l _ _ (.inr h)
    · rename_i hx
      rcases h with rfl | h
      · exact least_le l _ _ (.inl rfl)
      · rcases List.mem_cons.1 h with rfl | h
        · cases hy : lt y (least m l) with
          | false => rfl
          | true =>
            have hm := least_le l m m (.inl rfl)
            cases h1 : lt m y with
            | true => rw [lt_trans h1 hy] at hm; cases hm
            | false =>
              have := lt_total y m (by simpa using hx) h1
              subst this
              rw [hy] at hm; cases hm
        · exact least_le l _ _ (.inr h)
theorem least_snoc (m : List Nat) (l : List (List Nat)) (j : Nat) (h : j < l.length) : least m (l.take (j + 1)) = if lt l[j] (least m (l.take j)) = true then l[j] else least m (l.take j) := by
  unfold least
  rw [List.take_succ_eq_append_getElem h, List.foldl_append]; rfl
theorem minFunc_is (k : Nat) (m : List Nat) (l : List (List Nat)) (hk : l.length + 1 < k) (hl : l.length ≤ 1000) (hs : ∀ x, x = m ∨ x ∈ l → x.length < k ∧ x.length ≤ 1000) (u : Unit) : slices_MinFunc_int_int__155_f k ((m :: l).map ints) u = some ((ints (least m l), ()), ()) := by
  unfold slices_MinFunc_int_int__155_f
  have hlen : ((m :: l).map ints).length = l.length + 1 := by simp
  rw [cond_dec, if_neg (by omega)]
  simp only [met_inl]
  rw [chk_dec (by omega)]
  have h : slices_MinFunc_int_int__155_l2 k ((m :: l).map ints) (rdG [] ((m :: l).map ints) 0) 1 = some (.inl (ints (least m l), ())) := by
    unfold slices_MinFunc_int_int__155_l2
    refine iter_to (fun j => (ints (least m (l.take j)), ((j + 1 : Nat) : Int), ())) l.length _ (fun j hj rec => ?_) (fun rec => ?_) k (by omega)
    · have hg : rdG [] ((m :: l).map ints) ((j + 1 : Nat) : Int) = ints l[j] := by
        rw [rdG_nat _ _ _ (by omega)]; simp
      have hx := hs l[j] (.inr (List.getElem_mem _))
      simp only [slices_MinFunc_int_int__155_l2_b]
      rw [cond_dec, if_pos (by omega), ixk_in (by omega) (by omega), hg, compare_is k _ _ hx.1 hx.2, iw_nat (by omega)]
      simp only [Option.bind_some, cmpN_lt]
      rw [least_snoc m l j hj]
      cases lt l[j] (least m (l.take j)) with
      | true =>
        simp only [cond_true, if_true]
        rw [ixk_in (by omega) (by omega)]
        simp only [met_inl]
      | false => simp
    · simp only [slices_MinFunc_int_int__155_l2_b, cond_dec]
      rw [if_neg (by omega), List.take_length]
  rw [h]; rfl

def badVal (L R : List Int) (l r : Int) : (List Int × Bool × Unit) × Unit := if choice L R l r = true then gvRes (gv 0 (L.zip R) l r) else (([], false, ()), ())
def badSets (zs : ZS) (l r : Int) (n : Nat) : List Nat := (List.range n).filter fun s => badN s zs l r
theorem badSets_succ (zs : ZS) (l r : Int) (n : Nat) : badSets zs l r (n + 1) = if badN n zs l r = true then badSets zs l r n ++ [n] else badSets zs l r n := by
  unfold badSets
  rw [List.range_succ, List.filter_append]
  by_cases h : badN n zs l r = true <;> simp [h]
def badLists (zs : ZS) (l r : Int) (n : Nat) : List (List Nat) := (badSets zs l r n).map fun s => bits s 8
theorem bits_len (s m : Nat) : (bits s m).length ≤ m := by
  unfold bits
  exact Nat.le_trans (List.length_filter_le _ _) (by simp)
theorem badLists_len (zs : ZS) (l r : Int) (n : Nat) : (badLists zs l r n).length ≤ n := by
  unfold badLists badSets
  rw [List.length_map]
  exact Nat.le_trans (List.length_filter_le _ _) (by simp)
theorem badLoop_is (k : Nat) (hk : 1000 ≤ k) {L R : List Int} {l r : Int} (C : Choice L R l r) (b : Bool) :
    impl_BadColours_l2 k l r ((L, R, ()), b, ()) (L, R, ()) [] 0 = some (.inl ((badLists (L.zip R) l r (2 ^ L.length)).map ints, ())) := by
  have hp := pow8 C.G.l8
  have := C.l0
  have := C.r0
  have := C.lb
  have := C.rb
  unfold impl_BadColours_l2
  refine iter_to (fun j => ((L, R, ()), (badLists (L.zip R) l r j).map ints, (j : Int), ())) (2 ^ L.length) _ (fun j hj rec => ?_) (fun rec => ?_) k (by omega)
  · simp only [impl_BadColours_l2_b]
    rw [cond_dec, shl_is C.G.l8, if_pos (by omega), isBad_is k (by omega) C.G j (by omega) l r (by omega) (by omega) (by omega) (by omega), colours_is k (by omega) j (by omega), iw_nat (by omega)]
    simp only [Option.bind_some]
    unfold badLists
    rw [badSets_succ]
    have hl := badLists_len (L.zip R) l r j
    unfold badLists at hl
    cases badN j (L.zip R) l r with
    | true =>
      simp only [cond_true, if_true]
      rw [chk_dec (by simp only [List.length_map, List.length_singleton] at hl ⊢; omega)]
      simp only [met_inl, List.map_append, List.map_cons, List.map_nil]
    | false => simp
  · simp only [impl_BadColours_l2_b]
    rw [cond_dec, shl_is C.G.l8, if_neg (by omega)]
theorem badColours_is (k : Nat) (hk : 1000 ≤ k) (L R : List Int) (hL : L.length ≤ 10) (hR : R.length ≤ 10) (l r : Int) : impl_BadColours_f k (L, R) l r = some (badVal L R l r) := by
  unfold impl_BadColours_f badVal
  rw [isChoice_is k (by omega) L R hL hR]
  simp only [Option.bind_some]
  cases h : choice L R l r with
  | false => rfl
  | true =>
    have C := choice_is h
    have := C.l0
    have := C.r0
    have := C.lb
    have := C.rb
    have hp := pow8 C.G.l8
    rw [isSafe_is k hk C.G l r (by omega) (by omega) (by omega) (by omega)]
    simp only [Bool.not_true, cond_false, Option.bind_some, met_inl, if_true]
    have hs : safe L R l r = !(gv 0 (L.zip R) l r).isSome := by unfold safe; rw [gv_some]
    cases hg : gv 0 (L.zip R) l r with
    | none =>
      rw [hg] at hs
      rw [hs]; rfl
    | some o =>
      rw [hg] at hs
      rw [hs]
      simp only [Option.isSome_some, Bool.not_true, cond_false]
      rw [chk_dec (by omega), badLoop_is k hk C]
      simp only [met_inl]
      obtain ⟨s0, k1, k2, k3, k4⟩ := gv_least _ _ _ _ _ hg
      rw [zip_len C.G] at k1 k3 k4
      have hb : ∀ s, s < 2 ^ L.length → cols 0 L.length s = bits s 8 := fun s hs => by
        rw [cols_bits]
        have e := bits_far s L.length hs (8 - L.length)
        have := C.G.l8
        rw [show L.length + (8 - L.length) = 8 by omega] at e
        rw [e]; simp
      have hin : o ∈ badLists (L.zip R) l r (2 ^ L.length) := by
        unfold badLists badSets
        refine List.mem_map.2 ⟨s0, List.mem_filter.2 ⟨List.mem_range.2 k1, k2⟩, ?_⟩
        rw [k3, hb s0 k1]
      have hmin : ∀ y ∈ badLists (L.zip R) l r (2 ^ L.length), lt y o = false := by
        intro y hy
        unfold badLists badSets at hy
        obtain ⟨s, hs1, rfl⟩ := List.mem_map.1 hy
        obtain ⟨hs2, hs3⟩ := List.mem_filter.1 hs1
        have hs2 := List.mem_range.1 hs2
        rw [← hb s hs2]
        exact k4 s hs2 hs3
      have hlen := badLists_len (L.zip R) l r (2 ^ L.length)
      have hsz : ∀ y ∈ badLists (L.zip R) l r (2 ^ L.length), y.length ≤ 8 := by
        intro y hy
        unfold badLists at hy
        obtain ⟨s, _, rfl⟩ := List.mem_map.1 hy
        exact bits_len s 8
      cases hbl : badLists (L.zip R) l r (2 ^ L.length) with
      | nil => rw [hbl] at hin; cases hin
      | cons m rest =>
        rw [hbl] at hin hmin hlen hsz
        simp only [List.length_cons] at hlen
        rw [minFunc_is k m rest (by omega) (by omega) (fun x hx => by
          have := hsz x (by rcases hx with rfl | hx <;> simp [*])
          omega)]
        have e : least m rest = o := by
          have h1 := least_le rest m o (List.mem_cons.1 hin)
          have h2 : lt (least m rest) o = false := hmin _ (by
            rcases least_mem rest m with h | h
            · rw [h]; simp
            · exact List.mem_cons_of_mem _ h)
          exact lt_total _ _ h2 h1
        rw [e]; rfl
theorem specBad_is (k : Nat) (hk : 1000 ≤ k) (L R : List Int) (hL : L.length ≤ 10) (hR : R.length ≤ 10) (l r : Int) : spec_BadColours_f k (L, R) l r = some (badVal L R l r) := by
  unfold spec_BadColours_f badVal
  rw [gvChoice_is k (by omega) L R hL hR]
  simp only [Option.bind_some]
  cases h : choice L R l r with
  | false => rfl
  | true =>
    have C := choice_is h
    have := C.l0
    have := C.r0
    have := C.lb
    have := C.rb
    rw [gvBad_is k (by omega) C.G l r (by omega) (by omega) (by omega) (by omega)]
    rfl

def sumL : ZS → Int
  | [] => 0
  | (a, _) :: zs => a + sumL zs
theorem sumL_zip : ∀ (L R : List Int), R.length = L.length → sumL (L.zip R) = L.sum
  | [], [], _ => rfl
  | a :: L, b :: R, h => by
    have := sumL_zip L R (by simpa using h)
    simp [sumL, this]
  | [], _ :: _, h => by simp at h
  | _ :: _, [], h => by simp at h
theorem ex_all : ∀ (zs : ZS) (l r : Int), l ≤ sumL zs → r ≤ 0 → ex zs l r = true
  | [], l, r, h1, h2 => by
    replace h1 : l ≤ 0 := h1
    simp [ex, h1, h2]
  | (a, b) :: zs, l, r, h1, h2 => by
    replace h1 : l ≤ a + sumL zs := h1
    simp [ex, ex_all zs (l - a) r (by omega) h2]
theorem ex_zero (zs : ZS) (l r : Int) (h1 : l ≤ 0) (h2 : r ≤ sumR zs) : ex zs l r = true :=
  (ex_iff _ _ _).2 ⟨0, Nat.pow_pos (by omega), by rw [bad_zero]; simp [h1, h2]⟩
section
variable {L R : List Int} (G : Good L R)
include G
theorem safe_lefts {l r : Int} (h : safe L R l r = true) (hl : l ≤ L.sum) : 0 < r := by
  rcases Int.lt_or_le 0 r with h1 | h1
  · exact h1
  · unfold safe at h
    rw [ex_all _ l r (by rw [sumL_zip L R G.len]; exact hl) h1] at h; cases h
theorem safe_rights {l r : Int} (h : safe L R l r = true) (hr : r ≤ R.sum) : 0 < l := by
  rcases Int.lt_or_le 0 l with h1 | h1
  · exact h1
  · have e := sumR_drop L R 0 G.len
    simp only [List.drop_zero] at e
    unfold safe at h
    rw [ex_zero _ l r h1 (by rw [e]; exact hr)] at h; cases h
end
theorem safe_up {L R : List Int} {l r l' r' : Int} (h : safe L R l r = true) (h1 : l ≤ l') (h2 : r ≤ r') : safe L R l' r' = true := by
  unfold safe at h ⊢
  cases hx : ex (L.zip R) l' r' with
  | false => rfl
  | true => rw [ex_mono _ h1 h2 hx] at h; cases h
/-- The first number from n on, of d numbers. -/
def first (P : Nat → Bool) : Nat → Nat → Option Nat
  | _, 0 => none
  | n, d + 1 => if P n = true then some n else first P (n + 1) d
theorem first_some (P : Nat → Bool) : ∀ (d n r : Nat), first P n d = some r → n ≤ r ∧ r < n + d ∧ P r = true ∧ ∀ i, n ≤ i → i < r → P i = false
  | 0, _, _, h => by cases h
  | d + 1, n, r, h => by
    simp only [first] at h
    split at h
    · rename_i hp
      cases h
      exact ⟨Nat.le_refl _, by omega, hp, fun i h1 h2 => by omega⟩
    · rename_i hp
      obtain ⟨h1, h2, h3, h4⟩ := first_some P d (n + 1) r h
      refine ⟨by omega, by omega, h3, fun i k1 k2 => ?_⟩
      rcases Nat.lt_or_ge n i with k | k
      · exact h4 i k k2
      · obtain rfl : i = n := by omega
        simpa using hp
theorem first_none (P : Nat → Bool) : ∀ (d n : Nat), first P n d = none → ∀ i, n ≤ i → i < n + d → P i = false
  | 0, _, _, i, h1, h2 => by omega
  | d + 1, n, h, i, h1, h2 => by
    simp only [first] at h
    split at h
    · cases h
    · rename_i hp
      rcases Nat.lt_or_ge n i with k | k
      · exact first_none P d (n + 1) h i k (by omega)
      · obtain rfl : i = n := by omega
        simpa using hp
/-- The least rights. -/
def lr (L R : List Int) (l : Int) : Option Nat := first (fun r => safe L R l (r : Int)) 1 R.sum.toNat
def lrI (L R : List Int) (l : Int) : Int := match lr L R l with
  | some r => (r : Int)
  | none => -1
theorem leastRights_is (k : Nat) (hk : 1000 ≤ k) {L R : List Int} (G : Good L R) (l : Int) (h0 : 0 ≤ l) (h1 : l ≤ L.sum) : impl_Gloves_leastRights_f k (L, R) l = some ((lrI L R l, ()), ()) := by
  have := G.l8
  have := G.len
  have b1 := sum_bound G.inL
  have b2 := sum_bound G.inR
  have isS : ∀ r : Int, -1000 ≤ r → r ≤ 1000 → impl_Gloves_isSafe_f k (L, R) l r = some ((safe L R l r, ()), ()) := fun r h2 h3 => isSafe_is k hk G l r (by omega) (by omega) h2 h3
  unfold impl_Gloves_leastRights_f
  simp only [total_is k R (by omega) (by omega), sumW_is G.inR (by omega), Option.bind_some]
  rw [isS _ (by omega) (by omega)]
  simp only [Option.bind_some]
  unfold lrI lr
  cases hf : first (fun r => safe L R l (r : Int)) 1 R.sum.toNat with
  | none =>
    have : safe L R l R.sum = false := by
      cases hs : safe L R l R.sum with
      | false => rfl
      | true =>
        have hp := safe_lefts G hs h1
        have := first_none _ _ _ hf R.sum.toNat (by omega) (by omega)
        rw [show ((R.sum.toNat : Nat) : Int) = R.sum by omega] at this
        rw [hs] at this; cases this
    rw [this]; rfl
  | some r =>
    obtain ⟨k1, k2, k3, k4⟩ := first_some _ _ _ _ hf
    rw [safe_up k3 (Int.le_refl _) (by omega : (r : Int) ≤ R.sum)]
    simp only [Bool.not_true, cond_false]
    have h : impl_Gloves_leastRights_l1 k l (L, R, ()) R.sum = some (.inl ((r : Int), ())) := by
      unfold impl_Gloves_leastRights_l1
      rw [show R.sum = R.sum - ((0 : Nat) : Int) by omega]
      refine iter_to (fun i => ((L, R, ()), R.sum - (i : Int), ())) (R.sum.toNat - r) _ (fun i hi rec => ?_) (fun rec => ?_) k (by omega)
      · simp only [impl_Gloves_leastRights_l1_b]
        rw [cond_dec, if_pos (by omega), iw_id (by omega) (by omega), isS _ (by omega) (by omega), safe_up k3 (Int.le_refl _) (by omega : (r : Int) ≤ R.sum - (i : Int) - 1)]
        simp only [Option.bind_some, met_inl, cond_true]
        rw [show R.sum - (i : Int) - 1 = R.sum - ((i + 1 : Nat) : Int) by omega]
      · simp only [impl_Gloves_leastRights_l1_b]
        have e : R.sum - ((R.sum.toNat - r : Nat) : Int) = r := by omega
        rw [e, cond_dec, if_pos (by omega), iw_id (by omega) (by omega), isS _ (by omega) (by omega)]
        have : safe L R l ((r : Int) - 1) = false := by
          cases hs : safe L R l ((r : Int) - 1) with
          | false => rfl
          | true =>
            have hp := safe_lefts G hs h1
            have := k4 (r - 1) (by omega) (by omega)
            rw [show ((r - 1 : Nat) : Int) = (r : Int) - 1 by omega] at this
            rw [hs] at this; cases this
        rw [this]; rfl
    rw [h]; rfl

def lrOut : Option Nat → (Int × Bool × Unit) × Unit
  | some r => (((r : Int), true, ()), ())
  | none => ((0, false, ()), ())
def lrVal (L R : List Int) (l : Int) : (Int × Bool × Unit) × Unit := lrOut (lr L R l)
def leastOk (L R : List Int) (l : Int) : Bool := good L R && (decide (1 ≤ l) && decide (l ≤ sumW L))
def leastVal (L R : List Int) (l : Int) : (Int × Bool × Unit) × Unit := if leastOk L R l = true then lrVal L R l else ((0, false, ()), ())
structure LeastOk (L R : List Int) (l : Int) : Prop where
  G : Good L R
  l0 : 1 ≤ l
  l1 : l ≤ L.sum
theorem leastOk_is {L R : List Int} {l : Int} (h : leastOk L R l = true) : LeastOk L R l := by
  unfold leastOk at h
  simp only [Bool.and_eq_true, decide_eq_true_eq] at h
  have G := good_is h.1
  have := G.l8
  exact ⟨G, h.2.1, by rw [← sumW_is G.inL (by omega)]; exact h.2.2⟩
theorem implLeast_is (k : Nat) (hk : 1000 ≤ k) (L R : List Int) (hL : L.length ≤ 10) (hR : R.length ≤ 10) (l : Int) : impl_LeastRights_f k (L, R) l = some (leastVal L R l) := by
  unfold impl_LeastRights_f leastVal
  have e : leastOk L R l = true → LeastOk L R l := leastOk_is
  unfold leastOk at e ⊢
  simp only [areGloves_is k (by omega) L R hL hR, Option.bind_some, total_is k L (by omega) (by omega), within_is]
  cases hg : good L R with
  | false => rfl
  | true =>
    rw [hg] at e
    cases hl : (decide (1 ≤ l) && decide (l ≤ sumW L)) with
    | false => rfl
    | true =>
      rw [hl] at e
      have O := e rfl
      have := O.l0
      simp only [Bool.not_true, cond_false, met_inl, Bool.true_and, if_true]
      rw [leastRights_is k hk O.G l (by omega) O.l1]
      unfold lrI lrVal
      cases lr L R l with
      | none => rfl
      | some r =>
        simp only [Option.bind_some, max2]
        rw [if_neg (by omega)]
        simp [lrOut]
theorem specLeast_is (k : Nat) (hk : 1000 ≤ k) (L R : List Int) (hL : L.length ≤ 10) (hR : R.length ≤ 10) (l : Int) : spec_LeastRights_f k (L, R) l = some (leastVal L R l) := by
  unfold spec_LeastRights_f leastVal
  have e : leastOk L R l = true → LeastOk L R l := leastOk_is
  unfold leastOk at e ⊢
  simp only [gvGood_is k (by omega) L R hL hR, Option.bind_some, soSum_is k L (by omega) (by omega), l1In_is]
  cases hg : good L R with
  | false => rfl
  | true =>
    rw [hg] at e
    cases hl : (decide (1 ≤ l) && decide (l ≤ sumW L)) with
    | false => rfl
    | true =>
      rw [hl] at e
      have O := e rfl
      have G := O.G
      have := O.l0
      have := O.l1
      have := G.l8
      have := G.len
      have b1 := sum_bound G.inL
      have b2 := sum_bound G.inR
      simp only [Bool.not_true, cond_false, met_inl, Bool.true_and, if_true]
      unfold spec_LeastRights_l2
      rw [show (1 : Int) = ((0 + 1 : Nat) : Int) from rfl]
      refine (iter_met (fun j => ((L, R, ()), ((j + 1 : Nat) : Int), ())) (fun j => some (lrOut (first (fun r => safe L R l (r : Int)) (j + 1) (R.sum.toNat - j)))) R.sum.toNat (fun j hj => ?_) k 0 (Nat.zero_le _) (by omega)).trans rfl
      have e : ∀ rec : (GT × Int × Unit) → Option (Unit ⊕ ((Int × Bool × Unit) × Unit)), spec_LeastRights_l2_b k l (fun x2 x6 => rec (x2, x6, ())) (L, R, ()) ((j + 1 : Nat) : Int) = if j < R.sum.toNat then (if safe L R l ((j + 1 : Nat) : Int) = true then some (.inr ((((j + 1 : Nat) : Int), true, ()), ())) else rec ((L, R, ()), ((j + 1 + 1 : Nat) : Int), ())) else some (.inl ()) := fun rec => by
        simp only [spec_LeastRights_l2_b, soSum_is k R (by omega) (by omega), Option.bind_some, cond_dec, sumW_is G.inR (by omega)]
        by_cases hj : j < R.sum.toNat
        · rw [if_pos (by omega), if_pos hj, gvSafe_is k (by omega) G l _ (by omega) (by omega) (by omega) (by omega), iw_nat (by omega)]
          simp only [Option.bind_some]
          cases safe L R l ((j + 1 : Nat) : Int) <;> rfl
        · rw [if_neg (by omega), if_neg hj]
      simp only [e]
      rcases Nat.lt_or_ge j R.sum.toNat with h1 | h1
      · rw [show R.sum.toNat - j = (R.sum.toNat - (j + 1)) + 1 by omega]
        simp only [if_pos h1, first]
        by_cases hs : safe L R l ((j + 1 : Nat) : Int) = true
        · simp only [if_pos hs]; exact .inl fun _ => rfl
        · simp only [if_neg hs]; exact .inr ⟨h1, by trivial, fun _ => by trivial⟩
      · simp only [if_neg (Nat.not_lt.2 h1)]
        rw [show R.sum.toNat - j = 0 by omega]
        exact .inl fun _ => rfl
/-! ### Fewest by hand -/
/-- The best one there is. -/
structure Best (L R : List Int) (x y : Int) : Prop where
  ok : safe L R x y = true
  x0 : 1 ≤ x
  x1 : x ≤ L.sum
  y0 : 1 ≤ y
  y1 : y ≤ R.sum
  le : ∀ x' y', safe L R x' y' = true → 1 ≤ x' → x' ≤ L.sum → 1 ≤ y' → y' ≤ R.sum → x + y ≤ x' + y' ∧ (x + y = x' + y' → x ≤ x')
theorem Best.uniq {L R : List Int} {x y x' y' : Int} (h : Best L R x y) (h' : Best L R x' y') : x = x' ∧ y = y' := by
  have h1 := h.le _ _ h'.ok h'.x0 h'.x1 h'.y0 h'.y1
  have h2 := h'.le _ _ h.ok h.x0 h.x1 h.y0 h.y1
  have h3 := h1.2 (by omega)
  have h4 := h2.2 (by omega)
  omega
def NoBest (L R : List Int) : Prop := ∀ x y, safe L R x y = true → 1 ≤ x → x ≤ L.sum → 1 ≤ y → y ≤ R.sum → False
theorem lr_some {L R : List Int} (G : Good L R) {l : Int} {r : Nat} (h : lr L R l = some r) : safe L R l (r : Int) = true ∧ 1 ≤ r ∧ (r : Int) ≤ R.sum ∧ ∀ r' : Int, safe L R l r' = true → 1 ≤ r' → (r : Int) ≤ r' := by
  obtain ⟨k1, k2, k3, k4⟩ := first_some _ _ _ _ h
  have b2 := sum_bound G.inR
  refine ⟨k3, k1, by omega, fun r' h1 h2 => ?_⟩
  rcases Int.lt_or_le r' r with h3 | h3
  · have := k4 r'.toNat (by omega) (by omega)
    rw [show ((r'.toNat : Nat) : Int) = r' by omega, h1] at this; cases this
  · exact h3
theorem lr_none {L R : List Int} {l : Int} (h : lr L R l = none) (r : Int) (h1 : 1 ≤ r) (h2 : r ≤ R.sum) : safe L R l r = false := by
  have := first_none _ _ _ h r.toNat (by omega) (by omega)
  rwa [show ((r.toNat : Nat) : Int) = r by omega] at this
/-- The state of the search behind j numbers of lefts. -/
def bst (L R : List Int) : Nat → Int × Int
  | 0 => (-1, 0)
  | j + 1 => if 0 ≤ lrI L R ((j + 1 : Nat) : Int) ∧ ((bst L R j).1 < 0 ∨ ((j + 1 : Nat) : Int) + lrI L R ((j + 1 : Nat) : Int) < (bst L R j).1 + (bst L R j).2) then (((j + 1 : Nat) : Int), lrI L R ((j + 1 : Nat) : Int)) else bst L R j
def BInv (L R : List Int) (j : Nat) (b : Int × Int) : Prop :=
  (b.1 < 0 ∧ ∀ l : Nat, 1 ≤ l → l ≤ j → lr L R (l : Int) = none) ∨
  ∃ l r : Nat, b = ((l : Int), (r : Int)) ∧ 1 ≤ l ∧ l ≤ j ∧ lr L R (l : Int) = some r ∧ ∀ l' r' : Nat, 1 ≤ l' → l' ≤ j → lr L R (l' : Int) = some r' → l + r ≤ l' + r' ∧ (l + r = l' + r' → l ≤ l')
theorem bst_inv (L R : List Int) : ∀ j, BInv L R j (bst L R j)
  | 0 => .inl ⟨by simp [bst], fun l h1 h2 => by omega⟩
  | j + 1 => by
    have ih := bst_inv L R j
    simp only [bst]
    generalize bst L R j = b at ih
    unfold lrI
    cases hl : lr L R ((j + 1 : Nat) : Int) with
    | none =>
      simp only
      rw [if_neg (by omega)]
      rcases ih with ⟨h1, h2⟩ | ⟨l, r, e, h1, h2, h3, h4⟩
      · refine .inl ⟨h1, fun l k1 k2 => ?_⟩
        rcases Nat.lt_or_ge j l with k | k
        · obtain rfl : l = j + 1 := by omega
          exact hl
        · exact h2 l k1 k
      · refine .inr ⟨l, r, e, h1, by omega, h3, fun l' r' k1 k2 k3 => ?_⟩
        rcases Nat.lt_or_ge j l' with k | k
        · obtain rfl : l' = j + 1 := by omega
          rw [hl] at k3; cases k3
        · exact h4 l' r' k1 k k3
    | some r0 =>
      simp only
      split
      · rename_i hc
        refine .inr ⟨j + 1, r0, rfl, by omega, by omega, hl, fun l' r' k1 k2 k3 => ?_⟩
        rcases Nat.lt_or_ge j l' with k | k
        · obtain rfl : l' = j + 1 := by omega
          rw [hl] at k3; cases k3; omega
        · rcases ih with ⟨h1, h2⟩ | ⟨l, r, e, h1, h2, h3, h4⟩
          · rw [h2 l' k1 k] at k3; cases k3
          · have := h4 l' r' k1 k k3
            subst e
            have := hc.2
            simp only at this
            omega
      · rename_i hc
        rcases ih with ⟨h1, h2⟩ | ⟨l, r, e, h1, h2, h3, h4⟩
        · exact absurd ⟨by omega, .inl h1⟩ hc
        · refine .inr ⟨l, r, e, h1, by omega, h3, fun l' r' k1 k2 k3 => ?_⟩
          rcases Nat.lt_or_ge j l' with k | k
          · obtain rfl : l' = j + 1 := by omega
            rw [hl] at k3
            cases k3
            subst e
            simp only at hc
            omega
          · exact h4 l' r' k1 k k3
theorem bst_far {L R : List Int} (j : Nat) : (bst L R j).1 < 0 ∨ ∃ l r : Nat, bst L R j = ((l : Int), (r : Int)) ∧ 1 ≤ l ∧ l ≤ j ∧ lr L R (l : Int) = some r := by
  rcases bst_inv L R j with h | ⟨l, r, e, h1, h2, h3, _⟩
  · exact .inl h.1
  · exact .inr ⟨l, r, e, h1, h2, h3⟩
theorem bst_best {L R : List Int} (G : Good L R) : ((bst L R L.sum.toNat).1 < 0 ∧ NoBest L R) ∨ Best L R (bst L R L.sum.toNat).1 (bst L R L.sum.toNat).2 := by
  have b1 := sum_bound G.inL
  rcases bst_inv L R L.sum.toNat with ⟨h1, h2⟩ | ⟨l, r, e, h1, h2, h3, h4⟩
  · refine .inl ⟨h1, fun x y k1 k2 k3 k4 k5 => ?_⟩
    have := h2 x.toNat (by omega) (by omega)
    rw [show ((x.toNat : Nat) : Int) = x by omega] at this
    rw [lr_none this y k4 k5] at k1; cases k1
  · right
    rw [e]
    obtain ⟨m1, m2, m3, m4⟩ := lr_some G h3
    refine ⟨m1, by simp only; omega, by simp only; omega, by simp only; omega, m3, fun x y k1 k2 k3 k4 k5 => ?_⟩
    cases hx : lr L R x with
    | none => rw [lr_none hx y k4 k5] at k1; cases k1
    | some r' =>
      obtain ⟨n1, n2, n3, n4⟩ := lr_some G hx
      have := h4 x.toNat r' (by omega) (by omega) (by rw [show ((x.toNat : Nat) : Int) = x by omega]; exact hx)
      have := n4 y k1 k4
      simp only
      omega

def fewVal (L R : List Int) : (Int × Int × Bool × Unit) × Unit := if good L R = true then (if (bst L R L.sum.toNat).1 < 0 then ((0, 0, false, ()), ()) else (((bst L R L.sum.toNat).1, (bst L R L.sum.toNat).2, true, ()), ())) else ((0, 0, false, ()), ())
theorem bst_bound {L R : List Int} (G : Good L R) (j : Nat) (hj : (j : Int) ≤ L.sum) : -1 ≤ (bst L R j).1 ∧ (bst L R j).1 ≤ 160 ∧ 0 ≤ (bst L R j).2 ∧ (bst L R j).2 ≤ 160 := by
  have := G.l8
  have := G.len
  have b1 := sum_bound G.inL
  have b2 := sum_bound G.inR
  induction j with
  | zero => simp [bst]
  | succ j ih =>
    have ih := ih (by omega)
    simp only [bst]
    split
    · rename_i hc
      have h1 := hc.1
      unfold lrI at h1 ⊢
      cases hl : lr L R ((j + 1 : Nat) : Int) with
      | none => rw [hl] at h1; simp only at h1; omega
      | some r =>
        have := (lr_some G hl).2.2.1
        simp only
        omega
    · exact ih
theorem implFew_is (k : Nat) (hk : 1000 ≤ k) (L R : List Int) (hL : L.length ≤ 10) (hR : R.length ≤ 10) : impl_FewestByHand_f k (L, R) = some (fewVal L R) := by
  unfold impl_FewestByHand_f fewVal
  rw [areGloves_is k (by omega) L R hL hR]
  simp only [Option.bind_some]
  cases hg : good L R with
  | false => rfl
  | true =>
    have G := good_is hg
    have := G.l8
    have := G.len
    have b1 := sum_bound G.inL
    have b2 := sum_bound G.inR
    simp only [Bool.not_true, cond_false, if_true]
    have h : impl_FewestByHand_l1 k (L, R, ()) (-1) 0 1 = some (.inl ((bst L R L.sum.toNat).1, (bst L R L.sum.toNat).2, ())) := by
      unfold impl_FewestByHand_l1
      refine iter_to (fun j => ((L, R, ()), (bst L R j).1, (bst L R j).2, ((j + 1 : Nat) : Int), ())) L.sum.toNat _ (fun j hj rec => ?_) (fun rec => ?_) k (by omega)
      · have bb := bst_bound G j (by omega)
        have hl : -1 ≤ lrI L R ((j + 1 : Nat) : Int) ∧ lrI L R ((j + 1 : Nat) : Int) ≤ 160 := by
          unfold lrI
          cases hl : lr L R ((j + 1 : Nat) : Int) with
          | none => simp
          | some r => have := (lr_some G hl).2.2.1; simp only; omega
        simp only [impl_FewestByHand_l1_b, total_is k L (by omega) (by omega), sumW_is G.inL (by omega), Option.bind_some]
        rw [cond_dec, if_pos (by omega), leastRights_is k hk G _ (by omega) (by omega)]
        simp only [Option.bind_some, cond_dec, bst]
        rw [iw_id (x := ((j + 1 : Nat) : Int) + lrI L R ((j + 1 : Nat) : Int)) (by omega) (by omega), iw_id (x := (bst L R j).1 + (bst L R j).2) (by omega) (by omega), iw_id (x := ((j + 1 : Nat) : Int) + 1) (by omega) (by omega)]
        generalize lrI L R ((j + 1 : Nat) : Int) = a at hl ⊢
        by_cases c1 : a ≥ 0
        · rw [if_pos c1]
          by_cases c2 : (bst L R j).1 < 0
          · rw [if_pos c2, if_pos ⟨c1, .inl c2⟩]; rfl
          · rw [if_neg c2]
            by_cases c3 : ((j + 1 : Nat) : Int) + a < (bst L R j).1 + (bst L R j).2
            · rw [if_pos ⟨c1, .inr c3⟩]; simp only [met_inl, cond_dec, if_pos c3]; rfl
            · rw [if_neg (fun h => h.2.elim c2 c3)]; simp only [met_inl, cond_dec, if_neg c3]; rfl
        · rw [if_neg c1, if_neg (fun h => c1 h.1)]; rfl
      · simp only [impl_FewestByHand_l1_b, total_is k L (by omega) (by omega), sumW_is G.inL (by omega), Option.bind_some]
        rw [cond_dec, if_neg (by omega)]
    rw [h]
    simp only [met_inl, cond_dec]
    split <;> rfl
def inn (L R : List Int) (A B n : Nat) : Option Nat := first (fun l => safe L R (l : Int) ((n : Int) - l)) (max 1 (n - B)) (min (A + 1) n - max 1 (n - B))
def fo (L R : List Int) (A B : Nat) : Nat → Nat → Option (Nat × Nat)
  | _, 0 => none
  | n, d + 1 => match inn L R A B n with
    | some l => some (l, n - l)
    | none => fo L R A B (n + 1) d
theorem fo_best {L R : List Int} {A B : Nat} (hA : (A : Int) = L.sum) (hB : (B : Int) = R.sum) : ∀ (d n : Nat), n + d = A + B + 1 → (∀ x y, safe L R x y = true → 1 ≤ x → x ≤ L.sum → 1 ≤ y → y ≤ R.sum → (n : Int) ≤ x + y) →
    (fo L R A B n d = none ∧ NoBest L R) ∨ ∃ l r : Nat, fo L R A B n d = some (l, r) ∧ Best L R l r
  | 0, n, hn, hs => .inl ⟨rfl, fun x y h1 h2 h3 h4 h5 => by have := hs x y h1 h2 h3 h4 h5; omega⟩
  | d + 1, n, hn, hs => by
    simp only [fo]
    cases hi : inn L R A B n with
    | some l =>
      obtain ⟨k1, k2, k3, k4⟩ := first_some _ _ _ _ hi
      refine .inr ⟨l, n - l, rfl, ?_⟩
      have e : ((n - l : Nat) : Int) = (n : Int) - l := by omega
      refine ⟨by rw [e]; exact k3, by omega, by omega, by omega, by omega, fun x y h1 h2 h3 h4 h5 => ?_⟩
      have h6 := hs x y h1 h2 h3 h4 h5
      refine ⟨by omega, fun h7 => ?_⟩
      rcases Int.lt_or_le x l with h8 | h8
      · have := k4 x.toNat (by omega) (by omega)
        rw [show ((x.toNat : Nat) : Int) = x by omega, show (n : Int) - x = y by omega, h1] at this
        cases this
      · exact h8
    | none =>
      refine fo_best hA hB d (n + 1) (by omega) fun x y h1 h2 h3 h4 h5 => ?_
      have h6 := hs x y h1 h2 h3 h4 h5
      rcases Int.lt_or_le (n : Int) (x + y) with h8 | h8
      · omega
      · have := first_none _ _ _ hi x.toNat (by omega) (by omega)
        rw [show ((x.toNat : Nat) : Int) = x by omega, show (n : Int) - x = y by omega, h1] at this
        cases this
abbrev IR := (GT × Unit) ⊕ ((GT × Unit) ⊕ (Unit ⊕ ((Int × Int × Bool × Unit) × Unit)))
def innRes (L R : List Int) (n : Nat) : Option Nat → Option IR
  | none => some (.inl ((L, R, ()), ()))
  | some l => some (.inr (.inr (.inr (((l : Int), (n : Int) - l, true, ()), ()))))
theorem inner_is (k : Nat) (hk : 1000 ≤ k) {L R : List Int} (G : Good L R) (A B n : Nat) (hA : (A : Int) = L.sum) (hB : (B : Int) = R.sum) (hn : n ≤ A + B) :
    spec_FewestByHand_l2 k (((A : Int), ()), ()) (n : Int) (L, R, ()) ((max 1 (n - B) : Nat) : Int) = innRes L R n (inn L R A B n) := by
  have := G.l8
  have := G.len
  have b1 := sum_bound G.inL
  have b2 := sum_bound G.inR
  unfold spec_FewestByHand_l2 inn
  refine (iter_up (fun i => ((L, R, ()), ((max 1 (n - B) + i : Nat) : Int), ())) (fun i => innRes L R n (first (fun l => safe L R (l : Int) ((n : Int) - l)) (max 1 (n - B) + i) (min (A + 1) n - max 1 (n - B) - i))) (min (A + 1) n - max 1 (n - B)) (fun i hi => ?_) k 0 (Nat.zero_le _) (by omega))
  generalize hm : max 1 (n - B) = m at hi ⊢
  have hm' : 1 ≤ m := by omega
  have e : ∀ rec : (GT × Int × Unit) → Option IR, spec_FewestByHand_l2_b k (((A : Int), ()), ()) (n : Int) (fun x1_1 x8 => rec (x1_1, x8, ())) (L, R, ()) ((m + i : Nat) : Int) = if m + i < min (A + 1) n then (if safe L R ((m + i : Nat) : Int) ((n : Int) - ((m + i : Nat) : Int)) = true then some (.inr (.inr (.inr ((((m + i : Nat) : Int), (n : Int) - ((m + i : Nat) : Int), true, ()), ())))) else rec ((L, R, ()), ((m + i + 1 : Nat) : Int), ())) else some (.inl ((L, R, ()), ())) := fun rec => by
    simp only [spec_FewestByHand_l2_b, cond_dec]
    by_cases c1 : ((m + i : Nat) : Int) ≤ (A : Int)
    · rw [if_pos c1]
      simp only [met_inl, cond_dec]
      by_cases c2 : ((m + i : Nat) : Int) < (n : Int)
      · rw [if_pos c2, if_pos (by omega), iw_id (by omega) (by omega), gvSafe_is k (by omega) G _ _ (by omega) (by omega) (by omega) (by omega), iw_nat (by omega)]
        simp only [Option.bind_some]
        cases safe L R ((m + i : Nat) : Int) ((n : Int) - ((m + i : Nat) : Int)) <;> rfl
      · rw [if_neg c2, if_neg (by omega)]
    · rw [if_neg c1, if_neg (by omega)]; rfl
  simp only [e]
  by_cases c : m + i < min (A + 1) n
  · simp only [if_pos c]
    rw [show min (A + 1) n - m - i = (min (A + 1) n - m - (i + 1)) + 1 by omega]
    simp only [first]
    by_cases hs : safe L R ((m + i : Nat) : Int) ((n : Int) - ((m + i : Nat) : Int)) = true
    · simp only [if_pos hs]; exact .inl fun _ => rfl
    · simp only [if_neg hs]; exact .inr ⟨by omega, by trivial, fun _ => by trivial⟩
  · simp only [if_neg c]
    rw [show min (A + 1) n - m - i = 0 by omega]
    exact .inl fun _ => rfl
def foOut : Option (Nat × Nat) → (Int × Int × Bool × Unit) × Unit
  | none => ((0, 0, false, ()), ())
  | some (l, r) => (((l : Int), (r : Int), true, ()), ())

theorem specFew_is (k : Nat) (hk : 1000 ≤ k) (L R : List Int) (hL : L.length ≤ 10) (hR : R.length ≤ 10) : spec_FewestByHand_f k (L, R) = some (fewVal L R) := by
  unfold spec_FewestByHand_f fewVal
  rw [gvGood_is k (by omega) L R hL hR]
  simp only [Option.bind_some]
  cases hg : good L R with
  | false => rfl
  | true =>
    have G := good_is hg
    have := G.l8
    have := G.len
    have := G.pos
    have b1 := sum_bound G.inL
    have b2 := sum_bound G.inR
    obtain ⟨A, hA⟩ : ∃ A : Nat, (A : Int) = L.sum := ⟨L.sum.toNat, by omega⟩
    obtain ⟨B, hB⟩ : ∃ B : Nat, (B : Int) = R.sum := ⟨R.sum.toNat, by omega⟩
    simp only [Bool.not_true, cond_false, if_true, soSum_is k L (by omega) (by omega), soSum_is k R (by omega) (by omega), sumW_is G.inL (by omega), sumW_is G.inR (by omega), Option.bind_some]
    rw [← hA, ← hB]
    have h : met (spec_FewestByHand_l1 k (((A : Int), ()), ()) (((B : Int), ()), ()) (L, R, ()) 2) (fun _ => some ((0, 0, false, ()), ())) = some (foOut (fo L R A B 2 (A + B - 1))) := by
      unfold spec_FewestByHand_l1
      rw [show (2 : Int) = ((0 + 2 : Nat) : Int) from rfl]
      refine (iter_met (fun j => ((L, R, ()), ((j + 2 : Nat) : Int), ())) (fun j => some (foOut (fo L R A B (j + 2) (A + B - 1 - j)))) (A + B - 1) (fun j hj => ?_) k 0 (Nat.zero_le _) (by omega)).trans (by rw [Nat.sub_zero, Nat.zero_add])
      by_cases c : j < A + B - 1
      · have e : ∀ rec : (GT × Int × Unit) → Option (Unit ⊕ ((Int × Int × Bool × Unit) × Unit)), spec_FewestByHand_l1_b k (((A : Int), ()), ()) (((B : Int), ()), ()) (fun x1 x7 => rec (x1, x7, ())) (L, R, ()) ((j + 2 : Nat) : Int) = match inn L R A B (j + 2) with
          | some l => some (.inr (((l : Int), ((j + 2 : Nat) : Int) - l, true, ()), ()))
          | none => rec ((L, R, ()), ((j + 2 + 1 : Nat) : Int), ()) := fun rec => by
          simp only [spec_FewestByHand_l1_b]
          rw [cond_dec, iw_id (x := (A : Int) + B) (by omega) (by omega), if_pos (by omega), iw_id (x := ((j + 2 : Nat) : Int) - B) (by omega) (by omega), iw_nat (by omega)]
          have hm : spec_l1Most_f k 1 (((j + 2 : Nat) : Int) - B) = some ((((max 1 (j + 2 - B) : Nat) : Int), ()), ()) := by
            unfold spec_l1Most_f
            rw [cond_dec]
            split
            · rw [show max 1 (j + 2 - B) = 1 by omega]; rfl
            · rw [show ((max 1 (j + 2 - B) : Nat) : Int) = ((j + 2 : Nat) : Int) - B by omega]
          rw [hm]
          simp only [Option.bind_some, inner_is k hk G A B (j + 2) hA hB (by omega)]
          cases inn L R A B (j + 2) <;> rfl
        rw [show A + B - 1 - j = (A + B - 1 - (j + 1)) + 1 by omega]
        simp only [e, fo]
        cases hi : inn L R A B (j + 2) with
        | some l =>
          obtain ⟨k1, k2, k3, k4⟩ := first_some _ _ _ _ hi
          refine .inl fun _ => ?_
          simp only [met_inr, foOut]
          rw [show ((j + 2 - l : Nat) : Int) = ((j + 2 : Nat) : Int) - l by omega]
        | none => exact .inr ⟨c, rfl, fun _ => rfl⟩
      · refine .inl fun rec => ?_
        simp only [spec_FewestByHand_l1_b]
        rw [cond_dec, iw_id (x := (A : Int) + B) (by omega) (by omega), if_neg (by omega), show A + B - 1 - j = 0 by omega]
        rfl
    rw [h]
    have hbest := fo_best (L := L) (R := R) hA hB (A + B - 1) 2 (by omega) (fun x y _ h1 _ h2 _ => by omega)
    have hA' : (A : Int).toNat = A := by omega
    have hb := bst_best G
    rw [← hA, hA'] at hb
    rw [hA']
    rcases hbest with ⟨h1, h2⟩ | ⟨l, r, h1, h2⟩
    · rw [h1]
      rcases hb with ⟨h3, _⟩ | h3
      · rw [if_pos h3]; rfl
      · exact (h2 _ _ h3.ok h3.x0 h3.x1 h3.y0 h3.y1).elim
    · rw [h1]
      rcases hb with ⟨_, h3⟩ | h3
      · exact (h3 _ _ h2.ok h2.x0 h2.x1 h2.y0 h2.y1).elim
      · have e := h2.uniq h3
        rw [if_neg (by have := h3.x0; omega), ← e.1, ← e.2]; rfl
/-! ### Pairs for sure -/
theorem min2_least (x y : Int) (k : Nat) : spec_l1Least_f k x y = some ((min2 x y, ()), ()) := by
  unfold spec_l1Least_f min2
  rw [cond_dec]
  by_cases h : x < y
  · rw [if_pos h, if_neg (by omega)]
  · rw [if_neg h]
    split
    · rfl
    · rw [show x = y by omega]
def colourOk (L R : List Int) (c : Int) : Bool := good L R && (decide (0 ≤ c) && decide (c ≤ iw ((L.length : Int) - 1)))
def sureVal (L R : List Int) (c : Int) : (Int × Bool × Unit) × Unit := if colourOk L R c = true then (if (min2 (rd L c) (rd R c) == 0) = true then ((0, false, ()), ()) else ((iw (iw (iw (sumW L + sumW R) - min2 (rd L c) (rd R c)) + 1), true, ()), ())) else ((0, false, ()), ())
theorem colourOk_is {L R : List Int} {c : Int} (h : colourOk L R c = true) : Good L R ∧ 0 ≤ c ∧ c < L.length := by
  unfold colourOk at h
  simp only [Bool.and_eq_true, decide_eq_true_eq] at h
  have G := good_is h.1
  have := G.l8
  rw [iw_id (by omega) (by omega)] at h
  exact ⟨G, h.2.1, by omega⟩
theorem implSure_is (k : Nat) (hk : 1000 ≤ k) (L R : List Int) (hL : L.length ≤ 10) (hR : R.length ≤ 10) (c : Int) : impl_SurePairOfColour_f k (L, R) c = some (sureVal L R c) := by
  unfold impl_SurePairOfColour_f sureVal
  have e := @colourOk_is L R c
  unfold colourOk at e ⊢
  simp only [areGloves_is k (by omega) L R hL hR, Option.bind_some, within_is, total_is k L (by omega) (by omega), total_is k R (by omega) (by omega)]
  cases hg : good L R with
  | false => rfl
  | true =>
    rw [hg] at e
    cases hl : (decide (0 ≤ c) && decide (c ≤ iw ((L.length : Int) - 1))) with
    | false => rfl
    | true =>
      rw [hl] at e
      obtain ⟨G, h0, h1⟩ := e rfl
      have := G.len
      simp only [Bool.not_true, cond_false, Bool.true_and, if_true]
      rw [ixk_in h0 (by omega), ixk_in h0 (by omega)]
      simp only [met_inl]
      cases hm : (min2 (rd L c) (rd R c) == 0) with
      | true => rfl
      | false =>
        simp only [cond_false]
        rw [ixk_in h0 (by omega), ixk_in h0 (by omega)]
        simp only [total_is k L (by omega) (by omega), total_is k R (by omega) (by omega), Option.bind_some]
        rfl
theorem specSure_is (k : Nat) (hk : 1000 ≤ k) (L R : List Int) (hL : L.length ≤ 10) (hR : R.length ≤ 10) (c : Int) : spec_SurePairOfColour_f k (L, R) c = some (sureVal L R c) := by
  unfold spec_SurePairOfColour_f spec_gvColour_f sureVal
  have e := @colourOk_is L R c
  unfold colourOk at e ⊢
  simp only [gvGood_is k (by omega) L R hL hR, Option.bind_some, l1In_is, soSum_is k L (by omega) (by omega), soSum_is k R (by omega) (by omega), min2_least]
  cases hg : good L R with
  | false => rfl
  | true =>
    rw [hg] at e
    cases hl : (decide (0 ≤ c) && decide (c ≤ iw ((L.length : Int) - 1))) with
    | false => rfl
    | true =>
      rw [hl] at e
      obtain ⟨G, h0, h1⟩ := e rfl
      have := G.len
      simp only [Bool.not_true, cond_false, Bool.true_and, if_true, cond_true, met_inl, Option.bind_some]
      rw [ixk_in h0 (by omega), ixk_in h0 (by omega)]
      cases hm : (min2 (rd L c) (rd R c) == 0) <;> rfl
def handOut (own other m : Int) : (Int × Bool × Unit) × Unit := cond (decide (1 ≤ m) && decide (m ≤ own)) ((iw (other + m), true, ()), ()) ((0, false, ()), ())
def handVal (L R : List Int) (b : Bool) (m : Int) : (Int × Bool × Unit) × Unit := cond (good L R) (cond b (handOut (sumW R) (sumW L) m) (handOut (sumW L) (sumW R) m)) ((0, false, ()), ())
theorem implHand_is (k : Nat) (hk : 1000 ≤ k) (L R : List Int) (hL : L.length ≤ 10) (hR : R.length ≤ 10) (b : Bool) (m : Int) : impl_SureOfHand_f k (L, R) b m = some (handVal L R b m) := by
  unfold impl_SureOfHand_f handVal
  simp only [areGloves_is k (by omega) L R hL hR, Option.bind_some, within_is, total_is k L (by omega) (by omega), total_is k R (by omega) (by omega)]
  cases good L R with
  | false => rfl
  | true => cases b with
    | false =>
      simp only [Bool.not_true, cond_true, cond_false, met_inl, handOut]
      cases (decide (1 ≤ m) && decide (m ≤ sumW L)) <;> rfl
    | true =>
      simp only [Bool.not_true, cond_false, cond_true, met_inl, handOut]
      cases (decide (1 ≤ m) && decide (m ≤ sumW R)) <;> rfl
theorem specHand_is (k : Nat) (hk : 1000 ≤ k) (L R : List Int) (hL : L.length ≤ 10) (hR : R.length ≤ 10) (b : Bool) (m : Int) : spec_SureOfHand_f k (L, R) b m = some (handVal L R b m) := by
  unfold spec_SureOfHand_f handVal
  simp only [gvGood_is k (by omega) L R hL hR, Option.bind_some, l1In_is, soSum_is k L (by omega) (by omega), soSum_is k R (by omega) (by omega)]
  cases good L R with
  | false => rfl
  | true => cases b with
    | false =>
      simp only [Bool.not_true, cond_true, cond_false, met_inl, handOut]
      cases (decide (1 ≤ m) && decide (m ≤ sumW L)) <;> rfl
    | true =>
      simp only [Bool.not_true, cond_false, cond_true, met_inl, handOut]
      cases (decide (1 ≤ m) && decide (m ≤ sumW R)) <;> rfl

def dot : ZS → Nat
  | [] => 0
  | (a, b) :: zs => (a * b).toNat + dot zs
def dotW (f : Int → Int → Int) (s : Int) (zs : ZS) : Int := zs.foldl (fun s p => iw (s + f p.1 p.2)) s
theorem dotW_snoc (f : Int → Int → Int) (zs : ZS) (j : Nat) (h : j < zs.length) : dotW f 0 (zs.take (j + 1)) = iw (dotW f 0 (zs.take j) + f (zs[j].1) (zs[j].2)) := by
  unfold dotW
  rw [List.take_succ_eq_append_getElem h, List.foldl_append]; rfl
theorem mul_bound {a b : Int} (ha : 0 ≤ a ∧ a ≤ 20) (hb : 0 ≤ b ∧ b ≤ 20) : 0 ≤ a * b ∧ a * b ≤ 400 :=
  ⟨Int.mul_nonneg ha.1 hb.1, Int.le_trans (Int.mul_le_mul ha.2 hb.2 hb.1 (by omega)) (by omega)⟩
theorem dotW_is : ∀ (zs : ZS) (s : Int), (∀ p ∈ zs, (0 ≤ p.1 ∧ p.1 ≤ 20) ∧ 0 ≤ p.2 ∧ p.2 ≤ 20) → 0 ≤ s → s + 400 * zs.length ≤ 1000000 → dotW (fun a b => iw (a * b)) s zs = s + dot zs
  | [], s, _, _, _ => by simp [dotW, dot]
  | (a, b) :: zs, s, h, h0, h1 => by
    have hp := h (a, b) (by simp)
    have hm := mul_bound hp.1 hp.2
    simp only [List.length_cons] at h1
    show dotW (fun a b => iw (a * b)) (iw (s + iw (a * b))) zs = s + ((a * b).toNat + dot zs : Nat)
    generalize a * b = c at hm ⊢
    rw [iw_id (x := c) (by omega) (by omega), iw_id (by omega) (by omega), dotW_is zs (s + c) (fun p hp => h p (by simp [hp])) (by omega) (by omega)]
    omega
theorem dot_bound : ∀ (zs : ZS), (∀ p ∈ zs, (0 ≤ p.1 ∧ p.1 ≤ 20) ∧ 0 ≤ p.2 ∧ p.2 ≤ 20) → dot zs ≤ 400 * zs.length
  | [], _ => by simp [dot]
  | (a, b) :: zs, h => by
    have hp := h (a, b) (by simp)
    have hm := mul_bound hp.1 hp.2
    have := dot_bound zs fun p hp => h p (by simp [hp])
    simp only [dot, List.length_cons]
    generalize a * b = c at hm ⊢
    omega
section
variable {L R : List Int} (G : Good L R)
include G
theorem zip_in : ∀ p ∈ L.zip R, (0 ≤ p.1 ∧ p.1 ≤ 20) ∧ 0 ≤ p.2 ∧ p.2 ≤ 20 := fun p hp => by
  obtain ⟨h1, h2⟩ := List.of_mem_zip hp
  exact ⟨G.inL _ h1, G.inR _ h2⟩
theorem product_is (k : Nat) (hk : 1000 ≤ k) : impl_Gloves_product_f k (L, R) = some (((dot (L.zip R) : Int), ()), ()) := by
  have := G.l8
  have := G.len
  have hz := zip_len G
  unfold impl_Gloves_product_f impl_Gloves_both__204_f
  have h : impl_Gloves_both__204_l1 k (L, R) (L, R, ()) 0 0 = some (.inl ((dot (L.zip R) : Int), ())) := by
    unfold impl_Gloves_both__204_l1
    refine iter_to (fun j => ((L, R, ()), dotW (fun a b => iw (a * b)) 0 ((L.zip R).take j), (j : Int), ())) L.length _ (fun j hj rec => ?_) (fun rec => ?_) k (by omega)
    · simp only [impl_Gloves_both__204_l1_b, impl_Gloves_product_1_f, Option.bind_some]
      rw [cond_dec, if_pos (by omega), ixk_in (by omega) (by omega), ixk_in (by omega) (by omega), iw_nat (by omega), rd_nat L j hj, rd_nat R j (by omega), dotW_snoc _ _ j (by omega)]
      simp only [List.getElem_zip]
    · simp only [impl_Gloves_both__204_l1_b]
      rw [cond_dec, if_neg (by omega), List.take_of_length_le (by omega), dotW_is _ 0 (zip_in G) (by omega) (by omega), Int.zero_add]
  rw [h]; rfl
theorem gvTwo_is (k : Nat) (hk : 1000 ≤ k) : spec_gvTwo_f k (L, R) = some (((dot (L.zip R) : Int), ()), ()) := by
  have := G.l8
  have := G.len
  have hz := zip_len G
  unfold spec_gvTwo_f
  have h : spec_gvTwo_l1 k (L, R) (L, R, ()) 0 0 = some (.inl ((dot (L.zip R) : Int), ())) := by
    unfold spec_gvTwo_l1
    refine iter_to (fun j => ((L, R, ()), dotW (fun a b => iw (a * b)) 0 ((L.zip R).take j), (j : Int), ())) L.length _ (fun j hj rec => ?_) (fun rec => ?_) k (by omega)
    · simp only [spec_gvTwo_l1_b]
      rw [cond_dec, if_pos (by omega), ixk_in (by omega) (by omega), ixk_in (by omega) (by omega), iw_nat (by omega), rd_nat L j hj, rd_nat R j (by omega), dotW_snoc _ _ j (by omega)]
      simp only [List.getElem_zip]
    · simp only [spec_gvTwo_l1_b]
      rw [cond_dec, if_neg (by omega), List.take_of_length_le (by omega), dotW_is _ 0 (zip_in G) (by omega) (by omega), Int.zero_add]
  rw [h]; rfl
end
theorem gcd_loop {α : Type} {F : (Int × Int × Unit → Option ((Int × Unit) ⊕ α)) → Int × Int × Unit → Option ((Int × Unit) ⊕ α)}
    (h0 : ∀ rec (a : Int), F rec (a, 0, ()) = some (.inl (a, ()))) (h1 : ∀ rec (a : Int) (b : Nat), 0 < b → F rec (a, (b : Int), ()) = rec ((b : Int), Int.tmod a b, ())) :
    ∀ (i a b : Nat), b < i → iter i F ((a : Int), (b : Int), ()) = some (.inl ((Nat.gcd a b : Int), ())) := by
  intro i
  induction i with
  | zero => intro a b h; omega
  | succ i ih =>
    intro a b h
    show F (iter i F) _ = _
    rcases Nat.eq_zero_or_pos b with rfl | hb
    · rw [show ((0 : Nat) : Int) = 0 from rfl, h0, Nat.gcd_zero_right]
    · have e : Int.tmod (a : Int) (b : Int) = ((a % b : Nat) : Int) := by rw [Int.tmod_eq_emod_of_nonneg (by omega)]; rfl
      have := Nat.mod_lt a hb
      rw [h1 _ _ _ hb, e, ih b (a % b) (by omega), Nat.gcd_comm a b, Nat.gcd_rec b a, Nat.gcd_comm]
theorem gcd_is (k a b : Nat) (h : b < k) : impl_gcd_f k a b = some (((Nat.gcd a b : Int), ()), ()) := by
  unfold impl_gcd_f impl_gcd_l1
  rw [gcd_loop (fun rec a => rfl) (fun rec a b hb => ?_) k a b h]
  · rfl
  · simp only [impl_gcd_l1_b]
    have : ((b : Int) == 0) = false := by simp; omega
    rw [bne, this]; rfl
def chOut (w d : Nat) : (Int × Int × Bool × Unit) × Unit := ((((w / Nat.gcd w d : Nat) : Int), ((d / Nat.gcd w d : Nat) : Int), true, ()), ())
theorem fraction_is (k w d : Nat) (h : d < k) (hd : 0 < d) (hw : w < 1000000) (hd' : d < 1000000) : impl_fraction_f k (w : Int) (d : Int) = some (chOut w d) := by
  unfold impl_fraction_f
  rw [gcd_is k w d h]
  have hg : 0 < Nat.gcd w d := Nat.gcd_pos_of_pos_right _ hd
  simp only [Option.bind_some]
  have e : ((Nat.gcd w d : Int) == 0) = false := by simp; omega
  have q1 := Nat.div_le_self w (Nat.gcd w d)
  have q2 := Nat.div_le_self d (Nat.gcd w d)
  have t : ∀ x : Nat, Int.tdiv (x : Int) (Nat.gcd w d : Int) = ((x / Nat.gcd w d : Nat) : Int) := fun x => by rw [Int.tdiv_eq_ediv_of_nonneg (by omega)]; rfl
  unfold chOut
  rw [e, t, t]
  generalize w / Nat.gcd w d = x at q1 ⊢
  generalize d / Nat.gcd w d = y at q2 ⊢
  rw [iw_id (by omega) (by omega), iw_id (by omega) (by omega)]
  rfl
theorem gvLow_is (k w d : Nat) (h : d < k) (hd : 0 < d) (hw : w < 1000000) (hd' : d < 1000000) : spec_gvLow_f k (w : Int) (d : Int) = some (((((w / Nat.gcd w d : Nat) : Int), ((d / Nat.gcd w d : Nat) : Int), ()), ())) := by
  unfold spec_gvLow_f spec_gvLow_l1
  rw [gcd_loop (fun rec a => rfl) (fun rec a b hb => ?_) k w d h]
  · have hg : 0 < Nat.gcd w d := Nat.gcd_pos_of_pos_right _ hd
    simp only [met_inl]
    have e : ((Nat.gcd w d : Int) == 0) = false := by simp; omega
    have q1 := Nat.div_le_self w (Nat.gcd w d)
    have q2 := Nat.div_le_self d (Nat.gcd w d)
    have t : ∀ x : Nat, Int.tdiv (x : Int) (Nat.gcd w d : Int) = ((x / Nat.gcd w d : Nat) : Int) := fun x => by rw [Int.tdiv_eq_ediv_of_nonneg (by omega)]; rfl
    rw [e, t, t]
    generalize w / Nat.gcd w d = x at q1 ⊢
    generalize d / Nat.gcd w d = y at q2 ⊢
    rw [iw_id (by omega) (by omega), iw_id (by omega) (by omega)]
    rfl
  · simp only [spec_gvLow_l1_b]
    have : ((b : Int) == 0) = false := by simp; omega
    rw [cond_dec, if_pos (by omega), this]; rfl
/-- A true fraction in lowest terms. -/
theorem mIs_is (k w d : Nat) (h : d < k) (hd : 0 < d) (hw : w < 1000000) (hd' : d < 1000000) : laws_mIs_f k ((w / Nat.gcd w d : Nat) : Int) ((d / Nat.gcd w d : Nat) : Int) (w : Int) (d : Int) = some ((true, ()), ()) := by
  have hg : 0 < Nat.gcd w d := Nat.gcd_pos_of_pos_right _ hd
  have q1 := Nat.div_le_self w (Nat.gcd w d)
  have q2 := Nat.div_le_self d (Nat.gcd w d)
  have q3 : 1 ≤ d / Nat.gcd w d := Nat.div_pos (Nat.le_of_dvd hd (Nat.gcd_dvd_right w d)) hg
  have hc : Nat.gcd (w / Nat.gcd w d) (d / Nat.gcd w d) = 1 := by
    have := Nat.gcd_div (Nat.gcd_dvd_left w d) (Nat.gcd_dvd_right w d)
    rw [this, Nat.div_self hg]
  have hm : ((w / Nat.gcd w d : Nat) : Int) * (d : Int) = (w : Int) * ((d / Nat.gcd w d : Nat) : Int) := by
    obtain ⟨x, hx⟩ := Nat.gcd_dvd_left w d
    obtain ⟨y, hy⟩ := Nat.gcd_dvd_right w d
    have e1 : w / Nat.gcd w d = x := by
      conv => lhs; lhs; rw [hx]
      exact Nat.mul_div_cancel_left x hg
    have e2 : d / Nat.gcd w d = y := by
      conv => lhs; lhs; rw [hy]
      exact Nat.mul_div_cancel_left y hg
    rw [e1, e2]
    have : x * d = w * y := by
      conv => lhs; rw [hy]
      conv => rhs; lhs; rw [hx]
      rw [Nat.mul_left_comm, Nat.mul_assoc]
    exact_mod_cast this
  unfold laws_mIs_f
  generalize w / Nat.gcd w d = x at q1 hc hm ⊢
  generalize d / Nat.gcd w d = y at q2 q3 hc hm ⊢
  rw [cond_dec, if_neg (by omega), cond_dec, if_neg (by omega), hm]
  simp only [bne_self_eq_false, met_inl, cond_false]
  unfold laws_mIs_l2
  rw [gcd_loop (fun rec a => rfl) (fun rec a b hb => ?_) k _ _ (by omega), hc]
  · rfl
  · simp only [laws_mIs_l2_b]
    have : ((b : Int) == 0) = false := by simp; omega
    rw [cond_dec, if_pos (by omega), this]; rfl

theorem sums_nat {L R : List Int} (G : Good L R) : ∃ A B : Nat, (A : Int) = L.sum ∧ (B : Int) = R.sum ∧ sumW L = (A : Int) ∧ sumW R = (B : Int) ∧ A ≤ 160 ∧ B ≤ 160 ∧ 0 < A + B := by
  have := G.l8
  have := G.len
  have := G.pos
  have b1 := sum_bound G.inL
  have b2 := sum_bound G.inR
  refine ⟨L.sum.toNat, R.sum.toNat, by omega, by omega, ?_, ?_, by omega, by omega, by omega⟩
  · rw [sumW_is G.inL (by omega)]; omega
  · rw [sumW_is G.inR (by omega)]; omega
theorem dot_small {L R : List Int} (G : Good L R) : dot (L.zip R) ≤ 3200 := by
  have := dot_bound _ (zip_in G)
  have := zip_len G
  have := G.l8
  omega
def noCh : (Int × Int × Bool × Unit) × Unit := ((0, 0, false, ()), ())
def chHand (L R : List Int) : (Int × Int × Bool × Unit) × Unit := if good L R = true then (if sumW L = 0 ∨ sumW R = 0 then noCh else chOut (dot (L.zip R)) ((sumW L).toNat * (sumW R).toNat)) else noCh
theorem ab_small {A B : Nat} (h1 : A ≤ 160) (h2 : B ≤ 160) : A * B ≤ 25600 := Nat.mul_le_mul h1 h2
theorem implHandCh_is (k : Nat) (hk : 100000 ≤ k) (L R : List Int) (hL : L.length ≤ 10) (hR : R.length ≤ 10) : impl_ChanceByHand_f k (L, R) = some (chHand L R) := by
  unfold impl_ChanceByHand_f chHand
  simp only [areGloves_is k (by omega) L R hL hR, Option.bind_some, total_is k L (by omega) (by omega), total_is k R (by omega) (by omega)]
  cases hg : good L R with
  | false => rfl
  | true =>
    have G := good_is hg
    obtain ⟨A, B, hA, hB, eA, eB, a1, b1, h0⟩ := sums_nat G
    have hd := dot_small G
    have hm := ab_small a1 b1
    rw [eA, eB]
    simp only [Bool.not_true, cond_false, if_true]
    by_cases cA : A = 0
    · subst cA; rfl
    · have : ((A : Int) == 0) = false := by simp; omega
      rw [this]
      simp only [cond_false, met_inl]
      by_cases cB : B = 0
      · subst cB; simp [noCh]
      · have : ((B : Int) == 0) = false := by simp; omega
        rw [this, if_neg (by omega), product_is G k (by omega)]
        simp only [cond_false, Option.bind_some, Int.toNat_natCast, total_is k L (by omega) (by omega), total_is k R (by omega) (by omega), eA, eB]
        have hp : 0 < A * B := Nat.mul_pos (by omega) (by omega)
        rw [show (A : Int) * (B : Int) = ((A * B : Nat) : Int) by exact_mod_cast rfl]
        generalize A * B = d at hm hp ⊢
        rw [iw_id (by omega) (by omega), fraction_is k _ d (by omega) hp (by omega) (by omega)]
        rfl
theorem specHandCh_is (k : Nat) (hk : 100000 ≤ k) (L R : List Int) (hL : L.length ≤ 10) (hR : R.length ≤ 10) : spec_ChanceByHand_f k (L, R) = some (chHand L R) := by
  unfold spec_ChanceByHand_f chHand
  simp only [gvGood_is k (by omega) L R hL hR, Option.bind_some, soSum_is k L (by omega) (by omega), soSum_is k R (by omega) (by omega)]
  cases hg : good L R with
  | false => rfl
  | true =>
    have G := good_is hg
    obtain ⟨A, B, hA, hB, eA, eB, a1, b1, h0⟩ := sums_nat G
    have hd := dot_small G
    have hm := ab_small a1 b1
    rw [eA, eB]
    simp only [Bool.not_true, cond_false, if_true, Int.toNat_natCast]
    rw [show (A : Int) * (B : Int) = ((A * B : Nat) : Int) by exact_mod_cast rfl]
    by_cases c : A = 0 ∨ B = 0
    · have hz : A * B = 0 := by rcases c with rfl | rfl <;> simp
      rw [hz, if_pos (by omega)]
      rfl
    · have hp : 0 < A * B := Nat.mul_pos (by omega) (by omega)
      rw [if_neg (by omega)]
      generalize A * B = d at hm hp ⊢
      rw [iw_id (by omega) (by omega)]
      have : ((d : Int) == 0) = false := by simp; omega
      rw [this, gvTwo_is G k (by omega)]
      simp only [cond_false, Option.bind_some]
      rw [gvLow_is k _ d (by omega) hp (by omega) (by omega)]
      rfl
def pairUp (n : Nat) : Nat := n * (n - 1) / 2
def chTwo (L R : List Int) : (Int × Int × Bool × Unit) × Unit := if good L R = true then (if iw (sumW L + sumW R) < 2 then noCh else chOut (dot (L.zip R)) (pairUp (iw (sumW L + sumW R)).toNat)) else noCh
theorem pairUp_is (n : Nat) (h2 : 2 ≤ n) (h3 : n ≤ 320) : iw (Int.tdiv (iw ((n : Int) * iw ((n : Int) - 1))) 2) = (pairUp n : Int) ∧ 0 < pairUp n ∧ pairUp n < 60000 := by
  have e : (n : Int) * iw ((n : Int) - 1) = ((n * (n - 1) : Nat) : Int) := by
    rw [iw_id (by omega) (by omega), show (n : Int) - 1 = ((n - 1 : Nat) : Int) by omega]
    exact_mod_cast rfl
  have hb : n * (n - 1) ≤ 320 * 319 := Nat.mul_le_mul h3 (by omega)
  have hc : 2 * 1 ≤ n * (n - 1) := Nat.mul_le_mul h2 (by omega)
  unfold pairUp
  rw [e]
  generalize n * (n - 1) = x at hb hc ⊢
  rw [iw_id (x := (x : Int)) (by omega) (by omega), Int.tdiv_eq_ediv_of_nonneg (by omega), iw_id (by omega) (by omega)]
  omega
theorem implTwo_is (k : Nat) (hk : 100000 ≤ k) (L R : List Int) (hL : L.length ≤ 10) (hR : R.length ≤ 10) : impl_ChanceOfGlovePair_f k (L, R) = some (chTwo L R) := by
  unfold impl_ChanceOfGlovePair_f chTwo
  simp only [areGloves_is k (by omega) L R hL hR, Option.bind_some, total_is k L (by omega) (by omega), total_is k R (by omega) (by omega)]
  cases hg : good L R with
  | false => rfl
  | true =>
    have G := good_is hg
    obtain ⟨A, B, hA, hB, eA, eB, a1, b1, h0⟩ := sums_nat G
    have hd := dot_small G
    rw [eA, eB, iw_id (x := (A : Int) + B) (by omega) (by omega), show (A : Int) + (B : Int) = ((A + B : Nat) : Int) by omega]
    generalize hn : A + B = n at *
    simp only [Bool.not_true, cond_false, if_true, met_inl, cond_dec, Int.toNat_natCast]
    split
    · rfl
    · obtain ⟨q1, q2, q3⟩ := pairUp_is n (by omega) (by omega)
      rw [product_is G k (by omega), q1]
      simp only [Option.bind_some]
      rw [fraction_is k _ _ (by omega) q2 (by omega) (by omega)]
      rfl
theorem specTwo_is (k : Nat) (hk : 100000 ≤ k) (L R : List Int) (hL : L.length ≤ 10) (hR : R.length ≤ 10) : spec_ChanceOfGlovePair_f k (L, R) = some (chTwo L R) := by
  unfold spec_ChanceOfGlovePair_f chTwo
  simp only [gvGood_is k (by omega) L R hL hR, Option.bind_some, soSum_is k L (by omega) (by omega), soSum_is k R (by omega) (by omega)]
  cases hg : good L R with
  | false => rfl
  | true =>
    have G := good_is hg
    obtain ⟨A, B, hA, hB, eA, eB, a1, b1, h0⟩ := sums_nat G
    have hd := dot_small G
    rw [eA, eB, iw_id (x := (A : Int) + B) (by omega) (by omega), show (A : Int) + (B : Int) = ((A + B : Nat) : Int) by omega]
    generalize hn : A + B = n at *
    simp only [Bool.not_true, cond_false, if_true, met_inl, cond_dec, Int.toNat_natCast]
    split
    · rfl
    · obtain ⟨q1, q2, q3⟩ := pairUp_is n (by omega) (by omega)
      rw [gvTwo_is G k (by omega), q1]
      simp only [Option.bind_some]
      rw [gvLow_is k _ _ (by omega) q2 (by omega) (by omega)]
      rfl
/-! ### Pairs -/
def pairsN : ZS → Int
  | [] => 0
  | (a, b) :: zs => min2 a b + pairsN zs
theorem min2_in {a b : Int} (ha : 0 ≤ a ∧ a ≤ 20) (hb : 0 ≤ b ∧ b ≤ 20) : 0 ≤ min2 a b ∧ min2 a b ≤ 20 ∧ (min2 a b = 0 → a = 0 ∨ b = 0) := by
  unfold min2; split <;> omega
theorem pairsN_pos : ∀ (zs : ZS), (∀ p ∈ zs, (0 ≤ p.1 ∧ p.1 ≤ 20) ∧ 0 ≤ p.2 ∧ p.2 ≤ 20) → 0 ≤ pairsN zs
  | [], _ => Int.le_refl _
  | (a, b) :: zs, h => by
    have hp := h (a, b) (by simp)
    have hm : 0 ≤ min2 a b ∧ min2 a b ≤ 20 ∧ (min2 a b = 0 → a = 0 ∨ b = 0) := min2_in hp.1 hp.2
    have := pairsN_pos zs fun p hp => h p (by simp [hp])
    simp only [pairsN]; omega
theorem pairs_none : ∀ (zs : ZS) (l r : Int), (∀ p ∈ zs, (0 ≤ p.1 ∧ p.1 ≤ 20) ∧ 0 ≤ p.2 ∧ p.2 ≤ 20) → pairsN zs ≤ 0 → l ≤ sumL zs → r ≤ sumR zs → ex zs l r = true
  | [], l, r, _, _, h1, h2 => by
    replace h1 : l ≤ 0 := h1
    replace h2 : r ≤ 0 := h2
    simp [ex, h1, h2]
  | (a, b) :: zs, l, r, h, h0, h1, h2 => by
    have hp := h (a, b) (by simp)
    have hm : 0 ≤ min2 a b ∧ min2 a b ≤ 20 ∧ (min2 a b = 0 → a = 0 ∨ b = 0) := min2_in hp.1 hp.2
    have hn := pairsN_pos zs fun p hp => h p (by simp [hp])
    replace h1 : l ≤ a + sumL zs := h1
    replace h2 : r ≤ b + sumR zs := h2
    simp only [pairsN] at h0
    simp only [ex, Bool.or_eq_true]
    rcases hm.2.2 (by omega) with h3 | h3
    · right; exact pairs_none zs l (r - b) (fun p hp => h p (by simp [hp])) (by omega) (by omega) (by omega)
    · left; exact pairs_none zs (l - a) r (fun p hp => h p (by simp [hp])) (by omega) (by omega) (by omega)
theorem dotW_min : ∀ (zs : ZS) (s : Int), (∀ p ∈ zs, (0 ≤ p.1 ∧ p.1 ≤ 20) ∧ 0 ≤ p.2 ∧ p.2 ≤ 20) → 0 ≤ s → s + 20 * zs.length ≤ 1000000 → dotW min2 s zs = s + pairsN zs
  | [], s, _, _, _ => by simp [dotW, pairsN]
  | (a, b) :: zs, s, h, h0, h1 => by
    have hp := h (a, b) (by simp)
    have hm : 0 ≤ min2 a b ∧ min2 a b ≤ 20 ∧ (min2 a b = 0 → a = 0 ∨ b = 0) := min2_in hp.1 hp.2
    simp only [List.length_cons] at h1
    show dotW min2 (iw (s + min2 a b)) zs = s + (min2 a b + pairsN zs)
    rw [iw_id (by omega) (by omega), dotW_min zs _ (fun p hp => h p (by simp [hp])) (by omega) (by omega)]
    omega
theorem pairs_is (k : Nat) (hk : 1000 ≤ k) {L R : List Int} (G : Good L R) : impl_PairsOfGloves_f k (L, R) = some ((pairsN (L.zip R), true, ()), ()) := by
  have := G.l8
  have := G.len
  have hz := zip_len G
  unfold impl_PairsOfGloves_f
  rw [areGloves_is k (by omega) L R (by omega) (by omega), good_true G]
  simp only [Option.bind_some, Bool.not_true, cond_false]
  unfold impl_Gloves_pairs_f impl_Gloves_both__205_f
  have h : impl_Gloves_both__205_l1 k (L, R) (L, R, ()) 0 0 = some (.inl (pairsN (L.zip R), ())) := by
    unfold impl_Gloves_both__205_l1
    refine iter_to (fun j => ((L, R, ()), dotW min2 0 ((L.zip R).take j), (j : Int), ())) L.length _ (fun j hj rec => ?_) (fun rec => ?_) k (by omega)
    · simp only [impl_Gloves_both__205_l1_b, impl_Gloves_pairs_1_f, Option.bind_some]
      rw [cond_dec, if_pos (by omega), ixk_in (by omega) (by omega), ixk_in (by omega) (by omega), iw_nat (by omega), rd_nat L j hj, rd_nat R j (by omega), dotW_snoc _ _ j (by omega)]
      simp only [List.getElem_zip]
    · simp only [impl_Gloves_both__205_l1_b]
      rw [cond_dec, if_neg (by omega), List.take_of_length_le (by omega), dotW_min _ 0 (zip_in G) (by omega) (by omega), Int.zero_add]
  rw [h]; rfl
theorem count_is (k : Nat) (hk : 1000 ≤ k) {L R : List Int} (G : Good L R) : impl_CountGloves_f k (L, R) = some ((L.sum, R.sum, true, ()), ()) := by
  have := G.l8
  have := G.len
  unfold impl_CountGloves_f
  rw [areGloves_is k (by omega) L R (by omega) (by omega), good_true G, total_is k L (by omega) (by omega), total_is k R (by omega) (by omega), sumW_is G.inL (by omega), sumW_is G.inR (by omega)]
  rfl
theorem safe_pairs {L R : List Int} (G : Good L R) {l r : Int} (h : safe L R l r = true) (h1 : l ≤ L.sum) (h2 : r ≤ R.sum) : 1 ≤ pairsN (L.zip R) := by
  have e := sumR_drop L R 0 G.len
  simp only [List.drop_zero] at e
  rcases Int.lt_or_le 0 (pairsN (L.zip R)) with h3 | h3
  · exact h3
  · unfold safe at h
    rw [pairs_none _ l r (zip_in G) h3 (by rw [sumL_zip L R G.len]; exact h1) (by rw [e]; exact h2)] at h
    cases h

theorem met_go {α β : Type} {o : Option (β ⊕ α)} {K : β → Option α} {r : Option α} (v : β) (h : o = some (.inl v)) (h2 : K v = r) : met o K = r := by rw [h]; exact h2
theorem cur0 {l : List Int} (h : ∀ x ∈ l, 0 ≤ x ∧ x ≤ 255) : Cur 0 (l, 0, 0, ()) := ⟨h, Int.le_refl _, Int.le_refl _⟩
theorem tdiv8 {v : Int} (h0 : 0 ≤ v) (h1 : v < 9) : 0 ≤ iw (Int.tdiv v 8) ∧ iw (Int.tdiv v 8) ≤ 1 := by
  rw [Int.tdiv_eq_ediv_of_nonneg h0, iw_id (by omega) (by omega)]
  omega
theorem drawSafe_is (k : Nat) (hk : 100 ≤ k) (l : List Int) (h : ∀ x ∈ l, 0 ≤ x ∧ x ≤ 255) : ∃ L R x y, spec_DrawIsSafeChoice_f k l = some (((L, R, ()), x, y, ()), ()) ∧ Drawn 10 L R ∧ -1 ≤ x ∧ x ≤ 10 := by
  unfold spec_DrawIsSafeChoice_f
  obtain ⟨L, R, c, e, h1, q, d⟩ := gloves_is k hk (cur0 h) (by omega)
  obtain ⟨v1, c1, e1, a1, b1, h1, q1⟩ := pick_is k h1 (by omega) 10
  obtain ⟨v2, c2, e2, a2, b2, h2, q2⟩ := pick_is k h1 (by omega) 9
  obtain ⟨v3, c3, e3, a3, b3, h3, q3⟩ := pick_is k h2 (by omega) 10
  have t := tdiv8 a2 (by omega)
  rw [e]; simp only [Option.bind_some]
  rw [show (c.1, c.2.1, c.2.2.1, ()) = c from rfl, e1]; simp only [Option.bind_some]
  rw [show (c1.1, c1.2.1, c1.2.2.1, ()) = c1 from rfl, e2]; simp only [Option.bind_some]
  rw [show (c2.1, c2.2.1, c2.2.2.1, ()) = c2 from rfl, e3]; simp only [Option.bind_some]
  generalize iw (Int.tdiv v2 8) = t2 at t
  exact ⟨L, R, _, _, rfl, d, by rw [iw_id (by omega) (by omega)]; omega, by rw [iw_id (by omega) (by omega)]; omega⟩
theorem drawAre_is (k : Nat) (hk : 100 ≤ k) (l : List Int) (h : ∀ x ∈ l, 0 ≤ x ∧ x ≤ 255) : ∃ L R, spec_DrawAreGloves_f k l = some (((L, R, ()), ()), ()) ∧ Drawn 10 L R := by
  unfold spec_DrawAreGloves_f
  obtain ⟨L, R, c, e, h1, q, d⟩ := gloves_is k hk (cur0 h) (by omega)
  rw [e]
  exact ⟨L, R, rfl, d⟩
theorem drawFew_is (k : Nat) (hk : 100 ≤ k) (l : List Int) (h : ∀ x ∈ l, 0 ≤ x ∧ x ≤ 255) : ∃ L R, spec_DrawFewestByHand_f k l = some (((L, R, ()), ()), ()) ∧ Drawn 10 L R := by
  unfold spec_DrawFewestByHand_f
  obtain ⟨L, R, e, d⟩ := drawAre_is k hk l h
  rw [e]
  exact ⟨L, R, rfl, d⟩
theorem drawCh_is (k : Nat) (hk : 100 ≤ k) (l : List Int) (h : ∀ x ∈ l, 0 ≤ x ∧ x ≤ 255) : ∃ L R, spec_DrawChanceByHand_f k l = some (((L, R, ()), ()), ()) ∧ Drawn 10 L R := by
  unfold spec_DrawChanceByHand_f
  obtain ⟨L, R, e, d⟩ := drawAre_is k hk l h
  rw [e]
  exact ⟨L, R, rfl, d⟩
theorem drawLeast_is (k : Nat) (hk : 100 ≤ k) (l : List Int) (h : ∀ x ∈ l, 0 ≤ x ∧ x ≤ 255) : ∃ L R x, spec_DrawLeastRights_f k l = some (((L, R, ()), x, ()), ()) ∧ Drawn 10 L R := by
  unfold spec_DrawLeastRights_f
  obtain ⟨L, R, c, e, h1, q, d⟩ := gloves_is k hk (cur0 h) (by omega)
  obtain ⟨v1, c1, e1, a1, b1, h1, q1⟩ := pick_is k h1 (by omega) 10
  obtain ⟨v2, c2, e2, a2, b2, h2, q2⟩ := pick_is k h1 (by omega) 9
  rw [e]; simp only [Option.bind_some]
  rw [show (c.1, c.2.1, c.2.2.1, ()) = c from rfl, e1]; simp only [Option.bind_some]
  rw [show (c1.1, c1.2.1, c1.2.2.1, ()) = c1 from rfl, e2]; simp only [Option.bind_some]
  exact ⟨L, R, _, rfl, d⟩
theorem drawSure_is (k : Nat) (hk : 100 ≤ k) (l : List Int) (h : ∀ x ∈ l, 0 ≤ x ∧ x ≤ 255) : ∃ L R x, spec_DrawSurePairOfColour_f k l = some (((L, R, ()), x, ()), ()) ∧ Drawn 10 L R := by
  unfold spec_DrawSurePairOfColour_f
  obtain ⟨L, R, c, e, h1, q, d⟩ := gloves_is k hk (cur0 h) (by omega)
  obtain ⟨v1, c1, e1, a1, b1, h1, q1⟩ := pick_is k h1 (by omega) (iw (((List.length L : Nat) : Int) + 1))
  obtain ⟨v2, c2, e2, a2, b2, h2, q2⟩ := pick_is k h1 (by omega) 9
  rw [e]; simp only [Option.bind_some]
  rw [show (c.1, c.2.1, c.2.2.1, ()) = c from rfl, e1]; simp only [Option.bind_some]
  rw [show (c1.1, c1.2.1, c1.2.2.1, ()) = c1 from rfl, e2]; simp only [Option.bind_some]
  exact ⟨L, R, _, rfl, d⟩
theorem drawHand_is (k : Nat) (hk : 100 ≤ k) (l : List Int) (h : ∀ x ∈ l, 0 ≤ x ∧ x ≤ 255) : ∃ L R b x, spec_DrawSureOfHand_f k l = some (((L, R, ()), b, x, ()), ()) ∧ Drawn 10 L R := by
  unfold spec_DrawSureOfHand_f spec_l1Cur_one_f
  obtain ⟨L, R, c, e, h1, q, d⟩ := gloves_is k hk (cur0 h) (by omega)
  obtain ⟨v1, c1, e1, a1, b1, h1, q1⟩ := pick_is k h1 (by omega) 2
  obtain ⟨v2, c2, e2, a2, h2, q2⟩ := among_is k h1 (by omega) [1, 1, 2, 3, 4, 5, 8, 0, (-1), 4611686018427387904] (by decide)
  rw [e]; simp only [Option.bind_some]
  rw [show (c.1, c.2.1, c.2.2.1, ()) = c from rfl, e1]; simp only [Option.bind_some]
  rw [show (c1.1, c1.2.1, c1.2.2.1, ()) = c1 from rfl, e2]; simp only [Option.bind_some]
  exact ⟨L, R, _, _, rfl, d⟩
theorem big_is (k : Nat) (l m : List Int) : ∃ b, laws_big_f k l m = some ((b, ()), ()) := by
  unfold laws_big_f
  rw [cond_dec]
  split <;> exact ⟨_, rfl⟩
theorem mSame_is (k : Nat) (l : List Int) (hk : l.length < k) (hl : l.length ≤ 1000) : laws_mSame_f k l l = some ((true, ()), ()) := by
  unfold laws_mSame_f
  simp only [bne_self_eq_false, cond_false]
  have h : laws_mSame_l1 k l l 0 = some (.inl ()) := by
    unfold laws_mSame_l1
    refine iter_to (fun j => ((j : Int), ())) l.length _ (fun j hj rec => ?_) (fun rec => ?_) k hk
    · simp only [laws_mSame_l1_b, bne_self_eq_false]
      rw [cond_dec, if_pos (by omega), ixk_in (by omega) (by omega), ixk_in (by omega) (by omega), iw_nat (by omega)]
      rfl
    · simp only [laws_mSame_l1_b]
      rw [cond_dec, if_neg (by omega)]
  rw [h]; rfl
def has (l : List Int) (x : Int) : Bool := l.any fun y => y == x
theorem mHas_is (k : Nat) (l : List Int) (x : Int) (hk : l.length < k) (hl : l.length ≤ 1000) : laws_mHas_f k l x = some ((has l x, ()), ()) := by
  unfold laws_mHas_f laws_mHas_l1
  rw [show (0 : Int) = ((0 : Nat) : Int) from rfl]
  refine (iter_met (fun j => ((j : Int), ())) (fun j => some ((has (l.drop j) x, ()), ())) l.length (fun j hj => ?_) k 0 (Nat.zero_le _) (by omega)).trans (by rw [List.drop_zero])
  rcases Nat.lt_or_ge j l.length with h1 | h1
  · have e : ∀ rec : (Int × Unit) → Option (Unit ⊕ ((Bool × Unit) × Unit)), laws_mHas_l1_b k l x (fun x9 => rec (x9, ())) (j : Int) = cond (l[j] == x) (some (.inr ((true, ()), ()))) (rec (((j + 1 : Nat) : Int), ())) := fun rec => by
      simp only [laws_mHas_l1_b]
      rw [cond_dec, if_pos (by omega), ixk_in (by omega) (by omega), iw_nat (by omega), rd_nat l j h1]
    simp only [e]
    rw [List.drop_eq_getElem_cons h1]
    simp only [has, List.any_cons]
    cases (l[j] == x) with
    | true => exact .inl fun _ => rfl
    | false => exact .inr ⟨h1, rfl, fun _ => rfl⟩
  · refine .inl fun rec => ?_
    simp only [laws_mHas_l1_b]
    rw [cond_dec, if_neg (by omega), List.drop_of_length_le (by omega)]
    rfl
theorem mRises_is (k : Nat) (l : List Nat) (hk : l.length < k) (hl : l.length ≤ 1000) (h : l.Pairwise (· < ·)) : laws_mRises_f k (ints l) = some ((true, ()), ()) := by
  unfold laws_mRises_f
  have hlen := ints_len l
  have h : laws_mRises_l1 k (ints l) 1 = some (.inl ()) := by
    unfold laws_mRises_l1
    refine iter_to (fun j => (((j + 1 : Nat) : Int), ())) (l.length - 1) _ (fun j hj rec => ?_) (fun rec => ?_) k (by omega)
    · simp only [laws_mRises_l1_b]
      have hp := List.pairwise_iff_getElem.1 h j (j + 1) (by omega) (by omega) (by omega)
      rw [cond_dec, if_pos (by omega), iw_id (x := ((j + 1 : Nat) : Int) - 1) (by omega) (by omega), show ((j + 1 : Nat) : Int) - 1 = (j : Int) by omega, ixk_in (by omega) (by omega), ixk_in (by omega) (by omega), ints_get l j (by omega), ints_get l (j + 1) (by omega), cond_dec, if_neg (by omega), iw_nat (by omega)]
    · simp only [laws_mRises_l1_b]
      rw [cond_dec, if_neg (by omega)]
  rw [h]; rfl
theorem bits_rise (s m : Nat) : (bits s m).Pairwise (· < ·) := List.Pairwise.filter _ List.pairwise_lt_range
theorem has_bits (s m j : Nat) (hj : j < m) : has (ints (bits s m)) (j : Int) = decide (s / 2 ^ j % 2 = 1) := by
  rw [Bool.eq_iff_iff, decide_eq_true_iff]
  unfold has ints bits
  rw [List.any_eq_true]
  constructor
  · rintro ⟨y, hy, he⟩
    obtain ⟨x, hx, rfl⟩ := List.mem_map.1 hy
    have : x = j := by
      simp only [beq_iff_eq] at he
      omega
    subst this
    simpa using (List.mem_filter.1 hx).2
  · intro h
    exact ⟨(j : Int), List.mem_map.2 ⟨j, List.mem_filter.2 ⟨List.mem_range.2 hj, by simpa using h⟩, rfl⟩, by simp⟩
/-- What a set's lefts and the others' rights are. -/
def pk : Nat → ZS → Int × Int
  | _, [] => (0, 0)
  | s, (a, b) :: zs => if s % 2 = 1 then (a + (pk (s / 2) zs).1, (pk (s / 2) zs).2) else ((pk (s / 2) zs).1, b + (pk (s / 2) zs).2)
theorem pk_bad : ∀ (zs : ZS) (s : Nat) (l r : Int), badN s zs l r = true → l ≤ (pk s zs).1 ∧ r ≤ (pk s zs).2
  | [], s, l, r, h => by simpa [badN, pk] using h
  | (a, b) :: zs, s, l, r, h => by
    simp only [badN] at h
    simp only [pk]
    split at h
    · rename_i hc
      rw [if_pos hc]
      have := pk_bad zs _ _ _ h
      exact ⟨by show l ≤ a + _; omega, this.2⟩
    · rename_i hc
      rw [if_neg hc]
      have := pk_bad zs _ _ _ h
      exact ⟨this.1, by show r ≤ b + _; omega⟩

abbrev L2R := (GT × Int × Int × Unit) ⊕ ((GT × Unit) ⊕ ((Bool × Unit) × Unit))
def l2F (k : Nat) (y111 : (List Int × Bool × Unit) × Unit) (j1 : GT × Bool × Unit) (rec : (GT × Int × Int × Int × Unit) → Option L2R) (x : GT × Int × Int × Int × Unit) : Option L2R :=
  laws_FnGlovesSafe_l2_b k y111 j1 (fun x5 x16 x17 x153 => rec (x5, x16, x17, x153, ())) x.1 x.2.1 x.2.2.1 x.2.2.2.1
theorem l2_loop (k : Nat) (hk : 1000 ≤ k) {L R : List Int} (G : Good L R) (s : Nat) (b b' : Bool) : ∀ (d i j : Nat) (x y : Int), j + d = L.length → d < i → 0 ≤ x → x + 20 * (d : Int) ≤ 1000 → 0 ≤ y → y + 20 * (d : Int) ≤ 1000 →
    iter i (l2F k ((ints (bits s 8), b, ()), ()) ((L, R, ()), b', ())) ((L, R, ()), x, y, (j : Int), ()) = some (.inl ((L, R, ()), x + (pk (s / 2 ^ j) ((L.zip R).drop j)).1, y + (pk (s / 2 ^ j) ((L.zip R).drop j)).2, ())) := by
  have hl8 := G.l8
  have hlen := G.len
  have hb := bits_len s 8
  intro d
  induction d with
  | zero =>
    intro i j x y hj hi _ _ _ _
    obtain ⟨i, rfl⟩ : ∃ i', i = i' + 1 := ⟨i - 1, by omega⟩
    rw [List.drop_of_length_le (by rw [zip_len G]; omega)]
    show l2F k _ _ _ _ = _
    simp only [l2F, laws_FnGlovesSafe_l2_b]
    rw [cond_dec, if_neg (by omega)]
    simp only [pk, Int.add_zero]
  | succ d ih =>
    intro i j x y hj hi h1 h2 h3 h4
    obtain ⟨i, rfl⟩ : ∃ i', i = i' + 1 := ⟨i - 1, by omega⟩
    have hlt : j < L.length := by omega
    have a := in_l G j hlt
    have c := in_r G j hlt
    have ih := fun x y => ih i (j + 1) x y (by omega) (by omega)
    rw [zip_drop G j hlt]
    show l2F k _ _ (iter i (l2F k _ _)) _ = _
    rw [Nat.pow_succ, ← Nat.div_div_eq_div_mul] at ih
    generalize (L.zip R).drop (j + 1) = zs at ih ⊢
    simp only [l2F, laws_FnGlovesSafe_l2_b, pk]
    rw [cond_dec, if_pos (by omega), mHas_is k _ _ (by rw [ints_len]; omega) (by rw [ints_len]; omega), has_bits s 8 j (by omega)]
    simp only [Option.bind_some]
    by_cases hc : s / 2 ^ j % 2 = 1
    · rw [if_pos hc, decide_eq_true hc]
      simp only [cond_true]
      rw [ixk_in (by omega) (by omega)]
      simp only [met_inl]
      rw [rd_nat L j hlt, iw_id (by omega) (by omega), iw_nat (by omega)]
      refine (ih (x + L[j]) y (by omega) (by omega) (by omega) (by omega)).trans ?_
      rw [Int.add_assoc]
    · rw [if_neg hc, decide_eq_false hc]
      simp only [cond_false]
      rw [ixk_in (by omega) (by omega)]
      simp only [met_inl]
      rw [rd_nat R j (by omega), iw_id (by omega) (by omega), iw_nat (by omega)]
      refine (ih x (y + R[j]'(by omega)) (by omega) (by omega) (by omega) (by omega)).trans ?_
      rw [Int.add_assoc]
theorem l2_is (k : Nat) (hk : 1000 ≤ k) {L R : List Int} (G : Good L R) (s : Nat) (b b' : Bool) :
    laws_FnGlovesSafe_l2 k ((ints (bits s 8), b, ()), ()) ((L, R, ()), b', ()) (L, R, ()) 0 0 0 = some (.inl ((L, R, ()), (pk s (L.zip R)).1, (pk s (L.zip R)).2, ())) := by
  have hl8 := G.l8
  have h := l2_loop k hk G s b b' L.length k 0 0 0 (by omega) (by omega) (by omega) (by omega) (by omega) (by omega)
  rw [Nat.pow_zero, Nat.div_one, List.drop_zero, Int.zero_add, Int.zero_add] at h
  exact h
theorem no_fewer {L R : List Int} {x y : Int} (h : Best L R x y) (i j : Int) (hij : i + j = x + y - 1) : cond (safeVal L R i j).1.2.1 (safeVal L R i j).1.1 false = false := by
  unfold safeVal
  split
  · rename_i hc
    have C := choice_is hc
    have := C.l0
    have := C.l1
    have := C.r0
    have := C.r1
    show safe L R i j = false
    cases hs : safe L R i j with
    | false => rfl
    | true =>
      have h1 := safe_lefts C.G hs C.l1
      have h2 := safe_rights C.G hs C.r1
      have := (h.le i j hs (by omega) (by omega) (by omega) (by omega)).1
      omega
  · rfl
abbrev L13R := (GT × GT × GT × GT × Unit) ⊕ ((GT × GT × GT × GT × Unit) ⊕ ((Bool × Unit) × Unit))
theorem l13_is (k : Nat) (hk : 1000 ≤ k) {L R : List Int} (hL : L.length ≤ 10) (hR : R.length ≤ 10) {x y : Int} (h : Best L R x y) (hs : x + y ≤ 320) (t : Bool × Unit) (u : Unit) (g2 g3 g4 g5 : GT) :
    laws_FnGlovesSafe_l13 k ((x, y, t), u) (L, R, ()) g2 g3 g4 g5 0 = some (.inl (g2, g3, g4, g5, ())) := by
  have := h.x0
  have := h.y0
  unfold laws_FnGlovesSafe_l13
  refine iter_to (fun i => ((L, R, ()), g2, g3, g4, g5, (i : Int), ())) (x + y).toNat _ (fun i hi rec => ?_) (fun rec => ?_) k (by omega)
  · simp only [laws_FnGlovesSafe_l13_b]
    rw [cond_dec, iw_id (x := x + y) (by omega) (by omega), if_pos (by omega), iw_id (x := x + y - 1) (by omega) (by omega), iw_id (x := x + y - 1 - (i : Int)) (by omega) (by omega), isSafeChoice_is k hk L R hL hR, iw_nat (by omega)]
    have hn := no_fewer h (i : Int) (x + y - 1 - (i : Int)) (by omega)
    simp only [Option.bind_some]
    generalize safeVal L R (i : Int) (x + y - 1 - (i : Int)) = v at hn ⊢
    cases hv : v.1.2.1 with
    | true =>
      rw [hv] at hn
      have hn : v.1.1 = false := hn
      simp only [cond_true, met_inl, hn]
      rfl
    | false => rfl
  · simp only [laws_FnGlovesSafe_l13_b]
    rw [cond_dec, iw_id (x := x + y) (by omega) (by omega), if_neg (by omega)]
theorem l25_is (k : Nat) (hk : 1000 ≤ k) {L R : List Int} (G : Good L R) (b : Bool × Unit) : laws_FnGlovesSafe_l25 k ((L, R, ()), b) (L, R, ()) 0 0 = some (.inl ((L, R, ()), (dot (L.zip R) : Int), ())) := by
  have := G.l8
  have := G.len
  have hz := zip_len G
  unfold laws_FnGlovesSafe_l25
  refine iter_to (fun j => ((L, R, ()), dotW (fun a b => iw (a * b)) 0 ((L.zip R).take j), (j : Int), ())) L.length _ (fun j hj rec => ?_) (fun rec => ?_) k (by omega)
  · simp only [laws_FnGlovesSafe_l25_b]
    rw [cond_dec, if_pos (by omega), ixk_in (by omega) (by omega), ixk_in (by omega) (by omega), iw_nat (by omega), rd_nat L j hj, rd_nat R j (by omega), dotW_snoc _ _ j (by omega)]
    simp only [List.getElem_zip]
  · simp only [laws_FnGlovesSafe_l25_b]
    rw [cond_dec, if_neg (by omega), List.take_of_length_le (by omega), dotW_is _ 0 (zip_in G) (by omega) (by omega), Int.zero_add]

def law2_f (k : Nat) (p1 : List Int) : Option ((Bool × Unit) × Unit) :=
  (Option.bind (spec_DrawFewestByHand_f k p1) (fun y213 => (Option.bind (impl_FewestByHand_f k (y213.1.1.1, y213.1.1.2.1)) (fun y216 => (Option.bind (spec_FewestByHand_f k (y213.1.1.1, y213.1.1.2.1)) (fun y222 => (Option.bind (spec_DrawLeastRights_f k p1) (fun y228 => (Option.bind (impl_LeastRights_f k (y228.1.1.1, y228.1.1.2.1) y228.1.2.1) (fun y234 => (Option.bind (spec_LeastRights_f k (y228.1.1.1, y228.1.1.2.1) y228.1.2.1) (fun y240 => (Option.bind (spec_DrawSurePairOfColour_f k p1) (fun y245 => (Option.bind (impl_SurePairOfColour_f k (y245.1.1.1, y245.1.1.2.1) y245.1.2.1) (fun y251 => (Option.bind (spec_SurePairOfColour_f k (y245.1.1.1, y245.1.1.2.1) y245.1.2.1) (fun y257 => (Option.bind (spec_DrawSureOfHand_f k p1) (fun y262 => (Option.bind (impl_SureOfHand_f k (y262.1.1.1, y262.1.1.2.1) y262.1.2.1 y262.1.2.2.1) (fun y270 => (Option.bind (spec_SureOfHand_f k (y262.1.1.1, y262.1.1.2.1) y262.1.2.1 y262.1.2.2.1) (fun y277 => (Option.bind (spec_DrawChanceByHand_f k p1) (fun y281 => (Option.bind (impl_ChanceByHand_f k (y281.1.1.1, y281.1.1.2.1)) (fun y284 => (Option.bind (spec_ChanceByHand_f k (y281.1.1.1, y281.1.1.2.1)) (fun y290 => (Option.bind (impl_ChanceOfGlovePair_f k (y281.1.1.1, y281.1.1.2.1)) (fun y296 => (Option.bind (spec_ChanceOfGlovePair_f k (y281.1.1.1, y281.1.1.2.1)) (fun y302 => (met (cond (!(y216.1.2.2.1 == y222.1.2.2.1)) (some (.inl ((y213.1.1.1, y213.1.1.2.1, ()), (y228.1.1.1, y228.1.1.2.1, ()), (y245.1.1.1, y245.1.1.2.1, ()), (y262.1.1.1, y262.1.1.2.1, ()), (y281.1.1.1, y281.1.1.2.1, ()), true, ()))) (cond (y216.1.1 != y222.1.1) (some (.inl ((y213.1.1.1, y213.1.1.2.1, ()), (y228.1.1.1, y228.1.1.2.1, ()), (y245.1.1.1, y245.1.1.2.1, ()), (y262.1.1.1, y262.1.1.2.1, ()), (y281.1.1.1, y281.1.1.2.1, ()), true, ()))) (cond (y216.1.2.1 != y222.1.2.1) (some (.inl ((y213.1.1.1, y213.1.1.2.1, ()), (y228.1.1.1, y228.1.1.2.1, ()), (y245.1.1.1, y245.1.1.2.1, ()), (y262.1.1.1, y262.1.1.2.1, ()), (y281.1.1.1, y281.1.1.2.1, ()), true, ()))) (cond (!(y234.1.2.1 == y240.1.2.1)) (some (.inl ((y213.1.1.1, y213.1.1.2.1, ()), (y228.1.1.1, y228.1.1.2.1, ()), (y245.1.1.1, y245.1.1.2.1, ()), (y262.1.1.1, y262.1.1.2.1, ()), (y281.1.1.1, y281.1.1.2.1, ()), true, ()))) (cond (y234.1.1 != y240.1.1) (some (.inl ((y213.1.1.1, y213.1.1.2.1, ()), (y228.1.1.1, y228.1.1.2.1, ()), (y245.1.1.1, y245.1.1.2.1, ()), (y262.1.1.1, y262.1.1.2.1, ()), (y281.1.1.1, y281.1.1.2.1, ()), true, ()))) (cond (!(y251.1.2.1 == y257.1.2.1)) (some (.inl ((y213.1.1.1, y213.1.1.2.1, ()), (y228.1.1.1, y228.1.1.2.1, ()), (y245.1.1.1, y245.1.1.2.1, ()), (y262.1.1.1, y262.1.1.2.1, ()), (y281.1.1.1, y281.1.1.2.1, ()), true, ()))) (cond (y251.1.1 != y257.1.1) (some (.inl ((y213.1.1.1, y213.1.1.2.1, ()), (y228.1.1.1, y228.1.1.2.1, ()), (y245.1.1.1, y245.1.1.2.1, ()), (y262.1.1.1, y262.1.1.2.1, ()), (y281.1.1.1, y281.1.1.2.1, ()), true, ()))) (cond (!(y270.1.2.1 == y277.1.2.1)) (some (.inl ((y213.1.1.1, y213.1.1.2.1, ()), (y228.1.1.1, y228.1.1.2.1, ()), (y245.1.1.1, y245.1.1.2.1, ()), (y262.1.1.1, y262.1.1.2.1, ()), (y281.1.1.1, y281.1.1.2.1, ()), true, ()))) (cond (y270.1.1 != y277.1.1) (some (.inl ((y213.1.1.1, y213.1.1.2.1, ()), (y228.1.1.1, y228.1.1.2.1, ()), (y245.1.1.1, y245.1.1.2.1, ()), (y262.1.1.1, y262.1.1.2.1, ()), (y281.1.1.1, y281.1.1.2.1, ()), true, ()))) (cond (!(y284.1.2.2.1 == y290.1.2.2.1)) (some (.inl ((y213.1.1.1, y213.1.1.2.1, ()), (y228.1.1.1, y228.1.1.2.1, ()), (y245.1.1.1, y245.1.1.2.1, ()), (y262.1.1.1, y262.1.1.2.1, ()), (y281.1.1.1, y281.1.1.2.1, ()), true, ()))) (cond (y284.1.1 != y290.1.1) (some (.inl ((y213.1.1.1, y213.1.1.2.1, ()), (y228.1.1.1, y228.1.1.2.1, ()), (y245.1.1.1, y245.1.1.2.1, ()), (y262.1.1.1, y262.1.1.2.1, ()), (y281.1.1.1, y281.1.1.2.1, ()), true, ()))) (cond (y284.1.2.1 != y290.1.2.1) (some (.inl ((y213.1.1.1, y213.1.1.2.1, ()), (y228.1.1.1, y228.1.1.2.1, ()), (y245.1.1.1, y245.1.1.2.1, ()), (y262.1.1.1, y262.1.1.2.1, ()), (y281.1.1.1, y281.1.1.2.1, ()), true, ()))) (cond (!(y296.1.2.2.1 == y302.1.2.2.1)) (some (.inl ((y213.1.1.1, y213.1.1.2.1, ()), (y228.1.1.1, y228.1.1.2.1, ()), (y245.1.1.1, y245.1.1.2.1, ()), (y262.1.1.1, y262.1.1.2.1, ()), (y281.1.1.1, y281.1.1.2.1, ()), true, ()))) (cond (y296.1.1 != y302.1.1) (some (.inl ((y213.1.1.1, y213.1.1.2.1, ()), (y228.1.1.1, y228.1.1.2.1, ()), (y245.1.1.1, y245.1.1.2.1, ()), (y262.1.1.1, y262.1.1.2.1, ()), (y281.1.1.1, y281.1.1.2.1, ()), true, ()))) (some (.inl ((y213.1.1.1, y213.1.1.2.1, ()), (y228.1.1.1, y228.1.1.2.1, ()), (y245.1.1.1, y245.1.1.2.1, ()), (y262.1.1.1, y262.1.1.2.1, ()), (y281.1.1.1, y281.1.1.2.1, ()), (y296.1.2.1 != y302.1.2.1), ()))))))))))))))))) (fun j11 => (cond j11.2.2.2.2.2.1 (some ((false, ()), ())) (met (cond y216.1.2.2.1 (Option.bind (impl_PairsOfGloves_f k (j11.1.1, j11.1.2.1)) (fun y382 => (Option.bind (impl_IsSafeChoice_f k (j11.1.1, j11.1.2.1) y216.1.1 y216.1.2.1) (fun y389 => (met (cond (decide (y216.1.1 < 1)) (some (.inl ((j11.1.1, j11.1.2.1, ()), (j11.2.1.1, j11.2.1.2.1, ()), (j11.2.2.1.1, j11.2.2.1.2.1, ()), (j11.2.2.2.1.1, j11.2.2.2.1.2.1, ()), (j11.2.2.2.2.1.1, j11.2.2.2.2.1.2.1, ()), true, ()))) (cond (decide (y216.1.2.1 < 1)) (some (.inl ((j11.1.1, j11.1.2.1, ()), (j11.2.1.1, j11.2.1.2.1, ()), (j11.2.2.1.1, j11.2.2.1.2.1, ()), (j11.2.2.2.1.1, j11.2.2.2.1.2.1, ()), (j11.2.2.2.2.1.1, j11.2.2.2.2.1.2.1, ()), true, ()))) (cond (!y382.1.2.1) (some (.inl ((j11.1.1, j11.1.2.1, ()), (j11.2.1.1, j11.2.1.2.1, ()), (j11.2.2.1.1, j11.2.2.1.2.1, ()), (j11.2.2.2.1.1, j11.2.2.2.1.2.1, ()), (j11.2.2.2.2.1.1, j11.2.2.2.2.1.2.1, ()), true, ()))) (cond (decide (y382.1.1 < 1)) (some (.inl ((j11.1.1, j11.1.2.1, ()), (j11.2.1.1, j11.2.1.2.1, ()), (j11.2.2.1.1, j11.2.2.1.2.1, ()), (j11.2.2.2.1.1, j11.2.2.2.1.2.1, ()), (j11.2.2.2.2.1.1, j11.2.2.2.2.1.2.1, ()), true, ()))) (cond (!y389.1.2.1) (some (.inl ((j11.1.1, j11.1.2.1, ()), (j11.2.1.1, j11.2.1.2.1, ()), (j11.2.2.1.1, j11.2.2.1.2.1, ()), (j11.2.2.2.1.1, j11.2.2.2.1.2.1, ()), (j11.2.2.2.2.1.1, j11.2.2.2.2.1.2.1, ()), true, ()))) (some (.inl ((j11.1.1, j11.1.2.1, ()), (j11.2.1.1, j11.2.1.2.1, ()), (j11.2.2.1.1, j11.2.2.1.2.1, ()), (j11.2.2.2.1.1, j11.2.2.2.1.2.1, ()), (j11.2.2.2.2.1.1, j11.2.2.2.2.1.2.1, ()), (!y389.1.1), ())))))))) (fun j12 => (cond j12.2.2.2.2.2.1 (some (.inr ((false, ()), ()))) (met (laws_FnGlovesSafe_l13 k y216 (j12.1.1, j12.1.2.1, ()) (j12.2.1.1, j12.2.1.2.1, ()) (j12.2.2.1.1, j12.2.2.1.2.1, ()) (j12.2.2.2.1.1, j12.2.2.2.1.2.1, ()) (j12.2.2.2.2.1.1, j12.2.2.2.2.1.2.1, ()) 0) (fun j15 => (some (.inl ((j15.1.1, j15.1.2.1, ()), (j15.2.1.1, j15.2.1.2.1, ()), (j15.2.2.1.1, j15.2.2.1.2.1, ()), (j15.2.2.2.1.1, j15.2.2.2.1.2.1, ()), ())))))))))))) (some (.inl ((j11.2.1.1, j11.2.1.2.1, ()), (j11.2.2.1.1, j11.2.2.1.2.1, ()), (j11.2.2.2.1.1, j11.2.2.2.1.2.1, ()), (j11.2.2.2.2.1.1, j11.2.2.2.2.1.2.1, ()), ())))) (fun j16 => (met (cond y234.1.2.1 (Option.bind (impl_IsSafeChoice_f k (j16.1.1, j16.1.2.1) y228.1.2.1 y234.1.1) (fun y443 => (Option.bind (impl_IsSafeChoice_f k (j16.1.1, j16.1.2.1) y228.1.2.1 (iw (y234.1.1 - 1))) (fun y451 => (met (cond (!y443.1.2.1) (some (.inl ((j16.2.1.1, j16.2.1.2.1, ()), (j16.2.2.1.1, j16.2.2.1.2.1, ()), (j16.2.2.2.1.1, j16.2.2.2.1.2.1, ()), true, ()))) (cond (!y443.1.1) (some (.inl ((j16.2.1.1, j16.2.1.2.1, ()), (j16.2.2.1.1, j16.2.2.1.2.1, ()), (j16.2.2.2.1.1, j16.2.2.2.1.2.1, ()), true, ()))) (cond (!y451.1.2.1) (some (.inl ((j16.2.1.1, j16.2.1.2.1, ()), (j16.2.2.1.1, j16.2.2.1.2.1, ()), (j16.2.2.2.1.1, j16.2.2.2.1.2.1, ()), true, ()))) (some (.inl ((j16.2.1.1, j16.2.1.2.1, ()), (j16.2.2.1.1, j16.2.2.1.2.1, ()), (j16.2.2.2.1.1, j16.2.2.2.1.2.1, ()), y451.1.1, ())))))) (fun j17 => (cond j17.2.2.2.1 (some (.inr ((false, ()), ()))) (some (.inl ((j17.1.1, j17.1.2.1, ()), (j17.2.1.1, j17.2.1.2.1, ()), (j17.2.2.1.1, j17.2.2.1.2.1, ()), ())))))))))) (some (.inl ((j16.2.1.1, j16.2.1.2.1, ()), (j16.2.2.1.1, j16.2.2.1.2.1, ()), (j16.2.2.2.1.1, j16.2.2.2.1.2.1, ()), ())))) (fun j18 => (met (cond y251.1.2.1 (Option.bind (impl_CountGloves_f k (j18.1.1, j18.1.2.1)) (fun y470 => (met (cond (!y470.1.2.2.1) (some (.inl ((j18.2.1.1, j18.2.1.2.1, ()), (j18.2.2.1.1, j18.2.2.1.2.1, ()), true, ()))) (cond (decide (y251.1.1 > (iw (y470.1.1 + y470.1.2.1)))) (some (.inl ((j18.2.1.1, j18.2.1.2.1, ()), (j18.2.2.1.1, j18.2.2.1.2.1, ()), true, ()))) (cond (decide (y251.1.1 < 2)) (some (.inl ((j18.2.1.1, j18.2.1.2.1, ()), (j18.2.2.1.1, j18.2.2.1.2.1, ()), true, ()))) (ixk y245.1.2.1 (List.length j18.1.1) (cond (decide ((rd j18.1.1 y245.1.2.1) < 1)) (some (.inl ((j18.2.1.1, j18.2.1.2.1, ()), (j18.2.2.1.1, j18.2.2.1.2.1, ()), true, ()))) (ixk y245.1.2.1 (List.length j18.1.2.1) (some (.inl ((j18.2.1.1, j18.2.1.2.1, ()), (j18.2.2.1.1, j18.2.2.1.2.1, ()), (decide ((rd j18.1.2.1 y245.1.2.1) < 1)), ()))))))))) (fun j19 => (cond j19.2.2.1 (some (.inr ((false, ()), ()))) (some (.inl ((j19.1.1, j19.1.2.1, ()), (j19.2.1.1, j19.2.1.2.1, ()), ())))))))) (some (.inl ((j18.2.1.1, j18.2.1.2.1, ()), (j18.2.2.1.1, j18.2.2.1.2.1, ()), ())))) (fun j20 => (met (cond y270.1.2.1 (Option.bind (impl_CountGloves_f k (j20.1.1, j20.1.2.1)) (fun y506 => (met (cond y262.1.2.1 (some (.inl ((j20.2.1.1, j20.2.1.2.1, ()), y506.1.1, ()))) (some (.inl ((j20.2.1.1, j20.2.1.2.1, ()), y506.1.2.1, ())))) (fun j21 => (met (cond (!y506.1.2.2.1) (some (.inl ((j21.1.1, j21.1.2.1, ()), true, ()))) (some (.inl ((j21.1.1, j21.1.2.1, ()), (y270.1.1 != (iw (j21.2.1 + y262.1.2.2.1))), ())))) (fun j22 => (cond j22.2.1 (some (.inr ((false, ()), ()))) (some (.inl ((j22.1.1, j22.1.2.1, ()), ())))))))))) (some (.inl ((j20.2.1.1, j20.2.1.2.1, ()), ())))) (fun j23 => (met (cond y284.1.2.2.1 (some (.inl ((j23.1.1, j23.1.2.1, ()), true, ()))) (some (.inl ((j23.1.1, j23.1.2.1, ()), y296.1.2.2.1, ())))) (fun j24 => (met (cond j24.2.1 (met (laws_FnGlovesSafe_l25 k j24 (j24.1.1, j24.1.2.1, ()) 0 0) (fun j26 => (Option.bind (laws_mSum_f k j26.1.1) (fun y546 => (Option.bind (laws_mSum_f k j26.1.2.1) (fun y549 => (Option.bind (laws_mSum_f k j26.1.1) (fun y553 => (Option.bind (laws_mSum_f k j26.1.2.1) (fun y556 => (some (.inl (j26.2.1, (iw (y546.1.1 + y549.1.1)), (iw (y553.1.1 * y556.1.1)), ()))))))))))))) (some (.inl (0, 0, 0, ())))) (fun j27 => (met (cond y284.1.2.2.1 (Option.bind (laws_mIs_f k y284.1.1 y284.1.2.1 j27.1 j27.2.2.1) (fun y564 => (cond (!y564.1.1) (some (.inl (true, ()))) (cond y296.1.2.2.1 (Option.bind (laws_mIs_f k y296.1.1 y296.1.2.1 j27.1 (iw (Int.tdiv (iw (j27.2.1 * (iw (j27.2.1 - 1)))) 2))) (fun y578 => (some (.inl ((!y578.1.1), ()))))) (some (.inl (false, ()))))))) (cond y296.1.2.2.1 (Option.bind (laws_mIs_f k y296.1.1 y296.1.2.1 j27.1 (iw (Int.tdiv (iw (j27.2.1 * (iw (j27.2.1 - 1)))) 2))) (fun y578_1 => (some (.inl ((!y578_1.1.1), ()))))) (some (.inl (false, ()))))) (fun j28 => (cond j28.1 (some ((false, ()), ())) (some ((true, ()), ()))))))))))))))))))))))))))))))))))))))))))))))))))))))
theorem few_cases (L R : List Int) : fewVal L R = ((0, 0, false, ()), ()) ∨ ∃ x y, fewVal L R = ((x, y, true, ()), ()) ∧ Good L R ∧ Best L R x y := by
  unfold fewVal
  split
  · rename_i hg
    have G := good_is hg
    rcases bst_best G with ⟨h, _⟩ | h
    · rw [if_pos h]; exact .inl rfl
    · rw [if_neg (by have := h.x0; omega)]
      exact .inr ⟨_, _, rfl, G, h⟩
  · exact .inl rfl
theorem least_cases (L R : List Int) (l : Int) : leastVal L R l = ((0, false, ()), ()) ∨ ∃ r : Int, leastVal L R l = ((r, true, ()), ()) ∧ Good L R ∧ 1 ≤ l ∧ l ≤ L.sum ∧ safe L R l r = true ∧ 1 ≤ r ∧ r ≤ R.sum ∧ safe L R l (r - 1) = false := by
  unfold leastVal
  split
  · rename_i hg
    have O := leastOk_is hg
    have := O.l0
    unfold lrVal
    cases hl : lr L R l with
    | none => exact .inl rfl
    | some r =>
      obtain ⟨h1, h2, h3, h4⟩ := lr_some O.G hl
      refine .inr ⟨(r : Int), rfl, O.G, O.l0, O.l1, h1, by omega, h3, ?_⟩
      cases hs : safe L R l ((r : Int) - 1) with
      | false => rfl
      | true =>
        have h5 := safe_lefts O.G hs O.l1
        have := h4 _ hs (by omega)
        omega
  · exact .inl rfl
theorem rd_in {l : List Int} {c : Int} (h0 : 0 ≤ c) (h1 : c < l.length) : rd l c ∈ l := by
  unfold rd
  rw [List.getD_eq_getElem?_getD, List.getElem?_eq_getElem (by omega)]
  exact List.getElem_mem _
theorem mem_sum : ∀ {l : List Int}, (∀ x ∈ l, 0 ≤ x ∧ x ≤ 20) → ∀ {x}, x ∈ l → x ≤ l.sum
  | [], _, _, h => by cases h
  | y :: l, hl, x, h => by
    have h1 := hl y (by simp)
    have h2 := sum_bound (l := l) fun z hz => hl z (by simp [hz])
    rw [List.sum_cons]
    rcases List.mem_cons.1 h with rfl | h
    · omega
    · have := mem_sum (l := l) (fun z hz => hl z (by simp [hz])) h
      omega
theorem sure_cases (L R : List Int) (c : Int) : sureVal L R c = ((0, false, ()), ()) ∨ ∃ v : Int, sureVal L R c = ((v, true, ()), ()) ∧ Good L R ∧ 0 ≤ c ∧ c < L.length ∧ v ≤ L.sum + R.sum ∧ 2 ≤ v ∧ 1 ≤ rd L c ∧ 1 ≤ rd R c := by
  unfold sureVal
  split
  · rename_i hg
    obtain ⟨G, h0, h1⟩ := colourOk_is hg
    have := G.len
    have := G.l8
    split
    · exact .inl rfl
    · rename_i hm
      have hL := rd_in h0 h1
      have hR := rd_in (l := R) h0 (by omega)
      have a := G.inL _ hL
      have b := G.inR _ hR
      have s1 := mem_sum G.inL hL
      have s2 := mem_sum G.inR hR
      have b1 := sum_bound G.inL
      have b2 := sum_bound G.inR
      have hm' : min2 (rd L c) (rd R c) ≠ 0 := by simpa using hm
      have hm2 : min2 (rd L c) (rd R c) = rd L c ∧ rd L c ≤ rd R c ∨ min2 (rd L c) (rd R c) = rd R c ∧ rd R c ≤ rd L c := by
        unfold min2; split <;> omega
      generalize min2 (rd L c) (rd R c) = m at hm' hm2 ⊢
      rw [sumW_is G.inL (by omega), sumW_is G.inR (by omega), iw_id (x := L.sum + R.sum) (by omega) (by omega), iw_id (x := L.sum + R.sum - m) (by omega) (by omega), iw_id (by omega) (by omega)]
      exact .inr ⟨_, rfl, G, h0, h1, by omega, by omega, by omega, by omega⟩
  · exact .inl rfl
theorem hand_cases (L R : List Int) (b : Bool) (m : Int) : handVal L R b m = ((0, false, ()), ()) ∨ (handVal L R b m = ((iw ((cond b (sumW L) (sumW R)) + m), true, ()), ()) ∧ Good L R) := by
  unfold handVal
  cases hg : good L R with
  | false => exact .inl rfl
  | true =>
    have G := good_is hg
    cases b with
    | false =>
      simp only [cond_true, cond_false, handOut]
      cases (decide (1 ≤ m) && decide (m ≤ sumW L)) with
      | true => exact .inr ⟨rfl, G⟩
      | false => exact .inl rfl
    | true =>
      simp only [cond_true, handOut]
      cases (decide (1 ≤ m) && decide (m ≤ sumW R)) with
      | true => exact .inr ⟨rfl, G⟩
      | false => exact .inl rfl
theorem ch_cases (L R : List Int) : (chHand L R = noCh ∧ chTwo L R = noCh) ∨ (Good L R ∧ ∃ A B : Nat, sumW L = (A : Int) ∧ sumW R = (B : Int) ∧ A ≤ 160 ∧ B ≤ 160 ∧ (chHand L R = noCh ∨ (0 < A * B ∧ chHand L R = chOut (dot (L.zip R)) (A * B))) ∧ (chTwo L R = noCh ∨ (2 ≤ A + B ∧ chTwo L R = chOut (dot (L.zip R)) (pairUp (A + B))))) := by
  unfold chHand chTwo
  cases hg : good L R with
  | false => exact .inl ⟨rfl, rfl⟩
  | true =>
    have G := good_is hg
    obtain ⟨A, B, hA, hB, eA, eB, a1, b1, h0⟩ := sums_nat G
    refine .inr ⟨G, A, B, eA, eB, a1, b1, ?_, ?_⟩
    · rw [eA, eB]
      simp only [if_true, Int.toNat_natCast]
      split
      · exact .inl rfl
      · exact .inr ⟨Nat.mul_pos (by omega) (by omega), rfl⟩
    · rw [eA, eB, iw_id (by omega) (by omega), show (A : Int) + (B : Int) = ((A + B : Nat) : Int) by omega]
      simp only [if_true, Int.toNat_natCast]
      split
      · exact .inl rfl
      · exact .inr ⟨by omega, rfl⟩
theorem law2_is (k : Nat) (hk : 100000 ≤ k) (l : List Int) (h : ∀ x ∈ l, 0 ≤ x ∧ x ≤ 255) : law2_f k l = some ((true, ()), ()) := by
  unfold law2_f
  obtain ⟨L1, R1, e1, d1⟩ := drawFew_is k (by omega) l h
  obtain ⟨L2, R2, n, e2, d2⟩ := drawLeast_is k (by omega) l h
  obtain ⟨L3, R3, c, e3, d3⟩ := drawSure_is k (by omega) l h
  obtain ⟨L4, R4, b, m, e4, d4⟩ := drawHand_is k (by omega) l h
  obtain ⟨L5, R5, e5, d5⟩ := drawCh_is k (by omega) l h
  simp only [e1, e2, e3, e4, e5, Option.bind_some, implFew_is k (by omega) L1 R1 d1.1 d1.2.1, specFew_is k (by omega) L1 R1 d1.1 d1.2.1, implLeast_is k (by omega) L2 R2 d2.1 d2.2.1, specLeast_is k (by omega) L2 R2 d2.1 d2.2.1, implSure_is k (by omega) L3 R3 d3.1 d3.2.1, specSure_is k (by omega) L3 R3 d3.1 d3.2.1, implHand_is k (by omega) L4 R4 d4.1 d4.2.1, specHand_is k (by omega) L4 R4 d4.1 d4.2.1, implHandCh_is k (by omega) L5 R5 d5.1 d5.2.1, specHandCh_is k (by omega) L5 R5 d5.1 d5.2.1, implTwo_is k (by omega) L5 R5 d5.1 d5.2.1, specTwo_is k (by omega) L5 R5 d5.1 d5.2.1, beq_self_eq_true, bne_self_eq_false, Bool.not_true, cond_false, met_inl]
  refine met_go ((L2, R2, ()), (L3, R3, ()), (L4, R4, ()), (L5, R5, ()), ()) ?_ ?_
  · rcases few_cases L1 R1 with e | ⟨x, y, e, G, B⟩
    · rw [e]; rfl
    · have sp := safe_pairs G B.ok B.x1 B.y1
      have := B.x0
      have := B.x1
      have := B.y0
      have := B.y1
      have := G.l8
      have := G.len
      have b1 := sum_bound G.inL
      have b2 := sum_bound G.inR
      have sv : safeVal L1 R1 x y = ((true, true, ()), ()) := by
        unfold safeVal
        rw [if_pos (choice_true G (by omega) (by omega) (by omega) (by omega)), B.ok]
      rw [e]
      simp only [cond_true, pairs_is k (by omega) G, isSafeChoice_is k (by omega) L1 R1 d1.1 d1.2.1, sv, Option.bind_some, Bool.not_true, cond_false]
      rw [cond_dec, if_neg (by omega), cond_dec, if_neg (by omega), cond_dec, if_neg (by omega)]
      simp only [met_inl, cond_false]
      rw [l13_is k (by omega) d1.1 d1.2.1 B (by omega)]
      rfl
  simp only []
  refine met_go ((L3, R3, ()), (L4, R4, ()), (L5, R5, ()), ()) ?_ ?_
  · rcases least_cases L2 R2 n with e | ⟨r, e, G, h1, h2, h3, h4, h5, h6⟩
    · rw [e]; rfl
    · have := G.l8
      have := G.len
      have b1 := sum_bound G.inL
      have b2 := sum_bound G.inR
      have sv : safeVal L2 R2 n r = ((true, true, ()), ()) := by
        unfold safeVal
        rw [if_pos (choice_true G (by omega) (by omega) (by omega) (by omega)), h3]
      have sv' : safeVal L2 R2 n (r - 1) = ((false, true, ()), ()) := by
        unfold safeVal
        rw [if_pos (choice_true G (by omega) (by omega) (by omega) (by omega)), h6]
      rw [e]
      simp only [cond_true, isSafeChoice_is k (by omega) L2 R2 d2.1 d2.2.1, iw_id (x := r - 1) (by omega) (by omega), sv, sv', Option.bind_some, Bool.not_true, cond_false, met_inl]
  simp only []
  refine met_go ((L4, R4, ()), (L5, R5, ()), ()) ?_ ?_
  · rcases sure_cases L3 R3 c with e | ⟨v, e, G, h1, h2, h3, h4, h5, h6⟩
    · rw [e]; rfl
    · have := G.l8
      have := G.len
      have b1 := sum_bound G.inL
      have b2 := sum_bound G.inR
      rw [e]
      simp only [cond_true, count_is k (by omega) G, Option.bind_some, Bool.not_true, cond_false]
      rw [iw_id (by omega) (by omega), cond_dec, if_neg (by omega), cond_dec, if_neg (by omega), ixk_in h1 h2, cond_dec, if_neg (by omega), ixk_in h1 (by omega), decide_eq_false (by omega)]
      rfl
  simp only []
  refine met_go ((L5, R5, ()), ()) ?_ ?_
  · rcases hand_cases L4 R4 b m with e | ⟨e, G⟩
    · rw [e]; rfl
    · have := G.l8
      have := G.len
      rw [e]
      simp only [cond_true, count_is k (by omega) G, Option.bind_some, Bool.not_true, cond_false, sumW_is G.inL (by omega), sumW_is G.inR (by omega)]
      cases b <;> simp only [cond_true, cond_false, met_inl, bne_self_eq_false]
  simp only []
  rcases ch_cases L5 R5 with ⟨c1, c2⟩ | ⟨G, A, B, eA, eB, hA, hB, c1, c2⟩
  · rw [c1, c2]; rfl
  · have := G.l8
    have := G.len
    have hd := dot_small G
    have hm := ab_small hA hB
    have m1 : 0 < A * B → laws_mIs_f k (((dot (L5.zip R5) / Nat.gcd (dot (L5.zip R5)) (A * B) : Nat) : Int)) (((A * B / Nat.gcd (dot (L5.zip R5)) (A * B) : Nat) : Int)) (dot (L5.zip R5) : Int) (iw ((A : Int) * (B : Int))) = some ((true, ()), ()) := fun hp => by
      rw [show (A : Int) * (B : Int) = ((A * B : Nat) : Int) by exact_mod_cast rfl, iw_id (by omega) (by omega)]
      exact mIs_is k _ _ (by omega) hp (by omega) (by omega)
    have hn : iw ((A : Int) + (B : Int)) = ((A + B : Nat) : Int) := by rw [iw_id (by omega) (by omega)]; omega
    have m2 : 2 ≤ A + B → laws_mIs_f k (((dot (L5.zip R5) / Nat.gcd (dot (L5.zip R5)) (pairUp (A + B)) : Nat) : Int)) (((pairUp (A + B) / Nat.gcd (dot (L5.zip R5)) (pairUp (A + B)) : Nat) : Int)) (dot (L5.zip R5) : Int) (iw (Int.tdiv (iw (((A + B : Nat) : Int) * (iw (((A + B : Nat) : Int) - 1)))) 2)) = some ((true, ()), ()) := fun h2 => by
      obtain ⟨q1, q2, q3⟩ := pairUp_is (A + B) h2 (by omega)
      rw [q1]
      exact mIs_is k _ _ (by omega) q2 (by omega) (by omega)
    have s1 := mSum_is k L5 (by omega) (by omega)
    have s2 := mSum_is k R5 (by omega) (by omega)
    rw [eA] at s1
    rw [eB] at s2
    rcases c1 with c1 | ⟨p1, c1⟩
    · rcases c2 with c2 | ⟨p2, c2⟩
      · rw [c1, c2]; rfl
      · rw [c1, c2]
        simp only [noCh, chOut, cond_true, cond_false, met_inl, l25_is k (by omega) G, s1, s2, Option.bind_some, hn, m2 p2, Bool.not_true]
    · rcases c2 with c2 | ⟨p2, c2⟩
      · rw [c1, c2]
        simp only [noCh, chOut, cond_true, cond_false, met_inl, l25_is k (by omega) G, s1, s2, Option.bind_some, hn, m1 p1, Bool.not_true]
      · rw [c1, c2]
        simp only [chOut, cond_true, cond_false, met_inl, l25_is k (by omega) G, s1, s2, Option.bind_some, hn, m1 p1, m2 p2, Bool.not_true]

theorem bad_cases (L R : List Int) (l r : Int) : (safeVal L R l r = ((false, false, ()), ()) ∧ badVal L R l r = (([], false, ()), ())) ∨ (Choice L R l r ∧ safe L R l r = true ∧ safeVal L R l r = ((true, true, ()), ()) ∧ badVal L R l r = (([], false, ()), ())) ∨
    (Choice L R l r ∧ safeVal L R l r = ((false, true, ()), ()) ∧ ∃ s, badN s (L.zip R) l r = true ∧ badVal L R l r = ((ints (bits s 8), true, ()), ())) := by
  unfold safeVal badVal
  cases hc : choice L R l r with
  | false => exact .inl ⟨rfl, rfl⟩
  | true =>
    have C := choice_is hc
    have hs : safe L R l r = !(gv 0 (L.zip R) l r).isSome := by unfold safe; rw [gv_some]
    cases hg : gv 0 (L.zip R) l r with
    | none =>
      rw [hg] at hs
      have hs : safe L R l r = true := hs
      exact .inr (.inl ⟨C, hs, by rw [hs]; rfl, rfl⟩)
    | some o =>
      rw [hg] at hs
      have hs : safe L R l r = false := hs
      obtain ⟨s, k1, k2, k3, _⟩ := gv_least _ _ _ _ _ hg
      rw [zip_len C.G] at k1 k3
      have e : o = bits s 8 := by
        rw [k3, cols_bits]
        have e := bits_far s L.length k1 (8 - L.length)
        have := C.G.l8
        rw [show L.length + (8 - L.length) = 8 by omega] at e
        rw [e]; simp
      exact .inr (.inr ⟨C, by rw [hs]; rfl, s, k2, by rw [e]; rfl⟩)
theorem bad_len (L R : List Int) (l r : Int) : (badVal L R l r).1.1.length ≤ 8 := by
  rcases bad_cases L R l r with ⟨_, e⟩ | ⟨_, _, _, e⟩ | ⟨_, _, s, _, e⟩ <;> rw [e]
  · simp
  · simp
  · show (ints (bits s 8)).length ≤ 8
    rw [ints_len]; exact bits_len s 8
theorem law_is (k : Nat) (hk : 100000 ≤ k) (l0 l1 : List Int) (h0 : ∀ x ∈ l0, 0 ≤ x ∧ x ≤ 255) (h1 : ∀ x ∈ l1, 0 ≤ x ∧ x ≤ 255) : laws_FnGlovesSafe_f k l0 l1 = some ((true, ()), ()) := by
  unfold laws_FnGlovesSafe_f
  obtain ⟨b, eb⟩ := big_is k l0 l1
  obtain ⟨L, R, l, r, ed, d, r1, r2⟩ := drawSafe_is k (by omega) l0 h0
  rw [eb]
  simp only [Option.bind_some]
  cases b with
  | true => rfl
  | false =>
    have hb := bad_len L R l r
    simp only [cond_false, ed, Option.bind_some, isSafeChoice_is k (by omega) L R d.1 d.2.1, specSafeChoice_is k (by omega) L R d.1 d.2.1, badColours_is k (by omega) L R d.1 d.2.1, specBad_is k (by omega) L R d.1 d.2.1, mSame_is k (badVal L R l r).1.1 (by omega) (by omega), beq_self_eq_true, Bool.not_true]
    refine met_go ((L, R, ()), false, ()) ?_ ?_
    · rcases bad_cases L R l r with ⟨e1, e2⟩ | ⟨_, _, e1, e2⟩ | ⟨_, e1, s, _, e2⟩ <;> rw [e1, e2] <;> rfl
    simp only [cond_false]
    refine met_go ((L, R, ()), ()) ?_ ?_
    · rcases bad_cases L R l r with ⟨e1, e2⟩ | ⟨_, _, e1, e2⟩ | ⟨C, e1, s, hs, e2⟩
      · rw [e2]; rfl
      · rw [e2]; rfl
      · rw [e2]
        have hp := pk_bad _ _ _ _ hs
        simp only [cond_true, l2_is k (by omega) C.G s, met_inl, mRises_is k (bits s 8) (by have := bits_len s 8; omega) (by have := bits_len s 8; omega) (bits_rise s 8), Option.bind_some, Bool.not_true, cond_false]
        rw [cond_dec, if_neg (by omega), decide_eq_false (by omega)]
        rfl
    simp only []
    have sv1 : ∀ {L R : List Int} {l r : Int}, Choice L R l r → sumW L = L.sum := fun C => by
      have := C.G.l8
      exact sumW_is C.G.inL (by omega)
    rcases bad_cases L R l r with ⟨e1, e2⟩ | ⟨C, hs, e1, e2⟩ | ⟨C, e1, s, hs, e2⟩
    · refine met_go ((L, R, ()), false, ()) (by rw [e1]; rfl) ?_
      exact law2_is k hk l1 h1
    · refine met_go ((L, R, ()), decide (l < L.sum), ()) ?_ ?_
      · rw [e1]
        have := d.1
        simp only [cond_true, mSum_is k L (by omega) (by omega), sv1 C, Option.bind_some]
      simp only []
      refine met_go () ?_ (law2_is k hk l1 h1)
      rw [cond_dec]
      split
      · rename_i hlt
        have := C.l0
        rw [iw_id (by omega) (by omega)]
        have sv : safeVal L R (l + 1) r = ((true, true, ()), ()) := by
          unfold safeVal
          rw [if_pos (choice_true C.G (by omega) (by omega) C.r0 C.r1), safe_up hs (by omega) (Int.le_refl _)]
        rw [isSafeChoice_is k (by omega) L R d.1 d.2.1, sv, e1]; rfl
      · rfl
    · refine met_go ((L, R, ()), decide (l < L.sum), ()) ?_ ?_
      · rw [e1]
        have := d.1
        simp only [cond_true, mSum_is k L (by omega) (by omega), sv1 C, Option.bind_some]
      simp only []
      refine met_go () ?_ (law2_is k hk l1 h1)
      rw [cond_dec]
      split
      · rename_i hlt
        have := C.l0
        rw [iw_id (by omega) (by omega)]
        have sv : safeVal L R (l + 1) r = ((safe L R (l + 1) r, true, ()), ()) := by
          unfold safeVal
          rw [if_pos (choice_true C.G (by omega) (by omega) C.r0 C.r1)]
        rw [isSafeChoice_is k (by omega) L R d.1 d.2.1, sv, e1]; rfl
      · rfl
theorem byte_in {l : List Int} (h : ∀ x ∈ l, (Lit.int .u8 x).wf = true) : ∀ x ∈ l, 0 ≤ x ∧ x ≤ 255 := fun x hx => by
  have := h x hx
  simpa [Lit.wf, IntKind.min, IntKind.max, IntKind.signed, IntKind.bits] using this
theorem pure_FnGlovesSafe : Law laws_FnGlovesSafe_f := fun l0 l1 _ h0 _ h1 => ⟨100000, law_is 100000 (Nat.le_refl _) l0 l1 (byte_in h0) (byte_in h1)⟩

end Go.Proofs.YtapimfgiideojaaV.Law

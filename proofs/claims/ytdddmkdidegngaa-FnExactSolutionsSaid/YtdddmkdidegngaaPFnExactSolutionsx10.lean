/- The functions that a law reaches, and proofs that the Go code comes to just their answers: written by a program of this session out of the translation. Conditions: those that each theorem states. -/
import Derived.Test.YtdddmkdidegngaaPFnExactSolutionsx0
import Derived.Test.YtdddmkdidegngaaPFnExactSolutionsx7
import Derived.Test.YtdddmkdidegngaaPFnExactSolutionsx9
namespace Go.Proofs.Ytdddmkdidegngaa.PFnExactSolutions
open Go.RowKit Go.Proofs.YtdddmkdidegngaaW.PrintWords Go.Proofs.YtdddmkdidegngaaW.PrintLast Go.Proofs.YtdddmkdidegngaaW.PrintMore
attribute [local go_sem] max2_int min2_int max_two min_two max_three min_three max_four min_four   -- for this text's walks alone
set_option linter.unusedVariables false
set_option linter.unusedSimpArgs false

/-! ### impl_solve: function 101 -/
theorem impl_solve.zc_len (z : Array Value) (n : Nat) : (Builtin.zeroCells z n).toList.length = n * z.size := by simp [Builtin.zeroCells]
theorem impl_solve.zc_one (z : Array Value) (n : Nat) (h1 : ∀ u ∈ z.toList, u.oneCell' = true) : ∀ u ∈ (Builtin.zeroCells z n).toList, u.oneCell' = true := by
  intro u hu
  simp only [Builtin.zeroCells, Array.toList_map, List.mem_map, Array.toList_range, List.mem_range] at hu
  obtain ⟨i, hi, rfl⟩ := hu
  have hz : 0 < z.size := by
    rcases Nat.eq_zero_or_pos z.size with h | h
    · rw [h, Nat.mul_zero] at hi; omega
    · exact h
  have hm := Nat.mod_lt i hz
  rw [getElem!_pos z _ hm]
  exact h1 _ (by rw [← Array.getElem_toList (h := by simpa using hm)]; exact List.getElem_mem _)
theorem impl_solve.clear_run {P : Program} {e t ty : TypeId} {z : Value} {sz bytes : Nat} (ht : P.underlying t = some (.slice e)) (hinfo : (P.info? e).map (fun i => (i.zero, i.size, i.bytes)) = some (some z, sz, bytes)) (h1 : ∀ u ∈ z.cells.toList, u.oneCell' = true) (W : World) (b o n c : Nat) (hn : 0 < n)
    (hc : ∀ j, j < n * z.cells.size → (W.cell? ⟨b, o + j, none⟩).isSome = true) (hf : ∀ j, j < n * z.cells.size → W.frozen? ⟨b, o + j, none⟩ = false) :
    (Builtin.clear_ #[t] ty #[.slice (some ⟨b, o, none⟩) n c]).run P W = .ok (.tuple #[]) (W.setCells b o (Builtin.zeroCells z.cells n).toList) := by
  obtain ⟨i0, hi, hz⟩ := Option.map_eq_some_iff.1 hinfo
  have hz1 : i0.zero = some z := by injection hz
  have hst := run_storeCells_cells (P := P) b o (Builtin.zeroCells z.cells n).toList 0 W (by rw [impl_solve.zc_len]; simpa using hc) (by rw [impl_solve.zc_len]; simpa using hf) (impl_solve.zc_one _ _ h1)
  simp only [Nat.add_zero] at hst
  obtain ⟨m, rfl⟩ : ∃ m, n = m + 1 := ⟨n - 1, by omega⟩
  simp [Builtin.clear_, run_underlying ht, zeroValue, typeInfo, hi, hz1, hst]
/-- Those of which a test tells false. -/
def impl_solve.left (φ : List Int → Option Bool) : List (List Int) → Option (List (List Int))
  | [] => some []
  | x :: l => (φ x).bind fun b => (impl_solve.left φ l).bind fun r => some (if b = true then r else x :: r)
/-- Rows in a block, from its second cell on. -/
structure impl_solve.Rows (W : World) (g : Nat) (ok : Nat → Prop) (cur : Array Value) (vs : List Value) (ys : List (List Int)) : Prop where
  hg : W.heap[g]? = some (.cells cur 22 (0, 0))
  len : vs.length = ys.length
  at_ : ∀ (t : Nat) (u : Value), vs[t]? = some u → cur[1 + t]? = some u
  row : ∀ (t : Nat) (y : List Int) (u : Value), ys[t]? = some y → vs[t]? = some u → Kd.FK (Kd.slice 3 (Kd.int .i64)) W (fun q => ok q ∧ q ≠ g) y [u]
theorem impl_solve.Rows.V {W : World} {g base c : Nat} {ok : Nat → Prop} {cur : Array Value} {vs : List Value} {ys : List (List Int)} (h : impl_solve.Rows W g ok cur vs ys) (hok : ok g) (hc : ys.length ≤ c) (hm : ys.length ≤ 9223372036854775807) : Kd.V (Kd.slice 3 (Kd.int .i64)) 22 W base ok (.slice (some ⟨g, 1, none⟩) ys.length c) ys := by
  refine Kd.V_mk hc (fun W' hW => ⟨rfl, hm, fun hp => ⟨_, rfl, fun j y hj => ?_⟩⟩)
  have hjl : j < vs.length := by rw [h.len]; exact (List.getElem?_eq_some_iff.1 hj).1
  have hu : vs[j]? = some vs[j] := List.getElem?_eq_getElem hjl
  refine ⟨[vs[j]], rfl, h.row j y _ hj hu W' (fun q hq hlt => hW q hq.1 hlt), fun i u hi => ?_⟩
  have hg' : W'.heap[g]? = some (.cells cur 22 (0, 0)) := (hW g hok (blk_lt h.hg)).trans h.hg
  cases i with
  | zero =>
    simp only [List.getElem?_cons_zero, Option.some.injEq] at hi
    subst hi
    rw [add_at, show 1 + (j * (Kd.slice 3 (Kd.int .i64)).sz + 0) = 1 + j from by rw [show (Kd.slice 3 (Kd.int .i64)).sz = 1 from rfl]; omega, blk_cell hg']
    exact h.at_ j _ hu
  | succ i => simp at hi
theorem impl_solve.Rows.of_S {W : World} {g base c : Nat} {x0 : List Int} {xs : List (List Int)} (h : Kd.S (Kd.slice 3 (Kd.int .i64)) 22 W base (fun _ => True) (.slice (some ⟨g, 0, none⟩) (xs.length + 1) c) (x0 :: xs)) :
    ∃ cur vs, impl_solve.Rows W g (fun q => base ≤ q) cur vs xs ∧ xs.length + 1 ≤ cur.size := by
  obtain ⟨cur, hg⟩ := Kd.S_typed h g rfl
  have hN := Kd.S_N (Kd.S_bound h)
  have hget : ∀ t, t < xs.length → ∃ u, cur[1 + t]? = some u ∧ Kd.FK (Kd.slice 3 (Kd.int .i64)) W (fun q => base ≤ q ∧ q ≠ g) (xs.getD t []) [u] := by
    intro t ht
    obtain ⟨cs, hl, hK, hc⟩ := Kd.N_get hN [] ((t : Int) + 1) (by omega) (by omega)
    obtain ⟨u, rfl⟩ : ∃ u, cs = [u] := by
      match cs, hl with
      | [u], _ => exact ⟨u, rfl⟩
    have h1 := hc 0 u rfl
    rw [add_at, show 0 + (((t : Int) + 1).toNat * (Kd.slice 3 (Kd.int .i64)).sz + 0) = 1 + t from by rw [show (Kd.slice 3 (Kd.int .i64)).sz = 1 from rfl]; omega, blk_cell hg] at h1
    refine ⟨u, h1, ?_⟩
    rw [show ((t : Int) + 1).toNat = t + 1 from by omega] at hK
    exact Kd.FK_mono hK (fun q hq => ⟨hq.1.2.1, fun he => hq.2 (by rw [he]; rfl)⟩)
  have hsz : xs.length + 1 ≤ cur.size := by
    rcases Nat.eq_zero_or_pos xs.length with h0 | h0
    · obtain ⟨cs, hl, hK, hc⟩ := Kd.N_get hN [] 0 (by omega) (by omega)
      obtain ⟨u, rfl⟩ : ∃ u, cs = [u] := by
        match cs, hl with
        | [u], _ => exact ⟨u, rfl⟩
      have h1 := hc 0 u rfl
      rw [add_at, blk_cell hg] at h1
      have := (Array.getElem?_eq_some_iff.1 h1).1
      omega
    · obtain ⟨u, hu, _⟩ := hget (xs.length - 1) (by omega)
      have := (Array.getElem?_eq_some_iff.1 hu).1
      omega
  refine ⟨cur, (cur.toList.drop 1).take xs.length, ⟨hg, ?_, ?_, ?_⟩, hsz⟩
  · simp; omega
  · intro t u hu
    rw [List.getElem?_take] at hu
    split at hu
    · rw [List.getElem?_drop, Array.getElem?_toList] at hu; exact hu
    · cases hu
  · intro t y u hy hu
    obtain ⟨ht, hy'⟩ := List.getElem?_eq_some_iff.1 hy
    obtain ⟨u', hu', hK⟩ := hget t ht
    rw [List.getElem?_take, if_pos ht, List.getElem?_drop, Array.getElem?_toList, hu'] at hu
    injection hu with hu
    subst hu
    rw [List.getD_eq_getElem?_getD, hy] at hK
    exact hK
def impl_solve.del (k : Nat) (xs : List (List Int)) (φ : List Int → Option Bool) : Option (List (List Int)) :=
  (slices_IndexFunc_ssint_sint.f k xs φ).bind fun i => if i = -1 then some xs else if 0 ≤ i ∧ i < (xs.length : Int) then (impl_solve.left φ (xs.drop (i.toNat + 1))).bind fun r => some (xs.take i.toNat ++ r) else none
/-- In the midst: yj are kept, in kv's cells; behind them lies what lay there (vs from i on). -/
structure impl_solve.Mid (wF W0 W : World) (g : Nat) (csz : Nat) (vs : List Value) (c0 : Array Value) (xs : List (List Int)) (j : Nat) (i : Nat) (yj : List (List Int)) : Prop where
  out : ∃ (cur : Array Value) (kv : List Value), W.heap[g]? = some (.cells cur 22 (0, 0)) ∧ cur.size = csz ∧ yj.length = i ∧ kv.length = i ∧ (∀ (t : Nat) (u : Value), (kv ++ vs.drop i)[t]? = some u → cur[1 + t]? = some u) ∧ (∀ (t : Nat) (y : List Int) (u : Value), yj[t]? = some y → kv[t]? = some u → Kd.FK (Kd.slice 3 (Kd.int .i64)) W0 (fun q => wF.heap.size ≤ q ∧ q ≠ g) y [u]) ∧ cur[0]? = c0[0]? ∧ ∃ js : List Nat, js.length = i ∧ js.Pairwise (· < ·) ∧ (∀ q ∈ js, q < j) ∧ ∀ (t q : Nat), js[t]? = some q → kv[t]? = vs[q]? ∧ yj[t]? = xs[q]?
  keep : ∀ q, q < W0.heap.size → q ≠ g → W.heap[q]? = W0.heap[q]?
  hB : Below wF.heap.size wF W
  size : W0.heap.size ≤ W.heap.size
theorem impl_solve.Mid.step {wF W0 W W1 : World} {g csz : Nat} {vs : List Value} {c0 : Array Value} {xs : List (List Int)} {j : Nat} {i : Nat} {yj : List (List Int)} (h : impl_solve.Mid wF W0 W g csz vs c0 xs j i yj) (hb : Below W.heap.size W W1) : impl_solve.Mid wF W0 W1 g csz vs c0 xs j i yj := by
  obtain ⟨⟨cur, kv, hg, r⟩, hk, hB, hs⟩ := h
  exact ⟨⟨cur, kv, blk_below hg hb, r⟩, fun q hq hne => (hb.block q (Nat.lt_of_lt_of_le hq hs)).trans (hk q hq hne), below_then hB hB.size hb, Nat.le_trans hs hb.size⟩
/-- One more is kept: v, that stood at j, comes to i. -/
theorem impl_solve.Mid.skip {wF W0 W : World} {g csz : Nat} {vs : List Value} {c0 : Array Value} {xs : List (List Int)} {j : Nat} {i : Nat} {yj : List (List Int)} (h : impl_solve.Mid wF W0 W g csz vs c0 xs j i yj) : impl_solve.Mid wF W0 W g csz vs c0 xs (j + 1) i yj := by
  obtain ⟨⟨cur, kv, a1, a2, a3, a4, a5, a6, a7, js, b1, b2, b3, b4⟩, k1, k2, k3⟩ := h
  exact ⟨⟨cur, kv, a1, a2, a3, a4, a5, a6, a7, js, b1, b2, fun q hq => Nat.lt_succ_of_lt (b3 q hq), b4⟩, k1, k2, k3⟩
theorem impl_solve.Mid.put {wF W0 W : World} {g csz : Nat} {vs : List Value} {c0 : Array Value} {xs : List (List Int)} {j : Nat} {i : Nat} {yj : List (List Int)} {y : List Int} {u : Value} (h : impl_solve.Mid wF W0 W g csz vs c0 xs j i yj) (hgF : wF.heap.size ≤ g) (hi : i < vs.length) (hu : Kd.FK (Kd.slice 3 (Kd.int .i64)) W0 (fun q => wF.heap.size ≤ q ∧ q ≠ g) y [u]) (hju : vs[j]? = some u) (hjy : xs[j]? = some y) : impl_solve.Mid wF W0 (W.setCell ⟨g, 1 + i, none⟩ u) g csz vs c0 xs (j + 1) (i + 1) (yj ++ [y]) := by
  obtain ⟨⟨cur, kv, hg, hsz, hy, hkv, hat, hrow, h0, js, hjl, hjp, hjlt, hjs⟩, hk, hB, hs⟩ := h
  have hlt : 1 + i < cur.size := by
    have h1 : (kv ++ vs.drop i)[i]? = some vs[i] := by
      rw [List.getElem?_append_right (by omega), hkv, Nat.sub_self, List.getElem?_drop, Nat.add_zero, List.getElem?_eq_getElem hi]
    exact (Array.getElem?_eq_some_iff.1 (hat i _ h1)).1
  refine ⟨⟨cur.setIfInBounds (1 + i) u, kv ++ [u], blk_set hg (1 + i) u, by simpa using hsz, by simp [hy], by simp [hkv], ?_, ?_, ?_, js ++ [j], by simp [hjl], ?_, ?_, ?_⟩, ?_, hB.setCell hgF _, by simpa [World.setCell] using hs⟩
  · intro t v ht
    rw [Array.getElem?_setIfInBounds]
    rcases Nat.lt_trichotomy t i with h1 | h1 | h1
    · rw [if_neg (by omega)]
      refine hat t v ?_
      rw [List.append_assoc, List.getElem?_append_left (by omega)] at ht
      rw [List.getElem?_append_left (by omega)]; exact ht
    · subst h1
      rw [if_pos rfl, if_pos hlt]
      rw [List.append_assoc, List.getElem?_append_right (by omega), hkv, Nat.sub_self] at ht
      simpa using ht
    · rw [if_neg (by omega)]
      refine hat t v ?_
      rw [List.getElem?_append_right (by simp; omega)] at ht
      rw [List.getElem?_append_right (by omega), List.getElem?_drop]
      rw [List.getElem?_drop] at ht
      simp only [List.length_append, List.length_singleton, hkv] at ht ⊢
      rw [← ht]; congr 1; omega
  · intro t y' v hy' hv
    rcases Nat.lt_or_ge t i with h1 | h1
    · rw [List.getElem?_append_left (by omega)] at hy' hv
      exact hrow t y' v hy' hv
    · rw [List.getElem?_append_right (by omega)] at hy' hv
      rw [hy] at hy'; rw [hkv] at hv
      cases htt : t - i with
      | zero =>
        rw [htt] at hy' hv
        simp only [List.getElem?_cons_zero, Option.some.injEq] at hy' hv
        subst hy'; subst hv; exact hu
      | succ m => rw [htt] at hy'; simp at hy'
  · rw [Array.getElem?_setIfInBounds, if_neg (by omega)]; exact h0
  · exact List.pairwise_append.2 ⟨hjp, List.pairwise_singleton _ _, fun a ha b hb => by rw [List.mem_singleton.1 hb]; exact hjlt a ha⟩
  · intro q hq
    rcases List.mem_append.1 hq with h1 | h1
    · have := hjlt q h1; omega
    · rw [List.mem_singleton.1 h1]; omega
  · intro t q ht
    rcases Nat.lt_or_ge t i with h1 | h1
    · rw [List.getElem?_append_left (by omega)] at ht
      rw [List.getElem?_append_left (by omega), List.getElem?_append_left (by omega)]
      exact hjs t q ht
    · rw [List.getElem?_append_right (by omega), hjl] at ht
      cases htt : t - i with
      | zero =>
        rw [htt] at ht
        simp only [List.getElem?_cons_zero, Option.some.injEq] at ht
        subst ht
        rw [List.getElem?_append_right (by omega), List.getElem?_append_right (by omega), hkv, hy, htt, hju, hjy]
        exact ⟨rfl, rfl⟩
      | succ m => rw [htt] at ht; simp at ht
  · intro q hq hne
    exact (Below.heap_setCell W ⟨g, 1 + i, none⟩ u q hne).trans (hk q hq hne)
theorem impl_solve.Mid.cell {wF W0 W : World} {g csz : Nat} {vs : List Value} {c0 : Array Value} {xs : List (List Int)} {j0 : Nat} {i : Nat} {yj : List (List Int)} (h : impl_solve.Mid wF W0 W g csz vs c0 xs j0 i yj) (j : Nat) (hij : i ≤ j) (u : Value) (hu : vs[j]? = some u) : W.cell? ⟨g, 1 + j, none⟩ = some u ∧ W.frozen? ⟨g, 1 + j, none⟩ = false := by
  obtain ⟨⟨cur, kv, hg, hsz, hy, hkv, hat, hrow, _⟩, _⟩ := h
  refine ⟨?_, blk_frozen hg _⟩
  rw [blk_cell hg]
  refine hat j u ?_
  rw [List.getElem?_append_right (by omega), hkv, List.getElem?_drop, show i + (j - i) = j by omega]
  exact hu
theorem impl_solve.one_cell {l : List Value} {n a : Nat} {u : Value} (ha : a < n) (hu : l[a]? = some u) : ((l.take n).drop (a * 1)).take 1 = [u] := by
  obtain ⟨hl, rfl⟩ := List.getElem?_eq_some_iff.1 hu
  rw [Nat.mul_one, List.drop_eq_getElem_cons (by rw [List.length_take]; omega), List.getElem_take]
  rfl
/-- What lay at js (in order) lies in the cells behind the first: as rows of the call's own, no two of which lead to one block. -/
theorem impl_solve.own_mk {W W' : World} {g base c : Nat} {x0 : List Int} {xs ys : List (List Int)} {cur cur' : Array Value} (h : Kd.S (Kd.slice 3 (Kd.int .i64)) 22 W base (fun _ => True) (.slice (some ⟨g, 0, none⟩) (xs.length + 1) c) (x0 :: xs)) (hgc : W.heap[g]? = some (.cells cur 22 (0, 0))) (hg : W'.heap[g]? = some (.cells cur' 22 (0, 0))) (hs : cur'.size = cur.size) (hkeep : ∀ q, q < W.heap.size → q ≠ g → W'.heap[q]? = W.heap[q]?) (js : List Nat) (hp : js.Pairwise (· < ·)) (hjl : js.length = ys.length) (hle : ys.length ≤ xs.length) (hj : ∀ (t q : Nat), js[t]? = some q → ys[t]? = xs[q]? ∧ cur'[1 + t]? = cur[1 + q]?) (h0 : cur'[0]? = cur[0]?) : Kd.S (Kd.slice 3 (Kd.int .i64)) 22 W' base (fun _ => True) (.slice (some ⟨g, 0, none⟩) (ys.length + 1) c) (x0 :: ys) := by
  obtain ⟨f, hk0, inner, ho, hr⟩ := h
  have hn : js.Nodup := hp.imp (fun h => Nat.ne_of_lt h)
  have hz : ((x0 :: xs).zipIdx).length = xs.length + 1 := by simp
  have hz2 : ((x0 :: ys).zipIdx).length = ys.length + 1 := by simp
  rw [hz] at ho
  obtain ⟨hil, ho⟩ := ho
  rcases ho with ⟨e, _⟩ | ⟨g2, cap, cur2, e, hb, hcur, hnc, hcm, hcs, htk⟩
  · cases e
  · injection e with ea en ec
    injection ea with ea
    injection ea with eg
    subst eg; subst ec
    have hcc : cur2 = cur := by
      have h2 := hcur.symm.trans hgc
      injection h2 with h2; injection h2 with h2
    subst hcc
    rw [show (Kd.tag f (Kd.slice 3 (Kd.int .i64))).sz = 1 from rfl] at hil hcs htk hr
    rw [Nat.mul_one] at htk hcs
    have cellW : ∀ a, a < xs.length + 1 → ∃ u, cur2[a]? = some u ∧ (inner.drop (a * 1)).take 1 = [u] := by
      intro a ha
      have hlt : a < cur2.size := by omega
      refine ⟨cur2[a], Array.getElem?_eq_getElem hlt, ?_⟩
      rw [← htk]
      exact impl_solve.one_cell ha (by rw [Array.getElem?_toList]; exact Array.getElem?_eq_getElem hlt)
    have mv : ∀ (x : List Int) (m : Nat) (cs : List Value) (m' : Nat) (f' : Nat → Nat), (∀ b, f b = m → f' b = m') → (Kd.tag f (Kd.slice 3 (Kd.int .i64))).M W base (fun k => True ∧ some k ≠ (Value.slice (some ⟨g, 0, none⟩) (xs.length + 1) c).ownBlock) (x, m) cs → (Kd.tag f' (Kd.slice 3 (Kd.int .i64))).M W' base (fun k => True ∧ some k ≠ (Value.slice (some ⟨g, 0, none⟩) (ys.length + 1) c).ownBlock) (x, m') cs := by
      intro x m cs m' f' hf hM
      have hM2 := (Kd.tag f (Kd.slice 3 (Kd.int .i64))).M_bound hM
      have hM3 := (Kd.slice 3 (Kd.int .i64)).M_move (w1 := W') (fun k hk => hkeep k hk.1.2.2.1 (fun he => hk.1.1.2 (by rw [he]; rfl))) hM2
      exact (Kd.slice 3 (Kd.int .i64)).M_mono (fun k hk => ⟨⟨trivial, hk.1.1.2⟩, hf k hk.2⟩) hM3
    refine ⟨fun b => if f b = 0 then 0 else js.idxOf (f b - 1) + 1, fun _ _ => trivial, cur'.toList.take (ys.length + 1), ?_, ?_, ?_⟩
    · rw [hz2]
      refine ⟨?_, .inr ⟨g, c, cur', rfl, hb, hg, by omega, hcm, ?_, ?_⟩⟩
      · rw [List.length_take, show cur'.toList.length = cur'.size from rfl, show (Kd.tag _ (Kd.slice 3 (Kd.int .i64))).sz = 1 from rfl]; omega
      · rw [hs, show (Kd.tag _ (Kd.slice 3 (Kd.int .i64))).sz = 1 from rfl]; omega
      · rw [show (Kd.tag _ (Kd.slice 3 (Kd.int .i64))).sz = 1 from rfl, Nat.mul_one]
    · rw [hz2, List.length_take, show cur'.toList.length = cur'.size from rfl, show (Kd.tag _ (Kd.slice 3 (Kd.int .i64))).sz = 1 from rfl]; omega
    · intro j p hjp
      rw [show (Kd.tag _ (Kd.slice 3 (Kd.int .i64))).sz = 1 from rfl]
      rw [List.getElem?_zipIdx, Nat.zero_add] at hjp
      obtain ⟨y, hy, rfl⟩ := Option.map_eq_some_iff.1 hjp
      cases j with
      | zero =>
        simp only [List.getElem?_cons_zero, Option.some.injEq] at hy
        subst hy
        obtain ⟨u, hu, hcu⟩ := cellW 0 (by omega)
        have hM := hr.2 0 (x0, 0) rfl
        rw [hcu] at hM
        rw [impl_solve.one_cell (l := cur'.toList) (a := 0) (by omega) (by rw [Array.getElem?_toList, h0]; exact hu)]
        exact mv x0 0 [u] 0 _ (fun b hb => by rw [if_pos hb]) hM
      | succ t =>
        rw [List.getElem?_cons_succ] at hy
        have htl : t < js.length := by rw [hjl]; exact (List.getElem?_eq_some_iff.1 hy).1
        obtain ⟨hyx, hcc⟩ := hj t js[t] (List.getElem?_eq_getElem htl)
        rw [hy] at hyx
        have hql : js[t] < xs.length := (List.getElem?_eq_some_iff.1 hyx.symm).1
        obtain ⟨u, hu, hcu⟩ := cellW (js[t] + 1) (by omega)
        have hM := hr.2 (js[t] + 1) (y, js[t] + 1) (by rw [List.getElem?_zipIdx, List.getElem?_cons_succ, ← hyx]; simp)
        rw [hcu] at hM
        rw [impl_solve.one_cell (l := cur'.toList) (a := t + 1) (by omega) (by rw [Array.getElem?_toList, Nat.add_comm t 1, hcc, Nat.add_comm 1]; exact hu)]
        exact mv y (js[t] + 1) [u] (t + 1) _ (fun b hb => by rw [if_neg (by omega), hb, Nat.add_sub_cancel, hn.idxOf_getElem t htl]) hM
/-- Rows of the call's own that begin at their block's second cell. -/
def impl_solve.Own (W : World) (base : Nat) (v : Value) (xs : List (List Int)) : Prop := (v = .slice none 0 0 ∧ xs = []) ∨ ∃ (g c : Nat) (x0 : List Int), v = .slice (some ⟨g, 1, none⟩) xs.length c ∧ Kd.S (Kd.slice 3 (Kd.int .i64)) 22 W base (fun _ => True) (.slice (some ⟨g, 0, none⟩) (xs.length + 1) (c + 1)) (x0 :: xs)
theorem impl_solve.Own.below {W W1 : World} {base : Nat} {v : Value} {xs : List (List Int)} (h : impl_solve.Own W base v xs) (hb : Below W.heap.size W W1) : impl_solve.Own W1 base v xs := by
  rcases h with h | ⟨g, c, x0, e, h⟩
  · exact .inl h
  · exact .inr ⟨g, c, x0, e, Kd.S_below h hb⟩
theorem impl_solve.Own.lower {W : World} {base base' : Nat} {v : Value} {xs : List (List Int)} (h : impl_solve.Own W base v xs) (hb : base' ≤ base) : impl_solve.Own W base' v xs := by
  rcases h with h | ⟨g, c, x0, e, h⟩
  · exact .inl h
  · exact .inr ⟨g, c, x0, e, Kd.S_lower h hb⟩
theorem impl_solve.left_cons {φ : List Int → Option Bool} {xs : List (List Int)} {j : Nat} (hj : j < xs.length) {yr : List (List Int)} (h : impl_solve.left φ (xs.drop j) = some yr) : ∃ b r, φ xs[j] = some b ∧ impl_solve.left φ (xs.drop (j + 1)) = some r ∧ yr = if b = true then r else xs[j] :: r := by
  rw [List.drop_eq_getElem_cons hj] at h
  obtain ⟨b, hb, h⟩ := Option.bind_eq_some_iff.mp h
  obtain ⟨r, hr, h⟩ := Option.bind_eq_some_iff.mp h
  exact ⟨b, r, hb, hr, (Option.some.inj h).symm⟩
set_option maxHeartbeats 8000000 in
set_option maxRecDepth 100000 in
theorem impl_solve.delete (k : Nat) (xs ys : List (List Int)) (q : Value) (φ : List Int → Option Bool) (wF W : World) (g c : Nat) (x0 : List Int) (hS : Kd.S (Kd.slice 3 (Kd.int .i64)) 22 W wF.heap.size (fun _ => True) (.slice (some ⟨g, 0, none⟩) (xs.length + 1) c) (x0 :: xs)) (hB : Below wF.heap.size wF W) (hF : F84 wF q φ) (h : impl_solve.del k xs φ = some ys) :
    Calls Try.prog 124 #[.slice (some ⟨g, 1, none⟩) xs.length (c - 1), q] W fun e w' => e = .returned (.slice (some ⟨g, 1, none⟩) ys.length (c - 1)) ∧ Kd.V (Kd.slice 3 (Kd.int .i64)) 22 w' wF.heap.size (fun q => wF.heap.size ≤ q) (.slice (some ⟨g, 1, none⟩) ys.length (c - 1)) ys ∧ impl_solve.Own w' wF.heap.size (.slice (some ⟨g, 1, none⟩) ys.length (c - 1)) ys ∧ Below wF.heap.size wF w' := by
  obtain ⟨cur, vs, hR, hsz⟩ := impl_solve.Rows.of_S hS
  have hgF : wF.heap.size ≤ g := Kd.S_base hS g rfl
  have hcc : xs.length + 1 ≤ c := by have := (Kd.S_reads' hS).2.1; simpa using this
  have hmax : xs.length + 1 ≤ 9223372036854775807 := by have := (Kd.S_reads' hS).2.2.2.1; simpa using this
  unfold impl_solve.del at h
  obtain ⟨i, hi, h⟩ := Option.bind_eq_some_iff.mp h
  have HI := Aside0.mk hi
  have HS := Aside0.mk hS
  have HB := Aside0.mk hB
  have HF := Aside0.mk hF
  have HR := Aside0.mk hR
  have HH := Aside0.mk h
  have HSZ := Aside0.mk hsz
  have HGF := Aside0.mk hgF
  have HCC := Aside0.mk hcc
  have HMAX := Aside0.mk hmax
  clear hi hS hB hF hR h hsz hgF hcc hmax
  have u68 := Try.underlying68
  have u22 := Try.underlying22
  have hC : Kd.C (Kd.slice 3 (Kd.int .i64)) W (some ⟨g, 1, none⟩) xs.length xs := Kd.F_now (Kd.V_F ((impl_solve.Rows.V (base := 0) HR.out HGF.out (c := xs.length) (Nat.le_refl _) (by have := HMAX.out; omega))))
  have HC := Aside0.mk hC
  clear hC
  go_enter Try.func124, Try.ntmps124
  go_wp2_with fail
  refine (slices_IndexFunc_ssint_sint.calls k (some ⟨g, 1, none⟩) (c - 1) xs q φ i W HC.out (by have := HCC.out; omega) (F84_below HF.out HB.out) HI.out).mono ?_
  rintro e w1 ⟨rfl, hb1⟩
  have HB1 := Aside0.mk hb1
  clear hb1
  by_cases h1 : i = -1
  · have h := HH.out
    rw [if_pos h1] at h
    obtain rfl := Option.some.inj h
    have h1b : (i == -1) = true := by simpa using h1
    clear h HH
    go_wp2_with fail
    go_ret
    exact ⟨rfl, Kd.V_below (impl_solve.Rows.V HR.out HGF.out (by have := HCC.out; omega) (by have := HMAX.out; omega)) HB1.out, .inr ⟨g, c - 1, x0, rfl, by rw [show c - 1 + 1 = c by have := HCC.out; omega]; exact Kd.S_below HS.out HB1.out⟩, below_then HB.out HB.out.size HB1.out⟩
  · have h := HH.out
    rw [if_neg h1] at h
    have h1b : (i == -1) = false := by simpa using h1
    by_cases h2 : 0 ≤ i ∧ i < (xs.length : Int)
    rotate_left
    · rw [if_neg h2] at h; cases h
    rw [if_pos h2] at h
    obtain ⟨yr, hyr, h⟩ := Option.bind_eq_some_iff.mp h
    have h := Option.some.inj h
    obtain ⟨i0, rfl⟩ : ∃ i0 : Nat, i = (i0 : Int) := ⟨i.toNat, by omega⟩
    rw [Int.toNat_natCast] at hyr h
    have hw0 : wrap64 ((i0 : Int) + 1) = (i0 : Int) + 1 := by have := HMAX.out; unfold wrap64; omega
    have hM0 : impl_solve.Mid wF W w1 g cur.size vs cur xs (i0 + 1) i0 (xs.take i0) := by
      have hlv := HR.out.len
      refine ⟨⟨cur, vs.take i0, blk_below HR.out.hg HB1.out, rfl, by simp; omega, by simp; omega, fun t u ht => HR.out.at_ t u (by rw [List.take_append_drop] at ht; exact ht), fun t y u hy hu => ?_, rfl, List.range i0, by simp, List.pairwise_lt_range, fun q hq => by have := List.mem_range.1 hq; omega, fun t q ht => ?_⟩, fun q hq _ => HB1.out.block q hq, below_then HB.out HB.out.size HB1.out, HB1.out.size⟩
      · rw [List.getElem?_take] at hy hu
        split at hy
        · rw [if_pos (by assumption)] at hu; exact HR.out.row t y u hy hu
        · cases hy
      · obtain ⟨h1, h2⟩ := List.getElem?_eq_some_iff.1 ht
        rw [List.getElem_range] at h2
        subst h2
        rw [List.length_range] at h1
        exact ⟨by rw [List.getElem?_take, if_pos h1], by rw [List.getElem?_take, if_pos h1]⟩
    have HI0 := Aside0.mk h2.2
    have HM0 := Aside0.mk hM0
    have HYR := Aside0.mk hyr
    have HYS := Aside0.mk h
    clear hM0 hyr h h2 HH HB1 HC
    go_wp2_with fail
    go_loopg [5, 6] (xs.length - (i0 + 1)) (fun kq v5 v6 w' => ∃ (i j : Nat) (yj yr : List (List Int)), v5 = .int .i64 (i : Int) ∧ v6 = .int .i64 (j : Int) ∧ Aside0 (kq + j = xs.length) ∧ Aside0 (i < j) ∧ Aside0 (impl_solve.left φ (xs.drop j) = some yr) ∧ Aside0 (yj ++ yr = ys) ∧ Aside0 (impl_solve.Mid wF W w' g cur.size vs cur xs j i yj))
    case atStart => exact ⟨i0, i0 + 1, xs.take i0, yr, rfl, (congrArg (Value.int .i64) (by have := HMAX.out; have := HI0.out; unfold wrap64; omega)), ⟨by have := HI0.out; omega⟩, ⟨by omega⟩, HYR, HYS, HM0⟩
    case round =>
      clear HYR HYS HM0 hw0
      obtain ⟨i, j, yj, yr, rfl, rfl, HK, HIJ, HYR, HYS, HM⟩ := hrel
      cases gk with
      | succ k1 =>
        have hj : j < xs.length := by have := HK.out; omega
        obtain ⟨b, r, hb, hr, hyr⟩ := impl_solve.left_cons hj HYR.out
        have hjv : j < vs.length := by rw [HR.out.len]; exact hj
        obtain ⟨hx0, hf0⟩ := HM.out.cell j (by have := HIJ.out; omega) vs[j] (List.getElem?_eq_getElem hjv)
        have hKj := HR.out.row j xs[j] vs[j] (List.getElem?_eq_getElem hj) (List.getElem?_eq_getElem hjv)
        obtain ⟨Aj, cj, ej, hlj, hFj⟩ := Kd.FK_slice_open hKj
        have ej2 : vs[j] = .slice Aj xs[j].length cj := by injection ej
        rw [ej2] at hx0
        have hCj : Kd.C (Kd.int .i64) wr Aj xs[j].length xs[j] := Kd.F_now (Kd.F_step hFj (fun q hq hlt => HM.out.keep q hlt hq.2))
        have hji : (j : Int) < (xs.length : Int) := by omega
        have hji2 : decide ((j : Int) < (xs.length : Int)) = true := decide_eq_true hji
        have hji3 : decide (j < xs.length) = true := decide_eq_true hj
        obtain ⟨hc0, hfz0⟩ := HM.out.cell i (Nat.le_refl _) (vs[i]'(by have := HIJ.out; omega)) (List.getElem?_eq_getElem (by have := HIJ.out; omega))
        have HB' := Aside0.mk hb
        have HR' := Aside0.mk hr
        have HY' := Aside0.mk hyr
        have HCJ := Aside0.mk hCj
        have HLJ := Aside0.mk hlj
        have HKJ := Aside0.mk hKj
        have HEJ := Aside0.mk ej2
        have HXJ := Aside0.mk (show xs[j]? = some xs[j] from List.getElem?_eq_getElem hj)
        have HVJ := Aside0.mk (show vs[j]? = some vs[j] from List.getElem?_eq_getElem hjv)
        obtain ⟨xj, hxj⟩ : ∃ x, x = xs[j] := ⟨_, rfl⟩
        rw [← hxj] at HXJ HB' HY' HCJ HLJ HKJ HEJ hx0
        clear hb hr hyr hCj hlj hKj hFj ej ej2 HYR hxj
        have HVI := Aside0.mk (show vs[i]? = some (vs[i]'(by have := HIJ.out; omega)) from List.getElem?_eq_getElem (by have := HIJ.out; omega))
        have hwj : (wrap64 ((j : Int) + 1)) = ((j + 1 : Nat) : Int) := by have := HMAX.out; unfold wrap64; omega
        have hwi : (wrap64 ((i : Int) + 1)) = ((i + 1 : Nat) : Int) := by have := HMAX.out; have := HIJ.out; unfold wrap64; omega
        have HWJ := Aside0.mk hwj
        have HWI := Aside0.mk hwi
        clear hwi hwj
        have hil : i < xs.length := by have := HIJ.out; omega
        have hil2 : (i : Int) < (xs.length : Int) := by omega
        cases b
        · have hyr2 : yr = xj :: r := by simpa using HY'.out
          have HYR2 := Aside0.mk hyr2
          clear hyr2 HY'
          go_wp2_with (first | ((with_reducible refine gate_fn rfl ?_); refine goesF_ (some 28) rfl rfl q #[.slice Aj xj.length cj] rfl (by first | rfl | (go_simp; done)) (by (try simp only [List.map_toArray, List.map_cons, List.map_nil]); first | done | rfl) ?_; refine Runs.mono (F84_below HF.out HM.out.hB Aj cj xj false wr (Below.refl _ _) HCJ.out HLJ.out HB'.out) ?_; rintro e w8 ⟨rfl, hb⟩; refine ⟨_, rfl, ?_⟩; have HM8 := Aside0.mk (HM.out.step hb); have HII := Aside0.mk (HM8.out.cell i (Nat.le_refl _) _ HVI.out); clear hb hc0 hfz0 hx0 hf0; obtain ⟨hc8, hf8⟩ := HII.out))
          have HM9 := Aside0.mk (HM8.out.put HGF.out (by have := HIJ.out; omega) HKJ.out HVJ.out HXJ.out)
          rw [HEJ.out] at HM9
          go_roundg k1
          case measure => omega
          case rel => exact ⟨i + 1, j + 1, yj ++ [xj], r, congrArg (Value.int .i64) HWI.out, congrArg (Value.int .i64) HWJ.out, ⟨by have := HK.out; omega⟩, ⟨by have := HIJ.out; omega⟩, HR', ⟨by rw [← HYS.out, HYR2.out]; simp⟩, HM9⟩
        · have hyr2 : yr = r := by simpa using HY'.out
          have HYR2 := Aside0.mk hyr2
          clear hyr2 HY'
          go_wp2_with (first | ((with_reducible refine gate_fn rfl ?_); refine goesF_ (some 28) rfl rfl q #[.slice Aj xj.length cj] rfl (by first | rfl | (go_simp; done)) (by (try simp only [List.map_toArray, List.map_cons, List.map_nil]); first | done | rfl) ?_; refine Runs.mono (F84_below HF.out HM.out.hB Aj cj xj true wr (Below.refl _ _) HCJ.out HLJ.out HB'.out) ?_; rintro e w8 ⟨rfl, hb⟩; refine ⟨_, rfl, ?_⟩; have HM8 := Aside0.mk (HM.out.step hb); have HII := Aside0.mk (HM8.out.cell i (Nat.le_refl _) _ HVI.out); clear hb hc0 hfz0 hx0 hf0; obtain ⟨hc8, hf8⟩ := HII.out))
          go_roundg k1
          case measure => omega
          case rel => exact ⟨i, j + 1, yj, r, rfl, congrArg (Value.int .i64) HWJ.out, ⟨by have := HK.out; omega⟩, ⟨by have := HIJ.out; omega⟩, HR', ⟨by rw [← HYS.out, HYR2.out]⟩, ⟨HM8.out.skip⟩⟩
      | zero =>
        have hj : j = xs.length := by have := HK.out; omega
        subst hj
        have hyr : yr = [] := by
          have h1 := HYR.out
          rw [List.drop_length] at h1
          exact (Option.some.inj h1).symm
        have hys : yj = ys := by rw [← HYS.out, hyr, List.append_nil]
        subst hys
        obtain ⟨⟨cur', kv, hg, hcs, hyl, hkl, hat, hrow, hc00, js, hjl, hjp, hjlt, hjs⟩, hkeep, hBB, hsize⟩ := HM.out
        have hin : i < xs.length := HIJ.out
        have hji3 : decide (xs.length < xs.length) = false := by simp
        have hic : i ≤ xs.length := by omega
        have hic2 : i ≤ c - 1 := by have := HCC.out; omega
        have hne : ¬ (c - 1 = i) := by have := HCC.out; omega
        have hcl := fun ty => impl_solve.clear_run (P := Try.prog) (ty := ty) Try.underlying68 info22 (by decide) wr g (1 + i) (xs.length - i) (c - 1 - i) (by omega) (fun t ht => by rw [blk_cell hg]; have := HSZ.out; simp [Value.cells] at ht ⊢; omega) (fun t _ => blk_frozen hg _)
        have HCL := Aside0.mk hcl
        go_wp2_with fail
        go_ret
        have hzl : (Builtin.zeroCells #[Value.slice none 0 0] (xs.length - i)).toList.length = xs.length - i := by rw [impl_solve.zc_len]; simp
        obtain ⟨cur2, h3, h4, h5⟩ := setCells_row (Builtin.zeroCells #[Value.slice none 0 0] (xs.length - i)).toList (1 + i) wr cur' hg (by rw [hzl]; have := HSZ.out; omega)
        obtain ⟨s1, s2, s3, s4⟩ := setCells_same g (Builtin.zeroCells #[Value.slice none 0 0] (xs.length - i)).toList (1 + i) wr
        have hfar : ∀ k', k' ≠ g → (wr.setCells g (1 + i) (Builtin.zeroCells #[Value.slice none 0 0] (xs.length - i)).toList).heap[k']? = wr.heap[k']? := fun k' hk' => setCells_far _ _ k' hk'
        have hgr : wr.grownBy (wr.setCells g (1 + i) (Builtin.zeroCells #[Value.slice none 0 0] (xs.length - i)).toList) (some g) := ⟨s1, s2, s3, by rw [s4]; exact Nat.le_refl _, fun k' _ hk' => hfar k' (fun he => hk' (by rw [he]))⟩
        have hRows : impl_solve.Rows (wr.setCells g (1 + i) (Builtin.zeroCells #[Value.slice none 0 0] (xs.length - i)).toList) g (fun q => wF.heap.size ≤ q) cur2 kv yj := by
          refine ⟨h3, by omega, fun t u ht => ?_, fun t y u hy hu => ?_⟩
          · have htl : t < kv.length := (List.getElem?_eq_some_iff.1 ht).1
            rw [← Array.getElem?_toList, h5, List.append_assoc, List.getElem?_append_left (by rw [List.length_take, Array.length_toList]; have := HSZ.out; omega), List.getElem?_take, if_pos (by omega), Array.getElem?_toList]
            exact hat t u (by rw [List.getElem?_append_left htl]; exact ht)
          · exact Kd.FK_step (hrow t y u hy hu) (fun q hq hlt => (hfar q hq.2).trans (hkeep q hlt hq.2))
        have hvl := HR.out.len
        have hown := impl_solve.own_mk (ys := yj) HS.out HR.out.hg h3 (by omega) (fun q hlt hne => (hfar q hne).trans (hkeep q hlt hne)) js hjp (by omega) (by omega) (fun t q hq => by
          obtain ⟨e1, e2⟩ := hjs t q hq
          have htl : t < kv.length := by rw [hkl, ← hjl]; exact (List.getElem?_eq_some_iff.1 hq).1
          have hkt : kv[t]? = some kv[t] := List.getElem?_eq_getElem htl
          exact ⟨e2, (hRows.at_ t _ hkt).trans (HR.out.at_ q _ (e1.symm.trans hkt)).symm⟩) (by
          rw [← Array.getElem?_toList, h5, List.append_assoc, List.getElem?_append_left (by rw [List.length_take, Array.length_toList]; have := HSZ.out; omega), List.getElem?_take, if_pos (by omega), Array.getElem?_toList]
          exact hc00)
        refine ⟨by rw [← hyl]; rfl, impl_solve.Rows.V hRows HGF.out (by omega) (by have := HMAX.out; omega), .inr ⟨g, c - 1, x0, rfl, by rw [show c - 1 + 1 = c by have := HCC.out; omega]; exact hown⟩, hBB.grown hgr hBB.size (fun k hk => by injection hk with hk; subst hk; exact HGF.out)⟩
def impl_solve.f (k : Nat) (a0 : Int) (l1 : List S44) : Option (List (List Int)) := (impl_hidden.f k a0).bind fun xs => impl_solve.del k xs (fun b0 => impl_solve_1.f k b0 l1)
set_option maxHeartbeats 8000000 in
set_option maxRecDepth 100000 in
theorem impl_solve.calls (k : Nat) (a0 : Int) (A1 : Option Addr) (c1 : Nat) (l1 : List S44) (r : List (List Int)) (w : World) (hr1 : Kd.C k44 w A1 l1.length l1) (hc1 : l1.length ≤ c1) (h : impl_solve.f k a0 l1 = some r) :
    Calls Try.prog 101 #[.int .i64 a0, .slice A1 l1.length c1] w fun e w' => ∃ v0_ : Value, e = .returned (v0_) ∧ Kd.V (Kd.slice 3 (Kd.int .i64)) 22 w' w.heap.size (fun k_ => (w.heap.size ≤ k_)) v0_ r ∧ impl_solve.Own w' w.heap.size v0_ r ∧ Below w.heap.size w w' := by
  obtain ⟨xs, hx, h⟩ := Option.bind_eq_some_iff.mp (show ((impl_hidden.f k a0).bind fun xs => impl_solve.del k xs (fun b0 => impl_solve_1.f k b0 l1)) = some r from h)
  have HX := Aside0.mk hx
  have HH := Aside0.mk h
  have HC := Aside0.mk hr1
  have HC1 := Aside0.mk hc1
  clear h hx hr1 hc1
  go_enter Try.func101, Try.ntmps101
  go_wp2_with (first | ((with_reducible refine gate_dst (N := 3) rfl ?_); refine box_event ?hg (N := 3) ?hd (cs := #[.slice A1 l1.length c1]) (t := 34) ?hr ?_; (case hd => rfl); (case hg => rfl); (case hr => first | (go_simp; done) | (go_simp; rfl)); intro gb hgb w2 hbox hb2; have HB2 := Aside0.mk hb2; have HBOX := Aside0.mk hbox; clear hb2 hgb hbox))
  refine (impl_hidden.calls k a0 xs w2 HX.out).mono ?_
  rintro e w3 ⟨g, c, rfl, ⟨x0, hs⟩, hb⟩
  have HS := Aside0.mk hs
  have HB3 := Aside0.mk hb
  clear hs hb
  go_wp2_with fail
  refine (impl_solve.delete k xs r _ (fun b0 => impl_solve_1.f k b0 l1) w2 w3 g c x0 HS.out HB3.out (impl_solve_1.asF k gb A1 c1 l1 w2 HBOX.out (Kd.C_below HC.out HB2.out) HC1.out) HH.out).mono ?_
  rintro e w4 ⟨rfl, hV, hO, hb⟩
  have HOW := Aside0.mk hO
  clear hO
  have HV := Aside0.mk hV
  have HB4 := Aside0.mk hb
  clear hV hb
  go_wp2_with fail
  go_ret
  exact ⟨_, rfl, Kd.V_mono HV.out (fun q hq => Nat.le_trans HB2.out.size hq), HOW.out.lower HB2.out.size, below_step HB2.out HB4.out⟩
/-! ### impl_Solutions: function 59 -/
def impl_Solutions.f (k : Nat) (a0_0 : Int) (l0_1 : List (S44)) : Option ((List (List Int)) × Bool) := (impl_IsPuzzle.f k a0_0 l0_1).bind fun t282 => (if t282 = true then ((impl_solve.f k a0_0 l0_1).bind fun t283 => (some (t283, true))) else (some (([] : List (List Int)), false)))
set_option maxHeartbeats 8000000 in
set_option maxRecDepth 100000 in
theorem impl_Solutions.calls (k : Nat) (a0_0 : Int) (A0_1 : Option Addr) (c0_1 : Nat) (l0_1 : List (S44)) (r1 : List (List Int)) (r2 : Bool) (w : World) (hr0_1 : Kd.C k44 w A0_1 l0_1.length l0_1) (hc0_1 : l0_1.length ≤ c0_1) (h : impl_Solutions.f k a0_0 l0_1 = some (r1, r2)) :
    Calls Try.prog 59 #[.agg #[.int .i64 a0_0, .slice A0_1 l0_1.length c0_1]] w fun e w' => ∃ v0_ : Value, e = .returned (.tuple #[v0_, .bool r2]) ∧ Kd.V (Kd.slice 3 (Kd.int .i64)) 22 w' w.heap.size (fun k_ => (w.heap.size ≤ k_)) v0_ r1 ∧ impl_solve.Own w' w.heap.size v0_ r1 ∧ Below w.heap.size w w' := by
 have hu36 := Try.underlying36
 have HR0_1 := Aside0.mk hr0_1
 have HC0_1 := Aside0.mk hc0_1
 clear hr0_1 hc0_1
 have HB := Aside0.mk (Below.refl w.heap.size w)
 have H : ((impl_IsPuzzle.f k a0_0 l0_1).bind fun t282 => (if t282 = true then ((impl_solve.f k a0_0 l0_1).bind fun t283 => (some (t283, true))) else (some (([] : List (List Int)), false)))) = some (r1, r2) := h
 clear h
 replace H := Option.bind_eq_some_iff.mp H
 obtain ⟨t282, A20, H⟩ := H
 replace H : (if t282 = true then ((impl_solve.f k a0_0 l0_1).bind fun t283 => (some (t283, true))) else (some (([] : List (List Int)), false))) = some (r1, r2) := H
 have A2 := Aside0.mk A20
 clear A20
 by_cases c3 : t282 = true
 ·subst c3
  have H1 : ((impl_solve.f k a0_0 l0_1).bind fun t283 => (some (t283, true))) = some (r1, r2) := by first | (rw [if_pos rfl] at H; exact H) | rfl
  clear H
  have H := H1
  clear H1
  replace H := Option.bind_eq_some_iff.mp H
  obtain ⟨t283, A40, H⟩ := H
  replace H : (some (t283, true)) = some (r1, r2) := H
  have A4 := Aside0.mk A40
  clear A40
  simp only [Option.some.injEq, Prod.mk.injEq] at H
  obtain ⟨rfl, rfl⟩ := H
  go_enter Try.func59, Try.ntmps59
  go_wp2_with (first | ((with_reducible refine gate_dst (N := 1) rfl ?_); refine box_event ?hg (N := 1) ?hd (cs := #[.int .i64 a0_0, .slice A0_1 l0_1.length c0_1]) (t := 36) ?hr ?_; (case hd => rfl); (case hg => rfl); (case hr => first | (go_simp; done) | (go_simp; rfl)); intro gb281 hg w5 hbox hb; have n0_ := Aside0.mk (below_step (by repeat (first | (with_reducible first | exact HB.out | apply below_alloc | apply pw_below_drewN | apply below_drew1) | exact HB.out)) hb); have n1_ := Aside0.mk (hbox); have n2_ := Aside0.mk ((by rw [hg]; exact (below_size (by repeat (first | (with_reducible first | exact HB.out | apply below_alloc | apply pw_below_drewN | apply below_drew1) | exact HB.out))) : w.heap.size ≤ gb281)); have n3_ := Aside0.mk ((by rw [hg]; exact (below_size (by repeat (first | (with_reducible first | exact HB.out | apply below_alloc | apply pw_below_drewN | apply below_drew1) | exact HB.out))) : w.heap.size ≤ gb281)); clear HB; have HB := n0_; have BK281 := n1_; have GW281 := n2_; have GE281 := n3_; clear n0_ n1_ n2_ n3_; clear hb hbox hg; have hcz6_0 : w5.cell? ⟨gb281, 0, none⟩ = some (.int .i64 a0_0) := (blk_cell BK281.out 0).trans rfl; have hcz6_1 : w5.cell? ⟨gb281, 1, none⟩ = some (.slice A0_1 l0_1.length c0_1) := (blk_cell BK281.out 1).trans rfl; have hfz6_0 := blk_frozen BK281.out 0; have hfz6_1 := blk_frozen BK281.out 1) | ((with_reducible refine gate_callee (f := 27) rfl ?_); refine goesL_ (some 5) rfl rfl Try.func27 (by kernel_rfl) rfl #[.agg #[.int .i64 a0_0, .slice A0_1 l0_1.length c0_1]] rfl (by (try simp only [List.map_toArray, List.map_cons, List.map_nil]); first | done | rfl | (simp only [List.length_drop, List.length_take]; rfl)) ?_; (with_reducible refine (impl_IsPuzzle.calls k a0_0 _ _ l0_1 true _ ?side1 ?side2 A2.out).mono ?_); (case side1 => repeat (first | exact (Kd.C_below HR0_1.out HB.out) | (with_reducible refine Kd.C_alloc ?_ _) | (with_reducible refine Kd.C_drewN ?_ _) | (with_reducible refine Kd.C_drew ?_))); (case side2 => exact HC0_1.out); rintro e w7 ⟨rfl, hb⟩; refine ⟨_, rfl, ?_⟩; have n0_ := Aside0.mk (blk_below (g := gb281) (o := .cells #[.int .i64 a0_0, .slice A0_1 l0_1.length c0_1] 36 (0, 0)) (by (with_reducible repeat (first | refine bN ?_ _ | refine bD ?_ | refine bA ?_ _)); exact BK281.out) hb); have n1_ := Aside0.mk (below_step (by repeat (first | (with_reducible first | exact HB.out | apply below_alloc | apply pw_below_drewN | apply below_drew1 | refine below_set ?_ GE281.out) | exact HB.out)) hb); clear BK281; clear HB; have BK281 := n0_; have HB := n1_; clear n0_ n1_; (try clear hb); (try clear hb2); (try clear hk); (try clear hi); have hcz8_0 : w7.cell? ⟨gb281, 0, none⟩ = some (.int .i64 a0_0) := (blk_cell BK281.out 0).trans rfl; have hcz8_1 : w7.cell? ⟨gb281, 1, none⟩ = some (.slice A0_1 l0_1.length c0_1) := (blk_cell BK281.out 1).trans rfl; have hfz8_0 := blk_frozen BK281.out 0; have hfz8_1 := blk_frozen BK281.out 1) | ((with_reducible refine gate_callee (f := 101) rfl ?_); refine goesL_ (some 11) rfl rfl Try.func101 (by kernel_rfl) rfl #[.int .i64 a0_0, .slice A0_1 l0_1.length c0_1] rfl (by (try simp only [List.map_toArray, List.map_cons, List.map_nil]); first | done | rfl | (simp only [List.length_drop, List.length_take]; rfl)) ?_; (with_reducible refine (impl_solve.calls k a0_0 _ _ l0_1 t283 _ ?side1 ?side2 A4.out).mono ?_); (case side1 => repeat (first | exact (Kd.C_below HR0_1.out HB.out) | (with_reducible refine Kd.C_alloc ?_ _) | (with_reducible refine Kd.C_drewN ?_ _) | (with_reducible refine Kd.C_drew ?_))); (case side2 => exact HC0_1.out); rintro e w9 ⟨v284, rfl, ho0, how_, hb⟩; refine ⟨_, rfl, ?_⟩; have HOW := Aside0.mk (how_.lower (below_size (by repeat (first | (with_reducible first | exact HB.out | apply below_alloc | apply pw_below_drewN | apply below_drew1 | refine below_set ?_ GE281.out) | exact HB.out)))); clear how_; have n0_ := Aside0.mk (Kd.V_lower (Kd.V_mono (ok' := fun k_ => (w.heap.size ≤ k_) ∧ k_ ≠ gb281) ho0 (fun k_ hk_ => ⟨(Nat.le_trans (below_size (by repeat (first | (with_reducible first | exact HB.out | apply below_alloc | apply pw_below_drewN | apply below_drew1 | refine below_set ?_ GE281.out) | exact HB.out))) hk_), (Kd.freshB (g := gb281) (o := .cells #[.int .i64 a0_0, .slice A0_1 l0_1.length c0_1] 36 (0, 0)) (by (with_reducible repeat (first | refine bN ?_ _ | refine bD ?_ | refine bA ?_ _)); exact BK281.out) k_ hk_)⟩)) (below_size (by repeat (first | (with_reducible first | exact HB.out | apply below_alloc | apply pw_below_drewN | apply below_drew1 | refine below_set ?_ GE281.out) | exact HB.out)))); have n1_ := Aside0.mk (blk_below (g := gb281) (o := .cells #[.int .i64 a0_0, .slice A0_1 l0_1.length c0_1] 36 (0, 0)) (by (with_reducible repeat (first | refine bN ?_ _ | refine bD ?_ | refine bA ?_ _)); exact BK281.out) hb); have n2_ := Aside0.mk (below_step (by repeat (first | (with_reducible first | exact HB.out | apply below_alloc | apply pw_below_drewN | apply below_drew1 | refine below_set ?_ GE281.out) | exact HB.out)) hb); clear BK281; clear HB; have HO285 := n0_; have BK281 := n1_; have HB := n2_; clear n0_ n1_ n2_; (try clear hb); (try clear hb2); (try clear hk); (try clear hi); (try clear ho0)))
  go_ret2
  exact ⟨_, by first | rfl | (simp [errW_none, errW_some] <;> rfl) | (simp [*, errW_none, errW_some] <;> rfl), by (with_reducible repeat (first | apply Kd.V_alloc | apply Kd.V_drewN | apply Kd.V_drew)); exact Kd.V_mono HO285.out (fun _ hk => hk.1), by first | exact HOW.out | exact HOW.out.below (Below.refl _ _), by repeat (first | (with_reducible first | exact HB.out | apply below_alloc | apply pw_below_drewN | apply below_drew1 | refine below_set ?_ GE281.out) | exact HB.out)⟩
 ·replace c3 := Bool.eq_false_iff.mpr c3
  subst c3
  have H1 : (some (([] : List (List Int)), false)) = some (r1, r2) := by first | (rw [if_neg (show ¬ (false = true) by decide)] at H; exact H) | rfl
  clear H
  have H := H1
  clear H1
  simp only [Option.some.injEq, Prod.mk.injEq] at H
  obtain ⟨rfl, rfl⟩ := H
  go_enter Try.func59, Try.ntmps59
  go_wp2_with (first | ((with_reducible refine gate_dst (N := 1) rfl ?_); refine box_event ?hg (N := 1) ?hd (cs := #[.int .i64 a0_0, .slice A0_1 l0_1.length c0_1]) (t := 36) ?hr ?_; (case hd => rfl); (case hg => rfl); (case hr => first | (go_simp; done) | (go_simp; rfl)); intro gb281 hg w10 hbox hb; have n0_ := Aside0.mk (below_step (by repeat (first | (with_reducible first | exact HB.out | apply below_alloc | apply pw_below_drewN | apply below_drew1) | exact HB.out)) hb); have n1_ := Aside0.mk (hbox); have n2_ := Aside0.mk ((by rw [hg]; exact (below_size (by repeat (first | (with_reducible first | exact HB.out | apply below_alloc | apply pw_below_drewN | apply below_drew1) | exact HB.out))) : w.heap.size ≤ gb281)); have n3_ := Aside0.mk ((by rw [hg]; exact (below_size (by repeat (first | (with_reducible first | exact HB.out | apply below_alloc | apply pw_below_drewN | apply below_drew1) | exact HB.out))) : w.heap.size ≤ gb281)); clear HB; have HB := n0_; have BK281 := n1_; have GW281 := n2_; have GE281 := n3_; clear n0_ n1_ n2_ n3_; clear hb hbox hg; have hcz11_0 : w10.cell? ⟨gb281, 0, none⟩ = some (.int .i64 a0_0) := (blk_cell BK281.out 0).trans rfl; have hcz11_1 : w10.cell? ⟨gb281, 1, none⟩ = some (.slice A0_1 l0_1.length c0_1) := (blk_cell BK281.out 1).trans rfl; have hfz11_0 := blk_frozen BK281.out 0; have hfz11_1 := blk_frozen BK281.out 1) | ((with_reducible refine gate_callee (f := 27) rfl ?_); refine goesL_ (some 5) rfl rfl Try.func27 (by kernel_rfl) rfl #[.agg #[.int .i64 a0_0, .slice A0_1 l0_1.length c0_1]] rfl (by (try simp only [List.map_toArray, List.map_cons, List.map_nil]); first | done | rfl | (simp only [List.length_drop, List.length_take]; rfl)) ?_; (with_reducible refine (impl_IsPuzzle.calls k a0_0 _ _ l0_1 false _ ?side1 ?side2 A2.out).mono ?_); (case side1 => repeat (first | exact (Kd.C_below HR0_1.out HB.out) | (with_reducible refine Kd.C_alloc ?_ _) | (with_reducible refine Kd.C_drewN ?_ _) | (with_reducible refine Kd.C_drew ?_))); (case side2 => exact HC0_1.out); rintro e w12 ⟨rfl, hb⟩; refine ⟨_, rfl, ?_⟩; have n0_ := Aside0.mk (blk_below (g := gb281) (o := .cells #[.int .i64 a0_0, .slice A0_1 l0_1.length c0_1] 36 (0, 0)) (by (with_reducible repeat (first | refine bN ?_ _ | refine bD ?_ | refine bA ?_ _)); exact BK281.out) hb); have n1_ := Aside0.mk (below_step (by repeat (first | (with_reducible first | exact HB.out | apply below_alloc | apply pw_below_drewN | apply below_drew1 | refine below_set ?_ GE281.out) | exact HB.out)) hb); clear BK281; clear HB; have BK281 := n0_; have HB := n1_; clear n0_ n1_; (try clear hb); (try clear hb2); (try clear hk); (try clear hi)))
  go_ret2
  exact ⟨_, by first | rfl | (simp [errW_none, errW_some] <;> rfl) | (simp [*, errW_none, errW_some] <;> rfl), (by exact Kd.V_nil _ _ _ _ _), .inl ⟨rfl, rfl⟩, by repeat (first | (with_reducible first | exact HB.out | apply below_alloc | apply pw_below_drewN | apply below_drew1 | refine below_set ?_ GE281.out) | exact HB.out)⟩
/-! ### laws_eqIntS: function 43 -/
def laws_eqIntS.l0 : Nat → List Int → List Int → Int → Option (Bool)
  | 0, _, _, _ => none
  | k + 1, x0, x1, x5 => if x5 < (x0.length : Int) then (if 0 ≤ x5 then (if x5 < (x1.length : Int) then (if (rd x0 x5) = (rd x1 x5) then (laws_eqIntS.l0 k x0 x1 (wrap64 (x5 + 1))) else (some false)) else (none)) else (none)) else (some true)
def laws_eqIntS.f (k : Nat) (l0 : List Int) (l1 : List Int) : Option (Bool) := if (l0.length : Int) = (l1.length : Int) then (laws_eqIntS.l0 k l0 l1 0) else (some false)
theorem laws_eqIntS.mono_l : ∀ k, (∀ y0 y1 y2, LeO (laws_eqIntS.l0 k y0 y1 y2) (laws_eqIntS.l0 (k + 1) y0 y1 y2))
  | 0 => fun _ _ _ r h => by simp [laws_eqIntS.l0] at h
  | k + 1 => by
    have ih0 := laws_eqIntS.mono_l k
    · intro y0 y1 y2
      unfold laws_eqIntS.l0
      repeat' first
      | (with_reducible exact ih0 _ _ _)
      | (with_reducible exact LeO.refl _)
      | (with_reducible exact LeO.none _)
      | (with_reducible refine LeO.ite ?_ ?_)
      | (with_reducible refine LeO.bind ?_ (fun _ => ?_))
      | exact ih0 _ _ _
      | exact LeO.none _
      | refine LeO.ite ?_ ?_
      | refine LeO.bind ?_ (fun _ => ?_)
theorem laws_eqIntS.mono : ∀ a0 a1 k, LeO (laws_eqIntS.f k a0 a1) (laws_eqIntS.f (k + 1) a0 a1) := by
  intro a0 a1 k
  have ih0 := laws_eqIntS.mono_l k
  unfold laws_eqIntS.f
  repeat' first
      | (with_reducible exact ih0 _ _ _)
      | (with_reducible exact LeO.refl _)
      | (with_reducible exact LeO.none _)
      | (with_reducible refine LeO.ite ?_ ?_)
      | (with_reducible refine LeO.bind ?_ (fun _ => ?_))
      | exact ih0 _ _ _
      | exact LeO.none _
      | refine LeO.ite ?_ ?_
      | refine LeO.bind ?_ (fun _ => ?_)
set_option maxHeartbeats 8000000 in
set_option maxRecDepth 100000 in
theorem laws_eqIntS.calls (k : Nat) (A0 : Option Addr) (c0 : Nat) (l0 : List Int) (A1 : Option Addr) (c1 : Nat) (l1 : List Int) (r : Bool) (w : World) (hr0 : Kd.C (Kd.int .i64) w A0 l0.length l0) (hc0 : l0.length ≤ c0) (hr1 : Kd.C (Kd.int .i64) w A1 l1.length l1) (hc1 : l1.length ≤ c1) (h : laws_eqIntS.f k l0 l1 = some r) :
    Calls Try.prog 43 #[.slice A0 l0.length c0, .slice A1 l1.length c1] w fun e w' => e = .returned (.bool r) ∧ Drawn0 w w' := by
 have HR0 := Aside0.mk hr0
 have HC0 := Aside0.mk hc0
 clear hr0 hc0
 have HR1 := Aside0.mk hr1
 have HC1 := Aside0.mk hc1
 clear hr1 hc1
 have H : (if (l0.length : Int) = (l1.length : Int) then (laws_eqIntS.l0 k l0 l1 0) else (some false)) = some r := h
 clear h
 by_cases c3 : (l0.length : Int) = (l1.length : Int)
 ·rw [if_pos c3] at H
  have c3b0 : ((l0.length : Int) == (l1.length : Int)) = true := beq_iff_eq.mpr c3
  have c3b1 : ((l0.length : Int) != (l1.length : Int)) = false := bne_eq_false_iff_eq.mpr c3
  have c3b2 : (l0.length == l1.length) = true := by first | simpa using c3 | (simp at c3 ⊢; omega)
  clear c3
  have H' := Aside0.mk H
  clear H
  go_enter Try.func43, Try.ntmps43
  go_wp2
  repeat (go_quiet (fail); try go_wp2)
  go_loopg [5] k (fun kq v5 w' => ∃ (x5_1 : Int), v5 = .int .i64 x5_1 ∧ Aside0 (laws_eqIntS.l0 kq l0 l1 x5_1 = some r) ∧ Aside0 (kq ≤ k) ∧ Drawn0 w w')
  case atStart => exact ⟨(0), (by first | rfl | (simp; done) | (simp [*]; done)), H', ⟨Nat.le_refl _⟩, by repeat (first | exact Drawn0.refl _ | apply Drawn0.step)⟩
  case round =>
   clear H'
   try clear c1
   try clear p2
   try clear c3
   try clear c3b0
   try clear c3b1
   try clear c3b2
   obtain ⟨x5_1, rfl, HA, HK1, ⟨m1, rfl⟩⟩ := hrel
   cases gk with
   | zero => exact absurd HA.out (by simp [laws_eqIntS.l0])
   | succ k1 =>
    have H := HA.out
    clear HA
    simp only [laws_eqIntS.l0] at H
    by_cases c4 : x5_1 < (l0.length : Int)
    ·rw [if_pos c4] at H
     have c4b0 : decide (x5_1 < (l0.length : Int)) = true := decide_eq_true c4
     clear c4
     by_cases c5 : 0 ≤ x5_1
     rotate_left
     ·rw [if_neg c5] at H
      exact absurd H (by simp)
     rw [if_pos c5] at H
     have c5b0 : decide (0 ≤ x5_1) = true := decide_eq_true c5
     clear c5
     by_cases c6 : x5_1 < (l1.length : Int)
     rotate_left
     ·rw [if_neg c6] at H
      exact absurd H (by simp)
     rw [if_pos c6] at H
     have c6b0 : decide (x5_1 < (l1.length : Int)) = true := decide_eq_true c6
     clear c6
     by_cases c7 : (rd l0 x5_1) = (rd l1 x5_1)
     ·rw [if_pos c7] at H
      have c7b0 : ((rd l0 x5_1) == (rd l1 x5_1)) = true := beq_iff_eq.mpr c7
      have c7b1 : ((rd l0 x5_1) != (rd l1 x5_1)) = false := bne_eq_false_iff_eq.mpr c7
      clear c7
      have H' := Aside0.mk H
      clear H
      have p276 : 0 ≤ (x5_1 : Int) := of_decide_eq_true (by first | (with_reducible assumption) | assumption)
      have q276 : x5_1 < (l0.length : Int) := of_decide_eq_true (by first | (with_reducible assumption) | assumption)
      obtain ⟨ad276, e276, hx276_0⟩ := Kd.at_int HR0.out x5_1 p276 q276
      cases e276
      replace p276 := eq_true p276
      replace q276 := eq_true q276
      have p277 : 0 ≤ (x5_1 : Int) := of_decide_eq_true (by first | (with_reducible assumption) | assumption)
      have q277 : x5_1 < (l1.length : Int) := of_decide_eq_true (by first | (with_reducible assumption) | assumption)
      obtain ⟨ad277, e277, hx277_0⟩ := Kd.at_int HR1.out x5_1 p277 q277
      cases e277
      replace p277 := eq_true p277
      replace q277 := eq_true q277
      go_wp2
      repeat (go_quiet (fail); try go_wp2)
      go_roundg k1
      case measure => have := HK1.out; omega
      case rel => exact ⟨(wrap64 (x5_1 + 1)), (by first | rfl | (simp; done) | (simp [*]; done)), H', ⟨by have := HK1.out; omega⟩, by repeat (first | exact Drawn0.refl _ | apply Drawn0.step)⟩
     ·rw [if_neg c7] at H
      have c7b0 : ((rd l0 x5_1) == (rd l1 x5_1)) = false := beq_eq_false_iff_ne.mpr c7
      have c7b1 : ((rd l0 x5_1) != (rd l1 x5_1)) = true := bne_iff_ne.mpr c7
      obtain rfl := Option.some.inj H
      have p276 : 0 ≤ (x5_1 : Int) := of_decide_eq_true (by first | (with_reducible assumption) | assumption)
      have q276 : x5_1 < (l0.length : Int) := of_decide_eq_true (by first | (with_reducible assumption) | assumption)
      obtain ⟨ad276, e276, hx276_0⟩ := Kd.at_int HR0.out x5_1 p276 q276
      cases e276
      replace p276 := eq_true p276
      replace q276 := eq_true q276
      have p277 : 0 ≤ (x5_1 : Int) := of_decide_eq_true (by first | (with_reducible assumption) | assumption)
      have q277 : x5_1 < (l1.length : Int) := of_decide_eq_true (by first | (with_reducible assumption) | assumption)
      obtain ⟨ad277, e277, hx277_0⟩ := Kd.at_int HR1.out x5_1 p277 q277
      cases e277
      replace p277 := eq_true p277
      replace q277 := eq_true q277
      go_wp2
      repeat (go_quiet (fail); try go_wp2)
      go_ret
      exact ⟨by first | rfl | (simp; done) | (simp [*]; done), by repeat (first | exact Drawn0.refl _ | apply Drawn0.step)⟩
    ·rw [if_neg c4] at H
     have c4b0 : decide (x5_1 < (l0.length : Int)) = false := decide_eq_false c4
     clear c4
     obtain rfl := Option.some.inj H
     go_wp2
     repeat (go_quiet (fail); try go_wp2)
     go_ret
     exact ⟨by first | rfl | (simp; done) | (simp [*]; done), by repeat (first | exact Drawn0.refl _ | apply Drawn0.step)⟩
 ·rw [if_neg c3] at H
  have c3b0 : ((l0.length : Int) == (l1.length : Int)) = false := beq_eq_false_iff_ne.mpr c3
  have c3b1 : ((l0.length : Int) != (l1.length : Int)) = true := bne_iff_ne.mpr c3
  have c3b2 : (l0.length == l1.length) = false := by first | simpa using c3 | (simp at c3 ⊢; omega)
  obtain rfl := Option.some.inj H
  go_enter Try.func43, Try.ntmps43
  go_wp2
  repeat (go_quiet (fail); try go_wp2)
  go_ret
  exact ⟨by first | rfl | (simp; done) | (simp [*]; done), by repeat (first | exact Drawn0.refl _ | apply Drawn0.step)⟩

/-! ### laws_eqIntSS: function 60 -/
def laws_eqIntSS.l0 : Nat → List (List Int) → List (List Int) → Int → Option (Bool)
  | 0, _, _, _ => none
  | k + 1, x0, x1, x5 => if x5 < (x0.length : Int) then (if 0 ≤ x5 then (if x5 < (x1.length : Int) then ((laws_eqIntS.f k (rd_L3 x0 x5) (rd_L3 x1 x5)).bind fun t280 => (if t280 = true then (laws_eqIntSS.l0 k x0 x1 (wrap64 (x5 + 1))) else (some false))) else (none)) else (none)) else (some true)
def laws_eqIntSS.f (k : Nat) (l0 : List (List Int)) (l1 : List (List Int)) : Option (Bool) := if (l0.length : Int) = (l1.length : Int) then (laws_eqIntSS.l0 k l0 l1 0) else (some false)
theorem laws_eqIntSS.mono_l : ∀ k, (∀ y0 y1 y2, LeO (laws_eqIntSS.l0 k y0 y1 y2) (laws_eqIntSS.l0 (k + 1) y0 y1 y2))
  | 0 => fun _ _ _ r h => by simp [laws_eqIntSS.l0] at h
  | k + 1 => by
    have ih0 := laws_eqIntSS.mono_l k
    · intro y0 y1 y2
      unfold laws_eqIntSS.l0
      repeat' first
      | (with_reducible exact ih0 _ _ _)
      | (with_reducible exact laws_eqIntS.mono _ _ _)
      | (with_reducible exact LeO.refl _)
      | (with_reducible exact LeO.none _)
      | (with_reducible refine LeO.ite ?_ ?_)
      | (with_reducible refine LeO.bind ?_ (fun _ => ?_))
      | exact ih0 _ _ _
      | exact laws_eqIntS.mono _ _ _
      | exact LeO.none _
      | refine LeO.ite ?_ ?_
      | refine LeO.bind ?_ (fun _ => ?_)
theorem laws_eqIntSS.mono : ∀ a0 a1 k, LeO (laws_eqIntSS.f k a0 a1) (laws_eqIntSS.f (k + 1) a0 a1) := by
  intro a0 a1 k
  have ih0 := laws_eqIntSS.mono_l k
  unfold laws_eqIntSS.f
  repeat' first
      | (with_reducible exact ih0 _ _ _)
      | (with_reducible exact laws_eqIntS.mono _ _ _)
      | (with_reducible exact LeO.refl _)
      | (with_reducible exact LeO.none _)
      | (with_reducible refine LeO.ite ?_ ?_)
      | (with_reducible refine LeO.bind ?_ (fun _ => ?_))
      | exact ih0 _ _ _
      | exact laws_eqIntS.mono _ _ _
      | exact LeO.none _
      | refine LeO.ite ?_ ?_
      | refine LeO.bind ?_ (fun _ => ?_)
set_option maxHeartbeats 8000000 in
set_option maxRecDepth 100000 in
theorem laws_eqIntSS.calls (k : Nat) (A0 : Option Addr) (c0 : Nat) (l0 : List (List Int)) (A1 : Option Addr) (c1 : Nat) (l1 : List (List Int)) (r : Bool) (w : World) (hr0 : Kd.C (Kd.slice 3 (Kd.int .i64)) w A0 l0.length l0) (hc0 : l0.length ≤ c0) (hr1 : Kd.C (Kd.slice 3 (Kd.int .i64)) w A1 l1.length l1) (hc1 : l1.length ≤ c1) (h : laws_eqIntSS.f k l0 l1 = some r) :
    Calls Try.prog 60 #[.slice A0 l0.length c0, .slice A1 l1.length c1] w fun e w' => e = .returned (.bool r) ∧ Drawn0 w w' := by
 have HR0 := Aside0.mk hr0
 have HC0 := Aside0.mk hc0
 clear hr0 hc0
 have HR1 := Aside0.mk hr1
 have HC1 := Aside0.mk hc1
 clear hr1 hc1
 have H : (if (l0.length : Int) = (l1.length : Int) then (laws_eqIntSS.l0 k l0 l1 0) else (some false)) = some r := h
 clear h
 by_cases c3 : (l0.length : Int) = (l1.length : Int)
 ·rw [if_pos c3] at H
  have c3b0 : ((l0.length : Int) == (l1.length : Int)) = true := beq_iff_eq.mpr c3
  have c3b1 : ((l0.length : Int) != (l1.length : Int)) = false := bne_eq_false_iff_eq.mpr c3
  have c3b2 : (l0.length == l1.length) = true := by first | simpa using c3 | (simp at c3 ⊢; omega)
  clear c3
  have H' := Aside0.mk H
  clear H
  go_enter Try.func60, Try.ntmps60
  go_wp2
  repeat (go_quiet (fail); try go_wp2)
  go_loopg [5] k (fun kq v5 w' => ∃ (x5_1 : Int), v5 = .int .i64 x5_1 ∧ Aside0 (laws_eqIntSS.l0 kq l0 l1 x5_1 = some r) ∧ Aside0 (kq ≤ k) ∧ Drawn0 w w')
  case atStart => exact ⟨(0), (by first | rfl | (simp; done) | (simp [*]; done)), H', ⟨Nat.le_refl _⟩, by repeat (first | exact Drawn0.refl _ | apply Drawn0.step)⟩
  case round =>
   clear H'
   try clear c1
   try clear p2
   try clear c3
   try clear c3b0
   try clear c3b1
   try clear c3b2
   obtain ⟨x5_1, rfl, HA, HK1, ⟨m1, rfl⟩⟩ := hrel
   cases gk with
   | zero => exact absurd HA.out (by simp [laws_eqIntSS.l0])
   | succ k1 =>
    have H := HA.out
    clear HA
    simp only [laws_eqIntSS.l0] at H
    by_cases c4 : x5_1 < (l0.length : Int)
    ·rw [if_pos c4] at H
     have c4b0 : decide (x5_1 < (l0.length : Int)) = true := decide_eq_true c4
     clear c4
     by_cases c5 : 0 ≤ x5_1
     rotate_left
     ·rw [if_neg c5] at H
      exact absurd H (by simp)
     rw [if_pos c5] at H
     have c5b0 : decide (0 ≤ x5_1) = true := decide_eq_true c5
     clear c5
     by_cases c6 : x5_1 < (l1.length : Int)
     rotate_left
     ·rw [if_neg c6] at H
      exact absurd H (by simp)
     rw [if_pos c6] at H
     have c6b0 : decide (x5_1 < (l1.length : Int)) = true := decide_eq_true c6
     clear c6
     replace H := Option.bind_eq_some_iff.mp H
     obtain ⟨t280, A70, H⟩ := H
     replace H : (if t280 = true then (laws_eqIntSS.l0 k1 l0 l1 (wrap64 (x5_1 + 1))) else (some false)) = some r := H
     have A7 := Aside0.mk A70
     clear A70
     by_cases c8 : t280 = true
     ·subst c8
      have H1 : (laws_eqIntSS.l0 k1 l0 l1 (wrap64 (x5_1 + 1))) = some r := by first | (rw [if_pos rfl] at H; exact H) | rfl
      clear H
      have H := H1
      clear H1
      have H' := Aside0.mk H
      clear H
      have p278 : 0 ≤ (x5_1 : Int) := of_decide_eq_true (by first | (with_reducible assumption) | assumption)
      have q278 : x5_1 < (l0.length : Int) := of_decide_eq_true (by first | (with_reducible assumption) | assumption)
      obtain ⟨ad278, A278_0, c278_0, e278, hx278_0, hl278_0, hi278_0⟩ := at_L3 HR0.out x5_1 p278 q278
      cases e278
      have HR278_0 := Aside0.mk hi278_0
      have HC278_0 := Aside0.mk hl278_0
      clear hi278_0 hl278_0
      replace p278 := eq_true p278
      replace q278 := eq_true q278
      have p279 : 0 ≤ (x5_1 : Int) := of_decide_eq_true (by first | (with_reducible assumption) | assumption)
      have q279 : x5_1 < (l1.length : Int) := of_decide_eq_true (by first | (with_reducible assumption) | assumption)
      obtain ⟨ad279, A279_0, c279_0, e279, hx279_0, hl279_0, hi279_0⟩ := at_L3 HR1.out x5_1 p279 q279
      cases e279
      have HR279_0 := Aside0.mk hi279_0
      have HC279_0 := Aside0.mk hl279_0
      clear hi279_0 hl279_0
      replace p279 := eq_true p279
      replace q279 := eq_true q279
      go_wp2_with (first | (go_at_call 43; (with_reducible refine (laws_eqIntS.calls k1 _ _ (rd_L3 l0 x5_1) _ _ (rd_L3 l1 x5_1) true _ ?side1 ?side2 ?side3 ?side4 A7.out).mono ?_); (case side1 => repeat (first | exact HR278_0.out | (with_reducible refine Kd.C_alloc ?_ _) | (with_reducible refine Kd.C_drewN ?_ _) | (with_reducible refine Kd.C_drew ?_))); (case side2 => exact HC278_0.out); (case side3 => repeat (first | exact HR279_0.out | (with_reducible refine Kd.C_alloc ?_ _) | (with_reducible refine Kd.C_drewN ?_ _) | (with_reducible refine Kd.C_drew ?_))); (case side4 => exact HC279_0.out); rintro e w' ⟨rfl, ⟨nd, rfl⟩⟩; (try first | exact ⟨rfl, _, World.drewN_drewN _ _ _⟩ | exact ⟨rfl, _, Eq.trans (World.drewN_drewN _ _ _) (congrArg (World.drewN _) (Nat.add_assoc _ _ _))⟩)))
      repeat (go_quiet (first | (go_at_call 43; (with_reducible refine (laws_eqIntS.calls k1 _ _ (rd_L3 l0 x5_1) _ _ (rd_L3 l1 x5_1) true _ ?side1 ?side2 ?side3 ?side4 A7.out).mono ?_); (case side1 => repeat (first | exact HR278_0.out | (with_reducible refine Kd.C_alloc ?_ _) | (with_reducible refine Kd.C_drewN ?_ _) | (with_reducible refine Kd.C_drew ?_))); (case side2 => exact HC278_0.out); (case side3 => repeat (first | exact HR279_0.out | (with_reducible refine Kd.C_alloc ?_ _) | (with_reducible refine Kd.C_drewN ?_ _) | (with_reducible refine Kd.C_drew ?_))); (case side4 => exact HC279_0.out); rintro e w' ⟨rfl, ⟨nd, rfl⟩⟩; (try first | exact ⟨rfl, _, World.drewN_drewN _ _ _⟩ | exact ⟨rfl, _, Eq.trans (World.drewN_drewN _ _ _) (congrArg (World.drewN _) (Nat.add_assoc _ _ _))⟩))); try go_wp2_with (first | (go_at_call 43; (with_reducible refine (laws_eqIntS.calls k1 _ _ (rd_L3 l0 x5_1) _ _ (rd_L3 l1 x5_1) true _ ?side1 ?side2 ?side3 ?side4 A7.out).mono ?_); (case side1 => repeat (first | exact HR278_0.out | (with_reducible refine Kd.C_alloc ?_ _) | (with_reducible refine Kd.C_drewN ?_ _) | (with_reducible refine Kd.C_drew ?_))); (case side2 => exact HC278_0.out); (case side3 => repeat (first | exact HR279_0.out | (with_reducible refine Kd.C_alloc ?_ _) | (with_reducible refine Kd.C_drewN ?_ _) | (with_reducible refine Kd.C_drew ?_))); (case side4 => exact HC279_0.out); rintro e w' ⟨rfl, ⟨nd, rfl⟩⟩; (try first | exact ⟨rfl, _, World.drewN_drewN _ _ _⟩ | exact ⟨rfl, _, Eq.trans (World.drewN_drewN _ _ _) (congrArg (World.drewN _) (Nat.add_assoc _ _ _))⟩))))
      go_roundg k1
      case measure => have := HK1.out; omega
      case rel => exact ⟨(wrap64 (x5_1 + 1)), (by first | rfl | (simp; done) | (simp [*]; done)), H', ⟨by have := HK1.out; omega⟩, by repeat (first | exact Drawn0.refl _ | apply Drawn0.step)⟩
     ·replace c8 := Bool.eq_false_iff.mpr c8
      subst c8
      have H1 : (some false) = some r := by first | (rw [if_neg (show ¬ (false = true) by decide)] at H; exact H) | rfl
      clear H
      have H := H1
      clear H1
      obtain rfl := Option.some.inj H
      have p278 : 0 ≤ (x5_1 : Int) := of_decide_eq_true (by first | (with_reducible assumption) | assumption)
      have q278 : x5_1 < (l0.length : Int) := of_decide_eq_true (by first | (with_reducible assumption) | assumption)
      obtain ⟨ad278, A278_0, c278_0, e278, hx278_0, hl278_0, hi278_0⟩ := at_L3 HR0.out x5_1 p278 q278
      cases e278
      have HR278_0 := Aside0.mk hi278_0
      have HC278_0 := Aside0.mk hl278_0
      clear hi278_0 hl278_0
      replace p278 := eq_true p278
      replace q278 := eq_true q278
      have p279 : 0 ≤ (x5_1 : Int) := of_decide_eq_true (by first | (with_reducible assumption) | assumption)
      have q279 : x5_1 < (l1.length : Int) := of_decide_eq_true (by first | (with_reducible assumption) | assumption)
      obtain ⟨ad279, A279_0, c279_0, e279, hx279_0, hl279_0, hi279_0⟩ := at_L3 HR1.out x5_1 p279 q279
      cases e279
      have HR279_0 := Aside0.mk hi279_0
      have HC279_0 := Aside0.mk hl279_0
      clear hi279_0 hl279_0
      replace p279 := eq_true p279
      replace q279 := eq_true q279
      go_wp2_with (first | (go_at_call 43; (with_reducible refine (laws_eqIntS.calls k1 _ _ (rd_L3 l0 x5_1) _ _ (rd_L3 l1 x5_1) false _ ?side1 ?side2 ?side3 ?side4 A7.out).mono ?_); (case side1 => repeat (first | exact HR278_0.out | (with_reducible refine Kd.C_alloc ?_ _) | (with_reducible refine Kd.C_drewN ?_ _) | (with_reducible refine Kd.C_drew ?_))); (case side2 => exact HC278_0.out); (case side3 => repeat (first | exact HR279_0.out | (with_reducible refine Kd.C_alloc ?_ _) | (with_reducible refine Kd.C_drewN ?_ _) | (with_reducible refine Kd.C_drew ?_))); (case side4 => exact HC279_0.out); rintro e w' ⟨rfl, ⟨nd, rfl⟩⟩; (try first | exact ⟨rfl, _, World.drewN_drewN _ _ _⟩ | exact ⟨rfl, _, Eq.trans (World.drewN_drewN _ _ _) (congrArg (World.drewN _) (Nat.add_assoc _ _ _))⟩)))
      repeat (go_quiet (first | (go_at_call 43; (with_reducible refine (laws_eqIntS.calls k1 _ _ (rd_L3 l0 x5_1) _ _ (rd_L3 l1 x5_1) false _ ?side1 ?side2 ?side3 ?side4 A7.out).mono ?_); (case side1 => repeat (first | exact HR278_0.out | (with_reducible refine Kd.C_alloc ?_ _) | (with_reducible refine Kd.C_drewN ?_ _) | (with_reducible refine Kd.C_drew ?_))); (case side2 => exact HC278_0.out); (case side3 => repeat (first | exact HR279_0.out | (with_reducible refine Kd.C_alloc ?_ _) | (with_reducible refine Kd.C_drewN ?_ _) | (with_reducible refine Kd.C_drew ?_))); (case side4 => exact HC279_0.out); rintro e w' ⟨rfl, ⟨nd, rfl⟩⟩; (try first | exact ⟨rfl, _, World.drewN_drewN _ _ _⟩ | exact ⟨rfl, _, Eq.trans (World.drewN_drewN _ _ _) (congrArg (World.drewN _) (Nat.add_assoc _ _ _))⟩))); try go_wp2_with (first | (go_at_call 43; (with_reducible refine (laws_eqIntS.calls k1 _ _ (rd_L3 l0 x5_1) _ _ (rd_L3 l1 x5_1) false _ ?side1 ?side2 ?side3 ?side4 A7.out).mono ?_); (case side1 => repeat (first | exact HR278_0.out | (with_reducible refine Kd.C_alloc ?_ _) | (with_reducible refine Kd.C_drewN ?_ _) | (with_reducible refine Kd.C_drew ?_))); (case side2 => exact HC278_0.out); (case side3 => repeat (first | exact HR279_0.out | (with_reducible refine Kd.C_alloc ?_ _) | (with_reducible refine Kd.C_drewN ?_ _) | (with_reducible refine Kd.C_drew ?_))); (case side4 => exact HC279_0.out); rintro e w' ⟨rfl, ⟨nd, rfl⟩⟩; (try first | exact ⟨rfl, _, World.drewN_drewN _ _ _⟩ | exact ⟨rfl, _, Eq.trans (World.drewN_drewN _ _ _) (congrArg (World.drewN _) (Nat.add_assoc _ _ _))⟩))))
      go_ret
      exact ⟨by first | rfl | (simp; done) | (simp [*]; done), by repeat (first | exact Drawn0.refl _ | apply Drawn0.step)⟩
    ·rw [if_neg c4] at H
     have c4b0 : decide (x5_1 < (l0.length : Int)) = false := decide_eq_false c4
     clear c4
     obtain rfl := Option.some.inj H
     go_wp2
     repeat (go_quiet (fail); try go_wp2)
     go_ret
     exact ⟨by first | rfl | (simp; done) | (simp [*]; done), by repeat (first | exact Drawn0.refl _ | apply Drawn0.step)⟩
 ·rw [if_neg c3] at H
  have c3b0 : ((l0.length : Int) == (l1.length : Int)) = false := beq_eq_false_iff_ne.mpr c3
  have c3b1 : ((l0.length : Int) != (l1.length : Int)) = true := bne_iff_ne.mpr c3
  have c3b2 : (l0.length == l1.length) = false := by first | simpa using c3 | (simp at c3 ⊢; omega)
  obtain rfl := Option.some.inj H
  go_enter Try.func60, Try.ntmps60
  go_wp2
  repeat (go_quiet (fail); try go_wp2)
  go_ret
  exact ⟨by first | rfl | (simp; done) | (simp [*]; done), by repeat (first | exact Drawn0.refl _ | apply Drawn0.step)⟩

end Go.Proofs.Ytdddmkdidegngaa.PFnExactSolutions

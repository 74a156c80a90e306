/- The functions that a law reaches, and proofs that the Go code comes to just their answers: written by a program of this session out of the translation. Conditions: those that each theorem states. -/
import Derived.Test.YtdddmkdidegngaaDoorRows
import Derived.Test.YtdddmkdidegngaaDoorTie
import Derived.Test.YtdddmkdidegngaaDoorCards
import Derived.SevenTiedAt
import Derived.LaidMore
import Derived.Stop.Joined
import Derived.Test.YtdddmkdidegngaaDoorPFnExactPuzzleTextx6
import Derived.Test.YtdddmkdidegngaaDoorPureFnExactPuzzleText
import Derived.WalkKit
import Derived.ProofKit
import Derived.OpenShut
import Derived.ShutString
import Derived.ChangeOld
import Derived.Below
import Derived.SizedLaws
import Derived.Lib.SmallJoins
import Derived.Deep.Slices
import Derived.Deep.Fields
import Derived.ChangeSame
import Derived.ChangeArms
namespace Go.Proofs.YtdddmkdidegngaaDoor.fnExactPuzzleText
open Go.ChangeShapes Go.WideShapes Go.ChangeAt Go.RowKit
open Go.ChangeMaps (open_string shut_string)
set_option linter.unusedVariables false
set_option linter.unusedSimpArgs false
open Go.Deep Go.Joins Go.Proofs.YtdddmkdidegngaaDoor.PFnExactPuzzleText Go.Proofs.YtdddmkdidegngaaDoorW.PrintWords Go.Proofs.YtdddmkdidegngaaDoorW.PrintLast
section
variable {H : Type} {enc : TypeId × Value → H} {P : Program} {w : World} {base : Nat} {spare : Nat → Bool} {held : Bool}
theorem open_slice_fields {t e : TypeId} {fs : Array Field} {fuel : Nat} {cs : List Value} {x : DataW H × List MemPlace} (ht : P.underlying t = some (.slice e)) (he : P.underlying e = some (.struct fs))
    (hone : oneCellFields P fs = true) (hC : P.cellsOf e = fs.size) (h : DataW.trod enc P w base spare held fuel t cs = some x) :
    (cs = [.slice none 0 0] ∧ x = (.nil, [])) ∨
    ∃ (a : Addr) (len cap m : Nat) (D : Nat → DataW H) (Pl : Nat → List MemPlace), cs = [.slice (some a) len cap] ∧ base ≤ a.block ∧ len ≤ cap ∧ cap ≤ maxLen ∧ m = (if spare a.block then cap else len) ∧
      x = (.slice ((List.range len).map D) ((List.range (m - len)).map fun j => D (len + j)), MemPlace.row a (m * fs.size) ++ (List.range m).flatMap Pl) ∧
      ∀ i, i < m → ∃ (ys : List (DataW H × List MemPlace)) (n : Nat), D i = .agg (ys.map (·.1)) ∧ Pl i = ys.flatMap (·.2) ∧ ys.length = fs.size ∧
        ∀ (j : Nat) (f : Field), fs[j]? = some f → ∃ (v : Value) (y : DataW H × List MemPlace), w.cell? (a.add (i * fs.size + j)) = some v ∧ ys[j]? = some y ∧ DataW.trod enc P w base spare held n f.type [v] = some y := by
  rcases open_slice ht h with h0 | ⟨a, len, cap, m, n, D, Pl, hcs, hb, hl, hm, hmm, hx, hi⟩
  · exact .inl h0
  · refine .inr ⟨a, len, cap, m, D, Pl, hcs, hb, hl, hm, hmm, by rw [hC] at hx; exact hx, fun i him => ?_⟩
    obtain ⟨cs', hc, ht'⟩ := hi i him
    rw [hC] at hc
    obtain ⟨ys, n', hn', hy, hlen, hyl, hf⟩ := DataW.trod_struct he ht'
    obtain ⟨_, hcl, hat⟩ := World.cells?_some hc
    simp only [Prod.mk.injEq] at hy
    refine ⟨ys, n', hy.1, hy.2, hyl, fun j f hj => ?_⟩
    obtain ⟨ho, hk⟩ := hone_of hone j f hj
    have hjl : j < fs.size := (Array.getElem?_eq_some_iff.1 hj).1
    have hcell := hat j hjl
    have hv : cs'[j]? = some (cs'[j]'(by omega)) := List.getElem?_eq_getElem (by omega)
    have h1 := hf j f hj
    rw [ho, hk] at h1
    have hone' : (cs'.drop j).take 1 = [cs'[j]'(by omega)] := by
      rw [List.drop_eq_getElem_cons (by omega)]
      rfl
    rw [hone'] at h1
    have hys : ys[j]? = some (ys[j]'(by omega)) := List.getElem?_eq_getElem (by omega)
    refine ⟨_, _, ?_, hys, h1.trans hys⟩
    rw [← Go.Deep.add_add, hcell, hv]
/-- A slice of structs of whole numbers: its rows. -/
theorem open_rows {t e : TypeId} {fs : Array Field} {fuel : Nat} {cs : List Value} {x : DataW H × List MemPlace} (ht : P.underlying t = some (.slice e)) (he : P.underlying e = some (.struct fs))
    (hone : oneCellFields P fs = true) (hC : P.cellsOf e = fs.size) (hint : ∀ (j : Nat) (f : Field), fs[j]? = some f → P.underlying f.type = some (.int .i64)) (h : DataW.trod enc P w base spare held fuel t cs = some x) :
    ∃ (a : Option Addr) (len cap : Nat) (l : List (List Int)), cs = [.slice a len cap] ∧ l.length = len ∧ len ≤ cap ∧ len ≤ maxLen ∧ (∀ r ∈ l, r.length = fs.size ∧ ∀ u ∈ r, (Lit.int .i64 u).wf = true) ∧
      (0 < len → ∃ ad, a = some ad ∧ ∀ j r, l[j]? = some r → ∀ i u, r[i]? = some u → w.cell? (ad.add (j * fs.size + i)) = some (.int .i64 u)) := by
  rcases open_slice_fields ht he hone hC h with ⟨rfl, _⟩ | ⟨a, len, cap, m, D, Pl, hcs, _, hl, hm, hmm, _, hi⟩
  · exact ⟨none, 0, 0, [], rfl, rfl, Nat.le_refl _, Nat.zero_le _, (fun r hr => by cases hr), fun h0 => absurd h0 (by omega)⟩
  · have hlm : len ≤ m := by rw [hmm]; split <;> omega
    have h1 : ∀ i, ∃ r : List Int, i < len → r.length = fs.size ∧ (∀ u ∈ r, (Lit.int .i64 u).wf = true) ∧ ∀ j u, r[j]? = some u → w.cell? (a.add (i * fs.size + j)) = some (.int .i64 u) := by
      intro i
      by_cases hlt : i < len
      · obtain ⟨ys, n, _, _, _, hf⟩ := hi i (by omega)
        have h2 : ∀ j, ∃ u : Int, j < fs.size → w.cell? (a.add (i * fs.size + j)) = some (.int .i64 u) ∧ (Lit.int .i64 u).wf = true := by
          intro j
          by_cases hj : j < fs.size
          · obtain ⟨v, y, hc, _, ht2⟩ := hf j fs[j] (Array.getElem?_eq_getElem hj)
            obtain ⟨u, hu, _, hw⟩ := DataW.trod_int (hint j fs[j] (Array.getElem?_eq_getElem hj)) ht2
            obtain rfl : v = .int .i64 u := by simpa using hu
            exact ⟨u, fun _ => ⟨hc, hw⟩⟩
          · exact ⟨0, fun h => absurd h hj⟩
        obtain ⟨g, hg⟩ := Classical.axiomOfChoice h2
        refine ⟨(List.range fs.size).map g, fun _ => ⟨by simp, fun u hu => ?_, fun j u hu => ?_⟩⟩
        · obtain ⟨j, hj, rfl⟩ := List.mem_map.1 hu
          exact (hg j (by simpa using hj)).2
        · rw [List.getElem?_map] at hu
          obtain ⟨j', hj', rfl⟩ := Option.map_eq_some_iff.1 hu
          obtain ⟨hj1, rfl⟩ := List.getElem?_eq_some_iff.1 hj'
          simp only [List.length_range] at hj1
          simp only [List.getElem_range]
          exact (hg j hj1).1
      · exact ⟨[], fun h => absurd h hlt⟩
    obtain ⟨g, hg⟩ := Classical.axiomOfChoice h1
    refine ⟨some a, len, cap, (List.range len).map g, hcs, by simp, hl, by omega, fun r hr => ?_, fun _ => ⟨a, rfl, fun j r hr i u hu => ?_⟩⟩
    · obtain ⟨j, hj, rfl⟩ := List.mem_map.1 hr
      have := hg j (by simpa using hj)
      exact ⟨this.1, this.2.1⟩
    · rw [List.getElem?_map] at hr
      obtain ⟨j', hj', rfl⟩ := Option.map_eq_some_iff.1 hr
      obtain ⟨hj1, rfl⟩ := List.getElem?_eq_some_iff.1 hj'
      simp only [List.length_range] at hj1
      simp only [List.getElem_range] at hu
      exact (hg j hj1).2.2 i u hu
end
theorem rows_S56 {W : World} {A : Option Addr} {len : Nat} {L : List (List Int)} (hlen : L.length = len) (hm : len ≤ maxLen) (hw : ∀ r ∈ L, r.length = 3 ∧ ∀ u ∈ r, (Lit.int .i64 u).wf = true)
    (hc : 0 < len → ∃ ad, A = some ad ∧ ∀ j r, L[j]? = some r → ∀ i u, r[i]? = some u → W.cell? (ad.add (j * 3 + i)) = some (.int .i64 u)) :
    ∃ l : List S56, len = l.length ∧ Kd.C k56 W A l.length l ∧ l.length ≤ maxLen ∧ ∀ x ∈ l, (Lit.int .i64 x.f0).wf = true ∧ (Lit.int .i64 x.f1).wf = true ∧ (Lit.int .i64 x.f2).wf = true := by
  refine ⟨L.map (fun r : List Int => (⟨r.getD 0 0, r.getD 1 0, r.getD 2 0⟩ : S56)), by simp [hlen], ⟨rfl, by simp only [List.length_map, hlen]; unfold maxLen at hm; exact hm, fun h0 => ?_⟩, by simpa [hlen] using hm, fun x hx => ?_⟩
  · obtain ⟨ad, e, hcell⟩ := hc (by simpa [hlen] using h0)
    refine ⟨ad, e, fun j p hp => ⟨[.int .i64 p.f0, .int .i64 p.f1, .int .i64 p.f2], rfl, k56_mk W p, fun i u hu => ?_⟩⟩
    rw [List.getElem?_map] at hp
    obtain ⟨r, hr, rfl⟩ := Option.map_eq_some_iff.1 hp
    have hrl := (hw r (List.mem_of_getElem? hr)).1
    match r, hrl with
    | [u0, u1, u2], _ =>
      match i with
      | 0 => simp only [List.getElem?_cons_zero, List.getElem?_cons_succ, Option.some.injEq] at hu; subst hu; exact hcell j _ hr 0 u0 rfl
      | 1 => simp only [List.getElem?_cons_zero, List.getElem?_cons_succ, Option.some.injEq] at hu; subst hu; exact hcell j _ hr 1 u1 rfl
      | 2 => simp only [List.getElem?_cons_zero, List.getElem?_cons_succ, Option.some.injEq] at hu; subst hu; exact hcell j _ hr 2 u2 rfl
      | i + 3 => simp at hu
  · obtain ⟨r, hr, rfl⟩ := List.mem_map.1 hx
    have hrw := hw r hr
    match r, hrw with
    | [u0, u1, u2], ⟨_, hu⟩ => exact ⟨hu u0 (by simp), hu u1 (by simp), hu u2 (by simp)⟩
theorem own : ownKnob Tryd.prog.godebug = none := by kernel_rfl
def IsRow (k : IntKind) (w : World) (a : Option Addr) (len cap : Nat) (zs : List Int) : Prop :=
  (a = none ∧ len = 0 ∧ cap = 0 ∧ zs = []) ∨
  ∃ x, a = some x ∧ len ≤ cap ∧ cap ≤ maxLen ∧ zs.length = cap ∧ (∀ i, i < zs.length → w.cell? (x.add i) = some (.int k (zs.getD i 0))) ∧ ∀ n ∈ zs, (Lit.int k n).wf = true
theorem laidOut : laidOutB Tryd.prog = true := by kernel_rfl
theorem door_met (os : Os) (args : Array Value) : laidMetH Tryd.prog Rows.fnExactPuzzleTextRow.laid ((World.doorLaid Tryd.prog 24 os).forCall (fun _ _ => 0) ⟨#[], args, []⟩).memory :=
  laidMetH_of_parts3 (fuel := 8) (laidMet_of_run' 8 (by kernel_rfl) (by kernel_rfl)) (by kernel_rfl) (by kernel_rfl)
set_option maxRecDepth 100000 in
theorem lifted (os : Os) (started : os.Started) (H : Type) (enc : TypeId × Value → H) :
    ReturnsInHanded {} Tryd.checked os 4 .any (fun w args => (Rows.fnExactPuzzleTextSpec.pre enc Tryd.prog Tryd.f4 Rows.fnExactPuzzleTextRow.domain false w args ∧ laidMetH Tryd.prog Rows.fnExactPuzzleTextRow.laid w) ∧ sizedMet enc Tryd.prog Tryd.f4 (OpenSpec.ofChange Rows.fnExactPuzzleTextSpec) false w args) (Rows.fnExactPuzzleTextSpec.post enc Tryd.prog Tryd.f4 false true false false) := by
  refine returnsInHanded_of_change_and (C := Tryd.checked) (X := fun w _ => laidMetH Tryd.prog Rows.fnExactPuzzleTextRow.laid w) (fun _ _ _ hh h => h.of_heap hh) own started (by as_aux_lemma => kernel_rfl) Tryd.func4
    (ChangeSpec.witness_shaped (enc := enc) (C := Tryd.checked) (os := os) (X := fun w _ => laidMetH Tryd.prog Rows.fnExactPuzzleTextRow.laid w) false (World.doorLaid Tryd.prog 24 os) #[.agg #[.int .i64 0, .slice none 0 0]] 8 rfl (World.shaped_of_RefB (by kernel_rfl) (by kernel_rfl)) (by as_aux_lemma => kernel_rfl) (by as_aux_lemma => kernel_rfl) (by as_aux_lemma => kernel_rfl) (door_met os _)) ?_
  intro W base args ds gs before hval0 hW hcnd hsz0 _ _
  have hsz : (DataW.weightsEach Tryd.prog (Tryd.f4.params.toList ++ Rows.fnExactPuzzleTextSpec.plain.varTypes Tryd.prog) (ds ++ gs)).all (· ≤ reachBytes) = true := hsz0
  have hval : ∀ (j : Nat) t v, Tryd.f4.params[j]? = some t → args[j]? = some v → Value.okWide Tryd.prog W .any base t v := hval0
  have hW' := hW
  obtain ⟨p, q, hA0, hV, rfl, hfz, hnd⟩ := hW
  have hA : DataW.TrodAll enc Tryd.prog W 0 (fun _ => true) true Tryd.f4.params.toList args.toList ds p := hA0
  rw [Tryd.params4] at hA hval hsz
  obtain ⟨v0, vs0, d0, ds0, p0, q0, hargs, rfl, rfl, h0, r0⟩ := trodAll_cons hA
  obtain ⟨rfl, rfl, rfl⟩ := trodAll_nil r0
  obtain rfl : args = #[v0] := by cases args; simp_all
  obtain ⟨rfl, rfl⟩ := trodVars_none hV
  have k0 := h0
  have lt0 : ∀ x ∈ p0, x.block < W.heap.size := by obtain ⟨m, hm⟩ := k0; exact DataW.trod_lt m _ _ _ hm
  obtain ⟨v0_0, v0_1, y0_0, y0_1, n0, rfl, rfl, rfl, g0_0, g0_1⟩ := Go.Joins.open_agg2 Tryd.underlying31 (by kernel_rfl) (by kernel_rfl) (hval 0 31 v0 rfl rfl) h0
  obtain ⟨a0_0, e0_0, _, w0_0⟩ := DataW.trod_int Tryd.underlying3 g0_0
  obtain rfl : v0_0 = .int .i64 a0_0 := by simpa using e0_0
  obtain ⟨A0_1, len0_1, cap0_1, L0_1, e0_1, hlen0_1, hc0_1, hm00_1, hw00_1, hcl0_1⟩ := open_rows Tryd.underlying29 Tryd.underlying56 (by kernel_rfl) (by kernel_rfl) (by intro j f hj; have hlt := (Array.getElem?_eq_some_iff.1 hj).1; simp only [List.size_toArray, List.length_cons, List.length_nil] at hlt; (rcases j with _ | _ | _ | j <;> first | (exfalso; omega) | (injection hj with hj; subst hj; exact Tryd.underlying3))) g0_1
  obtain rfl : v0_1 = .slice A0_1 len0_1 cap0_1 := by simpa using e0_1
  obtain ⟨l0_1, rfl, hr0_1, hm0_1, hw0_1⟩ := rows_S56 hlen0_1 hm00_1 hw00_1 hcl0_1
  clear hA0 hval0 hsz0 hsz
  obtain ⟨k, hP⟩ := Pure.FnExactPuzzleText a0_0 l0_1 w0_0 hm0_1 hw0_1
  refine (PFnExactPuzzleText.laws_FnExactPuzzleText.calls k a0_0 _ _ l0_1 W hr0_1 hc0_1 hP).mono fun e W' ⟨he, bel⟩ => ?_
  subst he
  exact ⟨_, rfl, _, _, _, [], _, [], hW', trodAll_mk1 (shut_bool Tryd.underlying4 _), (trodAll_cons_mk (Below.trod laidOut (by kernel_rfl) (of_decide_eq_true (by kernel_rfl)) k0 bel lt0) trodAll_mk0), rfl, bel.frame _, fun h => by cases h⟩
theorem pj_and {a b : Bool} (h : a = true) (k : b = true) : (a && b) = true := by rw [h, k]; rfl
set_option maxHeartbeats 4000000 in
theorem closed_ : joinedFacts Tryd.pinned.checked.prog 4 Tryd.f4 Rows.fnExactPuzzleTextSpec Rows.fnExactPuzzleTextRow = true := by
  unfold joinedFacts
  exact (pj_and (pj_and (pj_and (pj_and (pj_and (pj_and (pj_and (pj_and (pj_and (pj_and (pj_and (pj_and (pj_and (pj_and (pj_and (pj_and (pj_and (pj_and (pj_and (pj_and (pj_and (pj_and (pj_and (pj_and (pj_and (pj_and (pj_and (pj_and (pj_and (pj_and (pj_and (by as_aux_lemma => kernel_rfl) (by as_aux_lemma => kernel_rfl)) (by as_aux_lemma => kernel_rfl)) (by as_aux_lemma => kernel_rfl)) (by as_aux_lemma => kernel_rfl)) (by as_aux_lemma => kernel_rfl)) (by as_aux_lemma => kernel_rfl)) (by as_aux_lemma => kernel_rfl)) (by as_aux_lemma => kernel_rfl)) (by as_aux_lemma => kernel_rfl)) (by as_aux_lemma => kernel_rfl)) (by as_aux_lemma => kernel_rfl)) (by as_aux_lemma => kernel_rfl)) (by as_aux_lemma => kernel_rfl)) (by as_aux_lemma => kernel_rfl)) (by as_aux_lemma => kernel_rfl)) (by as_aux_lemma => kernel_rfl)) (by as_aux_lemma => kernel_rfl)) (by as_aux_lemma => kernel_rfl)) (by as_aux_lemma => kernel_rfl)) (by as_aux_lemma => kernel_rfl)) (by as_aux_lemma => kernel_rfl)) (by as_aux_lemma => kernel_rfl)) (by as_aux_lemma => kernel_rfl)) (by as_aux_lemma => kernel_rfl)) (by as_aux_lemma => kernel_rfl)) (by as_aux_lemma => kernel_rfl)) (by as_aux_lemma => kernel_rfl)) (by as_aux_lemma => kernel_rfl)) (by as_aux_lemma => kernel_rfl)) (by as_aux_lemma => kernel_rfl)) (by as_aux_lemma => kernel_rfl))
theorem over : Rows.fnExactPuzzleTextRow.holds Tryd.pinned (OpenSpec.ofChange Rows.fnExactPuzzleTextSpec) :=
  OpenClaim.holds_of_wide 4 Tryd.f4 rfl rfl rfl rfl rfl rfl rfl ⟨rfl, rfl, rfl, rfl, rfl⟩ rfl rfl rfl rfl rfl (by as_aux_lemma => kernel_rfl) Tryd.func4 closed_
    (of_decide_eq_true (by as_aux_lemma => kernel_rfl)) (by unfold Func.isWrapper; first | (rw [if_pos (by decide +kernel)]; kernel_rfl) | (rw [if_neg (by decide +kernel)]; exact ⟨rfl, rfl⟩))
    (fun os started H enc _ => lifted os started H enc)
theorem proved : Rows.FnExactPuzzleTextSaid := over
#print axioms proved
end Go.Proofs.YtdddmkdidegngaaDoor.fnExactPuzzleText
namespace Go.Proofs.YtdddmkdidegngaaDoor
/-- The row, tied to the program's text: its card. -/
theorem fnExactPuzzleText_holds : Rows.FnExactPuzzleTextCardSaid :=
  Claim7.holds_tied_plain_at .later [] [.data, .data, .data] true (true, "ca7a78683fb2a90183718718425fd6ee37954ce02563c1b6f78556a9e7b036fd") false
    fnExactPuzzleText.over (fun _ h => by cases h) (by kernel_rfl) (fun _ h => by cases h) fnExactPuzzleText_row_tie rfl ⟨rfl, rfl⟩ (by kernel_rfl) rfl
    (fun f fn hf hfn => by
      obtain rfl : f = 4 := Option.some.inj ((show Tryd.prog.funcNamed "loop.example/g01372/laws.FnExactPuzzleText" = some 4 by kernel_rfl).symm.trans hf) |>.symm
      obtain rfl : fn = Tryd.f4 := (Option.some.inj (Tryd.func4.symm.trans hfn)).symm
      exact ⟨by kernel_rfl, fun j t ht => by
        rw [Tryd.params4] at ht
        have hm : t ∈ [31] := by simpa using Array.mem_of_getElem? ht
        have hall : ([31].all fun u => !Tryd.prog.wantsStandIn u) = true := by kernel_rfl
        exact (show Tryd.prog.wantsStandIn t = false by simpa using List.all_eq_true.1 hall t hm)⟩)
    (by kernel_rfl)
end Go.Proofs.YtdddmkdidegngaaDoor

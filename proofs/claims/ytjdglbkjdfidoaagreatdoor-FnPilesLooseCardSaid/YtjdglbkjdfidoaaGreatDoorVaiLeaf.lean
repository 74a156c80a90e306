/- Functions of the library taken over whole, by their contracts: each step holds of the model's own run. Conditions: those that each theorem states. -/
/- A checked abstract run of Go functions: contracts of library functions, taken over whole. -/
import Derived.Test.YtjdglbkjdfidoaaGreatDoorVaiRule
import Derived.Below
namespace Go.Proofs.YtjdglbkjdfidoaaGreatDoorV
set_option linter.unusedVariables false
set_option linter.unusedSimpArgs false
open Go.RowKit
section
variable {P : Program} {w : World} {g : Gh}
theorem rvs_env : ∀ {as : List AV} {vs : List Value}, as.length = vs.length → (∀ t, RV w g (match as[t]? with | some v => v | none => .bad) (vs.getD t undef)) → RVs w g as vs
  | [], [], _, _ => trivial
  | a :: as, v :: vs, hl, h => ⟨h 0, rvs_env (by simpa using hl) fun t => h (t + 1)⟩
  | [], _ :: _, hl, _ => by simp at hl
  | _ :: _, [], hl, _ => by simp at hl
theorem rvs_start {X : Cx} {ps : List Sh} {x : STs ps} {args : List Value} (hl : args.length = ps.length) (h : Sim X (startSt ps x) ⟨args.toArray, []⟩ w g) : RVs w g (shPuts PB ps x).1 args := by
  refine rvs_env (by rw [shPuts_len]; exact hl.symm) fun t => ?_
  have := h.env t
  simp only [startSt] at this
  rw [envOf_get, if_pos (Nat.zero_le t), Nat.sub_zero] at this
  rw [Array.getD_eq_getD_getElem?, List.getElem?_toArray] at this
  rw [List.getD_eq_getElem?_getD]
  exact this
theorem below_grows {w w' : World} (h : Below w.heap.size w w') : w.grownBy w' none := ⟨h.os, h.tape, h.output, h.size, fun k hk _ => h.block k hk⟩
/-- Nothing is handed over but values. -/
theorem Sim.bare {X : Cx} {ps : List Sh} {x : STs ps} {a : Act} (hh : (shPuts PB ps x).2 = []) (h : Sim X (startSt ps x) a w g) : Sim { X with N := 0 } ⟨[], []⟩ ⟨#[], []⟩ w g := by
  have hs : (startSt ps x).heap = [] := hh
  refine ⟨fun t => trivial, fun b => by rw [h.live b, hs], fun b y hb => (by cases hb), h.disj, h.own, fun b y hb => (by cases hb), h.ok, rfl, rfl, h.kept, h.base, h.glob⟩
/-- A function that hands back values. -/
theorem con_vals {f : Nat} {ps rs : List Sh} {fn : STs ps → Option (STs rs)} {z0 : MTs ps} {G : List Nat}
    (hfn : ∃ fn', P.funcs[f]? = some fn' ∧ (fn'.name == "runtime.NumGoroutine") = false ∧ fn'.body.isSome = true)
    (hp : ∀ x, (shPuts PB ps x).2 = []) (hz : mutPuts (muts PB ps) z0 = []) (hr : ∀ y, (shPuts RB rs y).2 = [])
    (hcalls : ∀ (x : STs ps) (y : STs rs) (vs : List Value) (w : World) (g : Gh), RVs w g (shPuts PB ps x).1 vs → (∀ k, g.ok k → k < w.heap.size) → Glob G w g → fn x = some y →
      Calls P f vs.toArray w fun e w' => ∃ us, e = .returned (retVal us) ∧ Below w.heap.size w w' ∧ RVs w' g (shPuts RB rs y).1 us) :
    (⟨f, ps, rs, fun x => (fn x).map fun y => (y, z0)⟩ : Con).Sound P G := by
  refine ⟨hfn, fun x y z args w g0 ok0 M hlen hs hx => ?_⟩
  have hx : (fn x).map (fun y => (y, z0)) = some (y, z) := hx
  obtain ⟨y', hy, he⟩ := Option.map_eq_some_iff.1 hx
  cases he
  refine (hcalls x _ args w g0 (rvs_start hlen hs) (fun k hk => (hs.ok k hk).1) hs.glob hy).mono ?_
  rintro e w' ⟨us, rfl, hb, hrv⟩
  have h0 := (Sim.bare (hp x) hs).grown (below_grows hb)
  refine ⟨us, g0, rfl, ?_, hrv, Nm.refl _, fun k hk hlt => ⟨hb.block k hlt, hk⟩, fun n y' hm => ?_⟩
  · show Sim _ ⟨[], (shPuts RB rs y).2 ++ mutPuts (muts PB ps) z0⟩ _ _ _
    rw [hr, hz]; exact h0
  · change (n, y') ∈ (shPuts RB rs y).2 ++ mutPuts (muts PB ps) z0 at hm
    rw [hr, hz] at hm
    simp at hm
/-- A function that hands back a row of its own. -/
theorem con_row {f : Nat} {ps : List Sh} {e : Nat} {t : Ty} {fn : STs ps → Option (List t.T)} {z0 : MTs ps} {G : List Nat}
    (hfn : ∃ fn', P.funcs[f]? = some fn' ∧ (fn'.name == "runtime.NumGoroutine") = false ∧ fn'.body.isSome = true)
    (hp : ∀ x, (shPuts PB ps x).2 = []) (hz : mutPuts (muts PB ps) z0 = [])
    (hcalls : ∀ (x : STs ps) (l : List t.T) (vs : List Value) (w : World) (g : Gh), RVs w g (shPuts PB ps x).1 vs → (∀ k, g.ok k → k < w.heap.size) → Glob G w g → fn x = some l →
      Calls P f vs.toArray w fun e' w' => ∃ v inner, e' = .returned v ∧ Below w.heap.size w w' ∧ w'.ownsRow w.heap.size e t.sz v l.length inner ∧ Reps w' g.ok t l inner) :
    (⟨f, ps, [.own false e t], fun x => (fn x).map fun l => ((l, ()), z0)⟩ : Con).Sound P G := by
  refine ⟨hfn, fun x y z args w g0 ok0 M hlen hs hx => ?_⟩
  have hx : (fn x).map (fun l => ((l, ()), z0)) = some (y, z) := hx
  obtain ⟨l, hl, he⟩ := Option.map_eq_some_iff.1 hx
  cases he
  refine (hcalls x l args w g0 (rvs_start hlen hs) (fun k hk => (hs.ok k hk).1) hs.glob hl).mono ?_
  rintro e' w' ⟨v, inner, rfl, hb, ho, hr⟩
  have hg := below_grows hb
  have hv : ∀ k, blkOf v = some k → w.heap.size ≤ k ∧ k < w'.heap.size := fun k hk => by
    rcases ho.2 with ⟨rfl, _⟩ | ⟨gb, cap, cur, rfl, hbase, hgb, _⟩
    · cases hk
    · cases hk
      exact ⟨hbase, (Array.getElem?_eq_some_iff.1 hgb).1⟩
  have hs' := (Sim.bare (hp x) hs).fresh (d := RB) (x := .row false e t l) (v := v) rfl hg hv (own_set (pin := false) ho hr)
  refine ⟨[v], g0.set RB v, rfl, ?_, ⟨⟨.inr rfl, (show v = if RB = RB then v else g0.val RB from (if_pos rfl).symm)⟩, trivial⟩, fun n h1 h2 _ hl => ?_, okMv_set hg, fun n y' hm => ?_⟩
  · show Sim _ ⟨[], (shPuts RB [.own false e t] (l, ())).2 ++ mutPuts (muts PB ps) z0⟩ _ _ _
    rw [hz]
    exact hs'
  · have e : n ≠ RB := by omega
    exact ⟨hl.resolve_right e, if_neg e⟩
  · change (n, y') ∈ (shPuts RB [.own false e t] (l, ())).2 ++ mutPuts (muts PB ps) z0 at hm
    rw [hz] at hm
    have hm : (n, y') = (RB, Blk.row false e t l) := by simpa [shPuts, Sh.put] using hm
    cases hm
    exact ⟨own_set (pin := false) ho hr, .inr rfl⟩
end
end Go.Proofs.YtjdglbkjdfidoaaGreatDoorV

/- slices.Grow of no slice as a rule of a run: each step holds of the model's own run. Conditions: those that each theorem states. -/
/- A checked abstract run of Go functions: slices.Grow(nil, n) as a rule of a run. -/
import Derived.Test.YtjdglbkjdfidoaaGreatDoorVaiLeaf
namespace Go.Proofs.YtjdglbkjdfidoaaGreatDoorV
set_option linter.unusedVariables false
set_option linter.unusedSimpArgs false
open Go.RowKit
section
variable {P : Program}
def growRule (f e : Nat) : Rule := ⟨f, fun d s avs _ K => match avs with
  | [.nilS, .int .i64 n] => chk (decide (0 ≤ n)) (chk (decide (n ≤ 1000000000)) (match hget s.heap d with
    | none => K ⟨s.env, (d, .row false e (.int .i64) []) :: s.heap⟩ (.own d)
    | some _ => none))
  | _ => none⟩
theorem growRule_ok {f e : Nat} (hfn : ∃ fn, P.funcs[f]? = some fn ∧ (fn.name == "runtime.NumGoroutine") = false ∧ fn.body.isSome = true)
    (hc : ∀ (n : Nat) (w : World), n ≤ 1000000000 → Calls P f #[.slice none 0 0, .int .i64 n] w fun e' w' => ∃ u, e' = .returned u ∧ w'.ownsRow w.heap.size e 1 u 0 [] ∧ Below w.heap.size w w') : RuleOk P (growRule f e) := by
  refine ⟨hfn, fun X s a w g d avs vs α K xx h hdp hr he N hN => ?_⟩
  unfold growRule at he
  simp only at he
  split at he
  · rename_i n
    obtain ⟨rfl⟩ : vs = [.slice none 0 0, .int .i64 n] := by
      match vs, hr with
      | [v, u], ⟨h1, h2, _⟩ => rw [show v = _ from h1, show u = _ from h2]
    obtain ⟨h0, he1⟩ := chk_some he
    clear he
    obtain ⟨h1, he⟩ := chk_some he1
    clear he1
    replace h0 := of_decide_eq_true h0
    replace h1 := of_decide_eq_true h1
    obtain ⟨m, rfl⟩ : ∃ m : Nat, n = (m : Int) := ⟨n.toNat, by omega⟩
    split at he
    · rename_i hd
      refine (hc m w (by omega)).mono ?_
      rintro e' w' ⟨u, rfl, ho, hb⟩
      have hg := below_grows hb
      have ho' : w'.ownsRow X.B e (Ty.int .i64).sz u ([] : List Int).length [] := ⟨ho.1, ho.2.imp id fun ⟨q, cap, cur, r1, r2, r3⟩ => ⟨q, cap, cur, r1, Nat.le_trans h.base r2, r3⟩⟩
      have hv : ∀ k, blkOf u = some k → w.heap.size ≤ k ∧ k < w'.heap.size := fun k hk => by
        rcases ho.2 with ⟨rfl, _⟩ | ⟨gb, cap, cur, rfl, hbase, hgb, _⟩
        · cases hk
        · cases hk
          exact ⟨hbase, (Array.getElem?_eq_some_iff.1 hgb).1⟩
      exact ⟨u, rfl, hN _ _ _ _ _ he (h.fresh (d := d) (x := .row false e (.int .i64) []) (v := u) hd hg hv (own_set (pin := false) (l := ([] : List Int)) (ty := .int .i64) ho' rfl)) ⟨.inr rfl, (if_pos rfl).symm⟩ (Chg.set h hg)⟩
    · cases he
  · cases he
end
end Go.Proofs.YtjdglbkjdfidoaaGreatDoorV

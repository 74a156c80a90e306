/- Contracts of the shelf, told as rules of a run: each step holds of the model's own run. Conditions: those that each theorem states. -/
/- A checked abstract run of Go functions: calls that are met by rules of their own. -/
import Derived.Test.YtjdglbkjdfidoaaGreatDoorVaiStep
namespace Go.Proofs.YtjdglbkjdfidoaaGreatDoorV
set_option linter.unusedVariables false
set_option linter.unusedSimpArgs false
/-- How calls of one function are met. -/
structure Rule where
  f : Nat
  x : Nat → St → List AV → (α : Type) → (St → AV → Option α) → Option α
def RuleOk (P : Program) (r : Rule) : Prop :=
  (∃ fn, P.funcs[r.f]? = some fn ∧ (fn.name == "runtime.NumGoroutine") = false ∧ fn.body.isSome = true) ∧
  ∀ (X : Cx) (s : St) (a : Act) (w : World) (g : Gh) (d : Nat) (as : List AV) (vs : List Value) (α : Type) (K : St → AV → Option α) (xx : α), Sim X s a w g → d < PB → RVs w g as vs → r.x d s as α K = some xx →
    ∀ N : Value → World → Prop, (∀ s' v cv w' g', K s' v = some xx → Sim X s' a w' g' → RV w' g' v cv → Chg d (names as) w g w' g' → N cv w') → Calls P r.f vs.toArray w fun e w' => ∃ v, e = .returned v ∧ N v w'
def RulesOk (P : Program) (R : List Rule) : Prop := ∀ r ∈ R, RuleOk P r
theorem RulesOk.nil {P : Program} : RulesOk P [] := fun _ h => by simp at h
theorem RulesOk.cons {P : Program} {r : Rule} {R : List Rule} (h : RuleOk P r) (hR : RulesOk P R) : RulesOk P (r :: R) := fun d hd => by
  rcases List.mem_cons.1 hd with e | hd
  · rw [e]; exact h
  · exact hR d hd
def findRule (f : Nat) : List Rule → Option Rule
  | [] => none
  | r :: R => bif Nat.beq r.f f then some r else findRule f R
/-- Calls are met by rules, else by a table of contracts. -/
def callR (R : List Rule) (T : List Con) : Caller := fun d s c α K => match c.callee with
  | .value f => match callAs s f c.args.toList with
    | some (i, as) => match findRule i R with
      | some r => r.x d s as α K
      | none => callT T d s c α K
    | none => none
  | _ => none
section
variable {P : Program} {X : Cx} {s : St} {a : Act} {w w' : World} {g g' : Gh}
theorem findRule_mem : ∀ {R : List Rule} {f : Nat} {r : Rule}, findRule f R = some r → r ∈ R ∧ r.f = f
  | [], _, _, h => by cases h
  | r' :: R, f, r, h => by
    simp only [findRule] at h
    cases hb : Nat.beq r'.f f with
    | true =>
      rw [hb] at h
      cases h
      exact ⟨List.mem_cons_self .., Nat.eq_of_beq_eq_true hb⟩
    | false =>
      rw [hb] at h
      obtain ⟨h1, h2⟩ := findRule_mem h
      exact ⟨List.mem_cons_of_mem _ h1, h2⟩
theorem callR_ok {R : List Rule} {T : List Con} (hR : RulesOk P R) (X : Cx) (hT : TableOk P T X.G) : CallerOk P X (callR R T) := by
  intro s a w g d c α K xx h hdp he hcal
  have hcal' := hcal
  obtain ⟨f, hcf⟩ := hcal
  unfold callR at he
  rw [hcf] at he
  simp only at he
  split at he
  · rename_i i as hca
    split at he
    · rename_i r hfr
      obtain ⟨hmem, hi⟩ := findRule_mem hfr
      obtain ⟨⟨fn, hfn, hname, hbody⟩, hsound⟩ := hR r hmem
      have hct : callTouch s c = allNames s as := by simp only [callTouch, hcf, hca]
      obtain ⟨caps, hv, hr⟩ := callAs_ok h hca
      intro N hN o ho
      have hcalls := hsound X s a w g d as _ α K xx h hdp hr he N (fun s' v cv w' g' e1 e2 e3 e4 => hN s' v cv w' g' e1 e2 e3 (by rw [hct]; exact e4.weak fun n hn => List.mem_append_left _ hn))
      have hrun : (execOp a.eval o).run P w = .ok (.enter i ((c.args.map a.eval) ++ caps.toArray)) w := by
        have hb : fn.body ≠ none := by intro e; rw [e] at hbody; cases hbody
        have hn : ¬ fn.name = "runtime.NumGoroutine" := by simpa using hname
        rw [hi] at hfn
        simp [execOp, ho, resolve, hcf, hv, Deferred.ofValue, invoke, callFunc, hfn, hn, hb]
      unfold Gives
      rw [hrun]
      simp only
      rw [← hi]
      have e : (c.args.map a.eval) ++ caps.toArray = (c.args.toList.map a.eval ++ caps).toArray := by
        apply Array.ext'
        simp
      rw [e]
      exact hcalls
    · exact callT_ok X hT s a w g d c α K xx h hdp he hcal'
  · cases he
theorem callR_at {R : List Rule} {T : List Con} {G : List Nat} (hR : RulesOk P R) (hT : TableOk P T G) (X : Cx) (h : X.G = G) : CallerOk P X (callR R T) := by subst h; exact callR_ok hR X hT
/-! ### A world that has grown, a row that is written -/
theorem Sim.grown (h : Sim X s a w g) {w' : World} (hg : w.grownBy w' none) : Sim X s a w' g := by
  have m : Mv w g (fun _ => False) w' g := ⟨fun k hk hlt => ⟨hg.block k hlt (by simp), hk⟩, fun n _ hl => ⟨hl, rfl, rfl⟩⟩
  refine ⟨fun t => (h.env t).move m, h.live, fun n y hy => ?_, h.disj, fun n k hl hk => ?_, h.flat, fun k hk => ?_, h.size, h.defers, ?_, Nat.le_trans h.base hg.size, h.glob.move m.blk⟩
  · have hl : g.live n := (h.live n).2 (by rw [hy]; rfl)
    exact (h.blk n y hy).move m rfl rfl fun k hk => hg.block k (h.own n k hl hk).1 (by simp)
  · have := h.own n k hl hk
    exact ⟨Nat.lt_of_lt_of_le this.1 hg.size, this.2⟩
  · have := h.ok k hk
    exact ⟨Nat.lt_of_lt_of_le this.1 hg.size, this.2⟩
  · exact ⟨hg.os.trans h.kept.os, hg.tape.trans h.kept.tape, hg.output.trans h.kept.output, Nat.le_trans h.kept.size hg.size, fun k hk hM => by
      rw [← h.kept.block k hk hM]
      exact hg.block k (Nat.lt_of_lt_of_le hk h.base) (by simp)⟩
theorem Chg.grown (h : Sim X s a w g) {d : Nat} {T : List Nat} {w' : World} (hg : w.grownBy w' none) : Chg d T w g w' g :=
  ⟨fun k hk hlt => ⟨hg.block k hlt (by simp), hk⟩, fun _ _ _ hl => ⟨hl, rfl, fun _ => rfl⟩, fun n k _ hl hk => ⟨hg.block k (h.own n k hl hk).1 (by simp), .inr hl⟩⟩
/-- An own row holds something else. -/
theorem Sim.rewrite (h : Sim X s a w g) {b k0 : Nat} {pin : Bool} {e : Nat} {t : Ty} {l l' : List t.T} (hb : hget s.heap b = some (.row pin e t l)) {w' : World} (hk0 : blkOf (g.val b) = some k0) (hg : w.grownBy w' (some k0))
    {inner : List Value} (ho : w'.ownsRow (bif pin then 0 else X.B) e t.sz (g.val b) l'.length inner) (hr : Reps w' g.ok t l' inner) :
    Sim X ⟨s.env, (b, .row pin e t l') :: hdel s.heap b⟩ a w' (g.set b (g.val b)) := by
  have hl : g.live b := (h.live b).2 (by rw [hb]; rfl)
  have hbk : g.has b k0 := .inl hk0
  have hrow : ∀ k', some k0 = some k' → ¬ g.ok k' ∧ (∀ n, n ≠ b → g.live n → ¬ g.has n k') ∧ (k' < X.B → X.M k') := fun k' e' => by
    cases e'
    have := h.own b k0 hl hbk
    exact ⟨this.2.2, fun n hn hn2 e1 => hn (h.disj n b k0 hn2 hl e1 hbk), this.2.1⟩
  exact h.upd b (.row pin e t l') (g.val b) _ (some k0) (fun n => hget_set b n _ s.heap) hg hrow (fun _ => ⟨rfl, h.flat b _ hb rfl⟩) (fun k' hk' => by
    rw [hk0] at hk'; cases hk'
    have := (h.own b k0 hl hbk).1
    exact ⟨Nat.lt_of_lt_of_le this hg.size, .inl rfl⟩) (own_set ho hr)
end
end Go.Proofs.YtjdglbkjdfidoaaGreatDoorV

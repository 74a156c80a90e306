/- A function is run rightly: each step holds of the model's own run. Conditions: those that each theorem states. -/
/- A checked abstract run of Go functions: calls. -/
import Derived.Test.YthgmnlfbgajchaaVaiExec
import Derived.Laws.NewBlocks
namespace Go.Proofs.YthgmnlfbgajchaaV
set_option linter.unusedVariables false
set_option linter.unusedSimpArgs false
/-! ### What a function takes, and what comes back -/
def shGets (s : St) : (n : Nat) → (cs : List Sh) → List AV → Option (STs cs × List (Nat × Nat))
  | _, [], [] => some ((), [])
  | n, c :: r, a :: as => match c.get s n a, shGets s (n + 64) r as with
    | some (x, p), some (y, q) => some ((x, y), p ++ q)
    | _, _ => none
  | _, _, _ => none
def shPuts : (n : Nat) → (cs : List Sh) → STs cs → List AV × List (Nat × Blk)
  | _, [], _ => ([], [])
  | n, c :: r, x => ((c.put n x.1).1 :: (shPuts (n + 64) r x.2).1, (c.put n x.1).2 ++ (shPuts (n + 64) r x.2).2)
/-- What a parameter's row or box holds at the end. -/
inductive MK where
  | own (e : Nat) (t : Ty) | box (cs : List CK)
def MK.T : MK → Type
  | .own _ t => List t.T
  | .box cs => CTs cs
def MKs : List (Nat × MK) → Type
  | [] => Unit
  | m :: r => m.2.T × MKs r
def capMuts : Nat → List Cap → List (Nat × MK)
  | _, [] => []
  | n, .m true cs :: r => (n, .box cs) :: capMuts (n + 8) r
  | n, _ :: r => capMuts (n + 8) r
/-- The parameters' rows and boxes that may be written. -/
def muts : Nat → List Sh → List (Nat × MK)
  | _, [] => []
  | n, .own true e t :: r => (n, .own e t) :: muts (n + 64) r
  | n, .box true cs :: r => (n, .box cs) :: muts (n + 64) r
  | n, .fn _ caps :: r => capMuts n caps ++ muts (n + 64) r
  | n, _ :: r => muts (n + 64) r
abbrev MTs (ps : List Sh) : Type := MKs (muts PB ps)
def ownMut (s : St) (n : Nat) (e : Nat) (t : Ty) : Option (List t.T × List (Nat × Nat)) := match hget s.heap n with
  | some (.row true e' t' l) => match castL t t' l with
    | some l => bif Nat.beq e' e then some (l, [(n, n)]) else none
    | none => none
  | _ => none
def boxMut (s : St) (n : Nat) (cs : List CK) : Option (CTs cs × List (Nat × Nat)) := match hget s.heap n with
  | some (.box true as) => match ckGets s (n + RB) cs as with
    | some (x, p) => some (x, (n, n) :: p)
    | none => none
  | _ => none
def MK.get (s : St) (n : Nat) : (c : MK) → Option (c.T × List (Nat × Nat))
  | .own e t => ownMut s n e t
  | .box cs => boxMut s n cs
def mutGets (s : St) : (ms : List (Nat × MK)) → Option (MKs ms × List (Nat × Nat))
  | [] => some ((), [])
  | m :: r => match m.2.get s m.1, mutGets s r with
    | some (x, p), some (y, q) => some ((x, y), p ++ q)
    | _, _ => none
def MK.put (n : Nat) : (c : MK) → c.T → List (Nat × Blk)
  | .own e t, l => [(n, .row true e t l)]
  | .box cs, x => (n, .box true (ckPuts (n + RB) cs x).1) :: (ckPuts (n + RB) cs x).2
def mutPuts : (ms : List (Nat × MK)) → MKs ms → List (Nat × Blk)
  | [], _ => []
  | m :: r, x => m.2.put m.1 x.1 ++ mutPuts r x.2
def envOf : Nat → List AV → List (Nat × AV)
  | _, [] => []
  | i, a :: r => (i, a) :: envOf (i + 1) r
def startSt (ps : List Sh) (x : STs ps) : St := ⟨envOf 0 (shPuts PB ps x).1, (shPuts PB ps x).2⟩
def resAV (P : Program) (s : St) : ResultVar → Option AV
  | .tmp t => some (get s.env t)
  | .cell t ty => loadX P s ty (get s.env t) some
def resAVs (P : Program) (s : St) : List ResultVar → Option (List AV)
  | [] => some []
  | r :: rs => match resAV P s r, resAVs P s rs with
    | some a, some as => some (a :: as)
    | _, _ => none
/-- Own rows that are to be values. -/
def wants : List Sh → List AV → List Nat
  | .v _ :: cs, a :: as => ownsOf a.cells ++ wants cs as
  | _ :: cs, _ :: as => wants cs as
  | _, _ => []
/-- What results want: rows as values. -/
def resWants : List Sh → List AV → List Nat
  | .v _ :: cs, a :: as => ownsOf a.cells ++ resWants cs as
  | .agg ks :: cs, .agg as :: r => ckWants ks as ++ resWants cs r
  | _ :: cs, _ :: as => resWants cs as
  | _, _ => []
/-- Where results lie, as holes: nil slices that are to be own rows get names. -/
def resHoles : List ResultVar → List Sh → List (Nat × Nat × Sh)
  | .tmp t :: rs, c :: cs => (t, 0, c) :: resHoles rs cs
  | .cell t _ :: rs, .agg ks :: cs => (t, 0, .box false ks) :: resHoles rs cs
  | .cell t _ :: rs, .own false e ty :: cs => (t, 0, .box false [.own e ty]) :: resHoles rs cs
  | _ :: rs, _ :: cs => resHoles rs cs
  | _, _ => []
/-- Boxes that are to be written no more. -/
def argBoxes : List Sh → List AV → List Nat
  | c :: cs, a :: as => shBoxes c a ++ argBoxes cs as
  | _, _ => []
def finish (P : Program) (s : St) (res : List ResultVar) (ps rs : List Sh) : Option (STs rs × MTs ps) := match resAVs P s res with
  | some as0 => match frzNames s (resWants rs as0) with
    | some s => match frzBoxes s (argBoxes rs as0) with
      | some s => match nilHoles s NB (resHoles res rs) with
        | some s => match resAVs P s res with
          | some as => match shGets s RB rs as, mutGets s (muts PB ps) with
            | some (x, p), some (y, q) => chk (okP (p ++ q) ((shPuts RB rs x).2 ++ mutPuts (muts PB ps) y)) (some (x, y))
            | _, _ => none
          | none => none
        | none => none
      | none => none
    | none => none
  | none => none
/-- A function's run: out of its parameters, its results. -/
noncomputable def funX (P : Program) (C : Caller) (k : Nat) (fn : Func) (A : Ann) (ps rs : List Sh) (x : STs ps) : Option (STs rs × MTs ps) := match fn.body with
  | some c => exec P fn.ntmps C k c A _ (startSt ps x) fun e s => match e with
    | .normal => finish P s fn.results.toList ps rs
    | .ret => finish P s fn.results.toList ps rs
    | .exit _ => none
  | none => none
def retVal : List Value → Value
  | [v] => v
  | vs => .tuple vs.toArray
structure Con where
  f : Nat
  ps : List Sh
  rs : List Sh
  fn : STs ps → Option (STs rs × MTs ps)
/-- What a contract says. -/
def Con.Sound (P : Program) (c : Con) (G : List Nat := []) : Prop :=
  (∃ fn, P.funcs[c.f]? = some fn ∧ (fn.name == "runtime.NumGoroutine") = false ∧ fn.body.isSome = true) ∧
  ∀ (x : STs c.ps) (y : STs c.rs) (z : MTs c.ps) (args : List Value) (w : World) (g0 : Gh) (ok0 M : Nat → Prop), args.length = c.ps.length → Sim ⟨w.heap.size, ok0, M, w, args.length, G⟩ (startSt c.ps x) ⟨args.toArray, []⟩ w g0 → c.fn x = some (y, z) →
    Calls P c.f args.toArray w fun e w' => ∃ vs g', e = .returned (retVal vs) ∧ Sim ⟨w.heap.size, ok0, M, w, 0, G⟩ ⟨[], (shPuts RB c.rs y).2 ++ mutPuts (muts PB c.ps) z⟩ ⟨#[], []⟩ w' g' ∧ RVs w' g' (shPuts RB c.rs y).1 vs ∧
      Nm g0 g' ∧ OkMv w g0 w' g' ∧ ∀ n y', (n, y') ∈ (shPuts RB c.rs y).2 ++ mutPuts (muts PB c.ps) z → BlkRel w.heap.size w' g' n y' ∧ g'.live n
section
variable {P : Program} {X : Cx} {C : Caller} {s : St} {a : Act} {w : World} {g g' : Gh}
theorem shs_ok (h : Sim X s a w g) : ∀ {cs : List Sh} {n : Nat} {as : List AV} {vs : List Value} {y : STs cs} {p : List (Nat × Nat)}, RVs w g as vs → shGets s n cs as = some (y, p) → Ren g g' p → RVs w g' (shPuts n cs y).1 vs ∧ Passed X s w g g' p (shPuts n cs y).2
  | [], _, [], [], y, p, _, he, r => by
    simp only [shGets, Option.some.injEq, Prod.mk.injEq] at he
    obtain ⟨_, rfl⟩ := he
    exact ⟨trivial, Passed.nil⟩
  | c :: cs, n, v :: as, u :: vs, y, p, hr, he, r => by
    simp only [shGets] at he
    split at he
    · rename_i x1 p1 x2 p2 e1 e2
      cases he
      obtain ⟨h1, h2⟩ := sh_ok h hr.1 e1 r.left
      obtain ⟨h3, h4⟩ := shs_ok h hr.2 e2 r.right
      exact ⟨⟨h1, h3⟩, h2.app h4⟩
    · cases he
  | [], _, _ :: _, _, _, _, _, he, _ => by simp [shGets] at he
  | _ :: _, _, [], _, _, _, _, he, _ => by simp [shGets] at he
  | _, _, [], _ :: _, _, _, hr, _, _ => hr.elim
  | _, _, _ :: _, [], _, _, hr, _, _ => hr.elim
theorem mut_ok (h : Sim X s a w g) {n : Nat} {c : MK} {y : c.T} {p : List (Nat × Nat)} (he : c.get s n = some (y, p)) (r : Ren g g' p) : Passed X s w g g' p (c.put n y) := by
  cases c with
  | own e t =>
    change ownMut s n e t = some (y, p) at he
    unfold ownMut at he
    split at he
    · rename_i e' t' l hb
      split at he
      · rename_i l' hc
        obtain ⟨rfl, hq⟩ := castL_some hc
        cases hq
        replace he := cond_some he
        obtain ⟨h1, he⟩ := he
        have h1 := Nat.eq_of_beq_eq_true h1
        subst h1
        cases he
        obtain ⟨h2, h3, h3'⟩ := r.name n n (by simp)
        refine ⟨fun m z hm => ?_, fun m z hm => ?_⟩
        · simp only [MK.put, List.mem_singleton, Prod.mk.injEq] at hm
          obtain ⟨rfl, rfl⟩ := hm
          exact ⟨row_ren h hb r.ok h3, _, List.mem_singleton.2 rfl, fun _ => h.flat _ _ hb rfl⟩
        · simp only [List.mem_singleton, Prod.mk.injEq] at hm
          obtain ⟨rfl, rfl⟩ := hm
          exact (h.live _).2 (by rw [hb]; rfl)
      · cases he
    · cases he
  | box cs =>
    change boxMut s n cs = some (y, p) at he
    unfold boxMut at he
    split at he
    · rename_i as hb
      split at he
      · rename_i y' q hq
        cases he
        obtain ⟨h2, h3, h3'⟩ := r.name n n (by simp)
        obtain ⟨k, cells, e, q1, q2, q3, q4⟩ := h.blk n _ hb
        obtain ⟨h4, h5⟩ := cks_ok h q4 hq (Ren.right (p := [(n, n)]) r)
        refine Passed.app (p := [(n, n)]) (h := [_]) ⟨fun m z hm => ?_, fun m z hm => ?_⟩ h5
        · simp only [List.mem_singleton, Prod.mk.injEq] at hm
          obtain ⟨rfl, rfl⟩ := hm
          exact ⟨⟨k, cells, e, by rw [h3]; exact q1, q2, q3, h4⟩, _, List.mem_singleton.2 rfl, fun _ => h.flat _ _ hb rfl⟩
        · simp only [List.mem_singleton, Prod.mk.injEq] at hm
          obtain ⟨rfl, rfl⟩ := hm
          exact (h.live _).2 (by rw [hb]; rfl)
      · cases he
    · cases he
theorem muts_ok (h : Sim X s a w g) : ∀ {ms : List (Nat × MK)} {y : MKs ms} {p : List (Nat × Nat)}, mutGets s ms = some (y, p) → Ren g g' p → Passed X s w g g' p (mutPuts ms y)
  | [], y, p, he, r => by
    simp only [mutGets, Option.some.injEq, Prod.mk.injEq] at he
    obtain ⟨_, rfl⟩ := he
    exact Passed.nil
  | c :: ms, y, p, he, r => by
    simp only [mutGets] at he
    split at he
    · rename_i x1 p1 x2 p2 e1 e2
      cases he
      exact (mut_ok h e1 r.left).app (muts_ok h e2 r.right)
    · cases he
theorem resAV_ok (h : Sim X s a w g) {r : ResultVar} {v : AV} (he : resAV P s r = some v) : ∃ cv, RV w g v cv ∧ (match r with
    | .tmp t => pure (a.tmps.getD t undef)
    | .cell t ty => do loadVar ty (← asAddr (a.tmps.getD t undef)) : Sem Value).run P w = .ok cv w := by
  cases r with
  | tmp t => simp only [resAV, Option.some.injEq] at he; subst he; exact ⟨_, h.env t, rfl⟩
  | cell t ty =>
    have hl := loadX_ok (P := P) (a := a) (w := w) (g := g) (X := X) (s := s) (K := some) (x := v) h (t := ty) (y := .tmp t) he
    obtain ⟨v', cv, h1, h2, h3⟩ := hl
    cases h1
    refine ⟨cv, h3, ?_⟩
    have := h2 w (fun _ _ _ => rfl) ⟨none, .load ty (.tmp t), 0, "", #[], none⟩ rfl
    simp only [execOp, Instr.loadAt, Sem.run_bind] at this
    rw [show a.eval (.tmp t) = a.tmps.getD t undef from rfl] at this
    simp only [Sem.run_bind]
    cases hv : a.tmps.getD t undef with
    | pointer A =>
      cases A with
      | none => rw [hv] at this; simp [Instr.sureAddr] at this
      | some ad =>
        rw [hv] at this
        simp only [Instr.sureAddr, Sem.run_pure, Result.andThen_ok, asAddr] at this ⊢
        cases hq : (loadVar ty ad).run P w with
        | ok u w' => rw [hq] at this; simp only [Result.andThen_ok, Result.ok.injEq, Next.value.injEq] at this; rw [this.1, this.2]
        | halt e w' => rw [hq] at this; simp at this
    | _ => rw [hv] at this; simp [Instr.sureAddr] at this
theorem resAVs_ok (h : Sim X s a w g) : ∀ {rs : List ResultVar} {as : List AV}, resAVs P s rs = some as → ∃ vs : List Value, RVs w g as vs ∧ (rs.mapM fun
    | .tmp t => pure (a.tmps.getD t undef)
    | .cell t ty => do loadVar ty (← asAddr (a.tmps.getD t undef)) : Sem (List Value)).run P w = .ok vs w
  | [], as, he => by
    simp only [resAVs, Option.some.injEq] at he
    subst he
    exact ⟨[], trivial, rfl⟩
  | r :: rs, as, he => by
    simp only [resAVs] at he
    split at he
    · rename_i v as' h1 h2
      cases he
      obtain ⟨cv, h3, h4⟩ := resAV_ok h h1
      obtain ⟨vs, h5, h6⟩ := resAVs_ok h h2
      refine ⟨cv :: vs, ⟨h3, h5⟩, ?_⟩
      rw [List.mapM_cons, Sem.run_bind]
      cases r with
      | tmp t =>
        simp only [Sem.run_pure, Result.ok.injEq] at h4
        simp only [Sem.run_pure, Result.andThen_ok, Sem.run_bind]
        rw [h6, h4.1]; rfl
      | cell t ty =>
        simp only at h4
        rw [h4]
        simp only [Result.andThen_ok, Sem.run_bind]
        rw [h6]; rfl
    · cases he
theorem results_ok (h : Sim X s a w g) {fn : Func} {as : List AV} (he : resAVs P s fn.results.toList = some as) : ∃ vs : List Value, RVs w g as vs ∧ (results fn a.tmps).run P w = .ok (retVal vs) w := by
  obtain ⟨vs, h1, h2⟩ := resAVs_ok h he
  refine ⟨vs, h1, ?_⟩
  unfold results
  rw [Array.mapM_eq_mapM_toList, Sem.run_bind, Sem.run_map]
  erw [h2]
  simp only [Result.andThen_ok, Sem.run_pure]
  congr 1
  cases vs with
  | nil => rfl
  | cons v vs =>
    cases vs with
    | nil => rfl
    | cons u vs => simp [retVal]
theorem envOf_get : ∀ (as : List AV) (i t : Nat), get (envOf i as) t = if i ≤ t then (match as[t - i]? with | some v => v | none => .bad) else .bad
  | [], i, t => by simp [envOf, get]
  | v :: as, i, t => by
    simp only [envOf, get]
    by_cases e : i = t
    · subst e; simp
    · rw [beq_ne e]
      simp only [cond_false]
      rw [envOf_get as (i + 1) t]
      by_cases h : i ≤ t
      · rw [if_pos h, if_pos (by omega)]
        obtain ⟨d, hd⟩ : ∃ d, t - i = d + 1 := ⟨t - i - 1, by omega⟩
        rw [hd, show t - (i + 1) = d by omega]
        simp
      · rw [if_neg h, if_neg (by omega)]
theorem shPuts_len : ∀ (cs : List Sh) (n : Nat) (x : STs cs), (shPuts n cs x).1.length = cs.length
  | [], _, _ => rfl
  | _ :: cs, n, x => congrArg (· + 1) (shPuts_len cs (n + 64) x.2)
/-- A function's contract, out of its run. -/
theorem con_ok {k : Nat} {fn : Func} {A : Ann} {c : Con} {G : List Nat} {body : Code} (hf : P.funcs[c.f]? = some fn) (hn : (fn.name == "runtime.NumGoroutine") = false) (hb : fn.body = some body)
    (hC : ∀ X : Cx, X.G = G → CallerOk P X C) (hps : c.ps.length ≤ fn.ntmps) (hrun : ∀ x y, c.fn x = some y → funX P C k fn A c.ps c.rs x = some y) : c.Sound P G := by
  refine ⟨⟨fn, hf, hn, by rw [hb]; rfl⟩, fun x y z args w g0 ok0 M hlen hs hx => ?_⟩
  have hx := hrun x (y, z) hx
  unfold funX at hx
  rw [hb] at hx
  simp only at hx
  let X : Cx := ⟨w.heap.size, ok0, M, w, fn.ntmps, G⟩
  have hsz : (args.toArray ++ Array.replicate (fn.ntmps - args.toArray.size) undef).size = fn.ntmps := by
    simp; omega
  have h0 : Sim X (startSt c.ps x) ⟨args.toArray ++ Array.replicate (fn.ntmps - args.toArray.size) undef, []⟩ w g0 := by
    refine ⟨fun t => ?_, hs.live, hs.blk, hs.disj, hs.own, hs.flat, hs.ok, hsz, rfl, hs.kept, hs.base, hs.glob⟩
    have := hs.env t
    rw [Array.getD_eq_getD_getElem?] at this ⊢
    by_cases ht : t < args.length
    · rw [Array.getElem?_append_left (by simpa using ht)]; exact this
    · have hbad : get (startSt c.ps x).env t = .bad := by
        simp only [startSt]
        rw [envOf_get, if_pos (Nat.zero_le t), List.getElem?_eq_none (by rw [shPuts_len]; omega)]
      rw [hbad]; trivial
  refine calls_of_wp hf hb (exec_ok (hC X rfl) k body A h0 hx fun e s1 a1 w1 g1 he h1 f1 => ?_)
  have fin : finish P s1 fn.results.toList c.ps c.rs = some (y, z) → a1.defers = [] ∧ ∃ v, (results fn a1.tmps).run P w1 = .ok v w1 ∧ ∃ vs g', Ending.returned v = .returned (retVal vs) ∧ Sim ⟨w.heap.size, ok0, M, w, 0, G⟩ ⟨[], (shPuts RB c.rs y).2 ++ mutPuts (muts PB c.ps) z⟩ ⟨#[], []⟩ w1 g' ∧ RVs w1 g' (shPuts RB c.rs y).1 vs ∧
      Nm g0 g' ∧ OkMv w g0 w1 g' ∧ ∀ n y', (n, y') ∈ (shPuts RB c.rs y).2 ++ mutPuts (muts PB c.ps) z → BlkRel w.heap.size w1 g' n y' ∧ g'.live n := by
    intro hfin
    refine ⟨h1.defers, ?_⟩
    unfold finish at hfin
    split at hfin
    · rename_i as0 _
      split at hfin
      · rename_i s2 hs2
        obtain ⟨g2', h2', l2⟩ := frzNames_ok h1 hs2
        split at hfin
        · rename_i s2b hs2b
          obtain ⟨g2c, h2c, l2c⟩ := frzBoxes_ok h2' hs2b
          split at hfin
          · rename_i s3 hs3
            obtain ⟨g2, h2, x2⟩ := nilHoles_ok h2c hs3
            split at hfin
            · rename_i as has
              obtain ⟨vs, hvs, hres⟩ := results_ok h2 has
              split at hfin
              · rename_i x1 p x2' q e1 e2
                obtain ⟨hu, hfin⟩ := chk_some hfin
                cases hfin
                have hu' := hu
                simp only [okP, Bool.and_eq_true] at hu'
                have r := ren_nub (g := g2) hu'.1
                obtain ⟨q1, q2⟩ := shs_ok h2 hvs e1 r.left
                have q3 := muts_ok h2 e2 r.right
                refine ⟨_, hres, vs, g2.ren (nub (p ++ q)), rfl, h2.handed hu (a' := ⟨#[], []⟩) rfl rfl (fun t => trivial) (q2.app q3), q1, ?_, ?_, fun n y' hm => ⟨((q2.app q3).1 n y' hm).1, by
                  obtain ⟨b, hb, _⟩ := ((q2.app q3).1 n y' hm).2
                  exact (r.name n b hb).1⟩⟩
                · refine (f1.nm.trans (l2.nm.trans (l2c.nm.trans x2.nms))).trans fun n h3 h4 h8 ⟨b, hb⟩ => ?_
                  have e := uniq_nm hu'.1 n b hb h3 h4 h8
                  subst e
                  exact ⟨(q2.app q3).2 n n (mem_nub.1 hb), (r.name n n (mem_nub.1 hb)).2.1⟩
                · exact (f1.ok.trans (l2.okMv.trans (l2c.okMv.trans x2.okMv))).trans fun k hk _ => ⟨rfl, hk⟩
              · cases hfin
            · cases hfin
          · cases hfin
        · cases hfin
      · cases hfin
    · cases hfin
  cases e with
  | normal => exact fin he
  | ret => exact fin he
  | exit id => cases he
end
/-! ### The caller's step -/
def argOk : List CK → Bool
  | [] => true
  | .own _ _ :: _ => false
  | _ :: r => argOk r
def ownArg (s : St) (n : Nat) (e : Nat) (t : Ty) : AV → Option (List t.T × List (Nat × Nat))
  | .own b => match hget s.heap b with
    | some (.row _ e' t' l) => match castL t t' l with
      | some l => bif Nat.beq e' e then some (l, [(n, b)]) else none
      | none => none
    | _ => none
  | _ => none
def boxArg (s : St) (n : Nat) (cs : List CK) : AV → Option (CTs cs × List (Nat × Nat))
  | .ptr b 0 => match hget s.heap b with
    | some (.box _ as) => match ckGets s (n + 1) cs as with
      | some (x, p) => bif argOk cs then some (x, (n, b) :: p) else none
      | none => none
    | _ => none
  | _ => none
def Cap.arg (s : St) (n : Nat) : (c : Cap) → AV → Option (c.T × List (Nat × Nat))
  | .r cs, a => rboxGet cs a
  | .m true cs, a => boxArg s n cs a
  | .m false _, _ => none
def capArgs (s : St) : (n : Nat) → (caps : List Cap) → List AV → Option (CapTs caps × List (Nat × Nat))
  | _, [], [] => some ((), [])
  | n, c :: r, a :: as => match c.arg s n a, capArgs s (n + 8) r as with
    | some (x, p), some (y, q) => some ((x, y), p ++ q)
    | _, _ => none
  | _, _, _ => none
def fnArg (s : St) (n : Nat) (f : Nat) (caps : List Cap) : AV → Option (CapTs caps × List (Nat × Nat))
  | .fn f' as => match capArgs s n caps as with
    | some (x, p) => bif Nat.beq f' f then some (x, p) else none
    | none => none
  | _ => none
/-- An argument, as the callee takes it. -/
def Sh.arg (s : St) (n : Nat) (h : Sh) (a : AV) : Option (h.T × List (Nat × Nat)) := match h with
  | .v t => vGet t a
  | .own true e t => ownArg s n e t a
  | .own false _ _ => none
  | .box true cs => boxArg s n cs a
  | .box false _ => none
  | .agg _ => none
  | .rbox cs => rboxGet cs a
  | .fn f caps => fnArg s n f caps a
  | .deep _ _ => none
  | .obj _ => none
  | .same => none
  | .nilI => none
def shArgs (s : St) : (n : Nat) → (cs : List Sh) → List AV → Option (STs cs × List (Nat × Nat))
  | _, [], [] => some ((), [])
  | n, c :: r, a :: as => match c.arg s n a, shArgs s (n + 64) r as with
    | some (x, p), some (y, q) => some ((x, y), p ++ q)
    | _, _ => none
  | _, _, _ => none
section
variable {P : Program} {X : Cx} {C : Caller} {s : St} {a : Act} {w : World} {g g0 : Gh}
/-- What the callee is given: 'ok' may be more than the caller's. -/
structure Lent (g g0 : Gh) (p : List (Nat × Nat)) : Prop where
  ok : ∀ k, g.ok k → g0.ok k
  name : ∀ n b, (n, b) ∈ p → g0.live n ∧ g0.val n = g.val b ∧ g0.inn n = g.inn b
theorem Lent.left {p q : List (Nat × Nat)} (h : Lent g g0 (p ++ q)) : Lent g g0 p := ⟨h.ok, fun n b hm => h.name n b (List.mem_append_left _ hm)⟩
theorem Lent.right {p q : List (Nat × Nat)} (h : Lent g g0 (p ++ q)) : Lent g g0 q := ⟨h.ok, fun n b hm => h.name n b (List.mem_append_right _ hm)⟩
def Given (B : Nat) (w : World) (g g0 : Gh) (p : List (Nat × Nat)) (h : List (Nat × Blk)) : Prop :=
  (∀ n y, (n, y) ∈ h → BlkRel B w g0 n y ∧ ∃ b, (n, b) ∈ p ∧ (y.flat = true → ∀ q, g.inn b q = none)) ∧ ∀ n b, (n, b) ∈ p → g.live b
theorem Given.nil {B : Nat} : Given B w g g0 [] [] := ⟨fun _ _ h => by simp at h, fun _ _ h => by simp at h⟩
theorem Given.app {B : Nat} {p q : List (Nat × Nat)} {h k : List (Nat × Blk)} (h1 : Given B w g g0 p h) (h2 : Given B w g g0 q k) : Given B w g g0 (p ++ q) (h ++ k) := by
  refine ⟨fun n y hm => ?_, fun n b hm => ?_⟩
  · rcases List.mem_append.1 hm with hm | hm
    · obtain ⟨e1, b, e2, e3⟩ := h1.1 n y hm; exact ⟨e1, b, List.mem_append_left _ e2, e3⟩
    · obtain ⟨e1, b, e2, e3⟩ := h2.1 n y hm; exact ⟨e1, b, List.mem_append_right _ e2, e3⟩
  · rcases List.mem_append.1 hm with hm | hm
    · exact h1.2 n b hm
    · exact h2.2 n b hm
/-- The world of the lent values: the caller's names, the callee's blocks that no one writes. -/
def Gh.lend (g g0 : Gh) : Gh := ⟨g0.ok, g.live, g.val, g.inn⟩
theorem tyPuts_pure : ∀ {cs : List Ty} {x : TTs cs}, AV.pures (tyPuts cs x) = true
  | [], _ => rfl
  | c :: cs, x => by
    simp only [tyPuts, AV.pures, Bool.and_eq_true]
    refine ⟨?_, tyPuts_pure⟩
    cases c with
    | pr a b =>
      have cells : ∀ (t : Ty) (y : t.T), AV.pures (t.cells y) = true := by
        intro t
        induction t with
        | pr a b iha ihb =>
          intro y
          have app : ∀ as bs : List AV, AV.pures as = true → AV.pures bs = true → AV.pures (as ++ bs) = true := by
            intro as
            induction as with
            | nil => exact fun _ _ h => h
            | cons v as ih =>
              intro bs h1 h2
              simp only [AV.pures, Bool.and_eq_true, List.cons_append] at h1 ⊢
              exact ⟨h1.1, ih bs h1.2 h2⟩
          exact app _ _ (iha y.1) (ihb y.2)
        | _ => intro y; rfl
      exact cells (.pr a b) x.1
    | _ => rfl
theorem ftPuts_pure : ∀ {cs : List (List Ty)} {x : FTs cs}, AV.pures (ftPuts cs x) = true
  | [], _ => rfl
  | c :: cs, x => by
    simp only [ftPuts, AV.pures, AV.pure, Bool.and_eq_true]
    exact ⟨tyPuts_pure, ftPuts_pure⟩
theorem ren_refl : Ren g g [] := ⟨rfl, fun _ _ hm => by simp at hm⟩
theorem ckA_ok (h : Sim X s a w g) {n : Nat} {c : CK} {v : AV} {cv : Value} {y : c.T} {p : List (Nat × Nat)} (hr : RV w g v cv) (he : c.get s n v = some (y, p)) (ho : argOk [c] = true) (r : Lent g g0 p) : RV w g0 (c.put n y).1 cv ∧ Given w.heap.size w g g0 p (c.put n y).2 := by
  cases c with
  | own e t => cases ho
  | v t =>
    simp only [CK.get] at he
    split at he
    · rename_i y' hy
      cases he
      have h5 := one_av hr hy
      refine ⟨?_, Given.nil⟩
      refine RV.pure (g := g) (w := w) (fun k hk _ => ⟨rfl, r.ok k hk⟩) ?_ h5.1
      cases t with
      | pr a b => exact absurd rfl (h5.2 a b)
      | _ => rfl
    · cases he
  | pin e t =>
    cases v with
    | own b =>
      simp only [CK.get] at he
      split at he
      · rename_i pin' e' t' l hb
        split at he
        · rename_i l' hc
          obtain ⟨rfl, hq⟩ := castL_some hc
          cases hq
          replace he := cond_some he
          obtain ⟨h1, he⟩ := he
          have h1 := Nat.eq_of_beq_eq_true h1
          subst h1
          cases he
          obtain ⟨h2, h3, _⟩ := r.name n b (by simp)
          refine ⟨⟨h2, by rw [h3]; exact hr.2⟩, fun m z hm => ?_, fun m z hm => ?_⟩
          · simp only [CK.put, List.mem_singleton, Prod.mk.injEq] at hm
            obtain ⟨rfl, rfl⟩ := hm
            obtain ⟨inner, ⟨ho1, ho2⟩, hreps⟩ := h.blk b _ hb
            refine ⟨⟨inner, ⟨ho1, ?_⟩, hreps.move (fun k hk _ => ⟨rfl, r.ok k hk⟩)⟩, b, by simp, fun _ => h.flat b _ hb rfl⟩
            rw [h3]
            rcases ho2 with ho2 | ⟨k, cap, cur, e1, _, e3⟩
            · exact .inl ho2
            · exact .inr ⟨k, cap, cur, e1, Nat.zero_le _, e3⟩
          · simp only [List.mem_singleton, Prod.mk.injEq] at hm
            obtain ⟨rfl, rfl⟩ := hm
            exact hr.1
        · cases he
      · cases he
    | _ => simp [CK.get] at he
  | self i ns =>
    cases v with
    | fn f' as =>
      simp only [CK.get] at he
      split at he
      · rename_i q hq
        replace he := cond_some he
        obtain ⟨h1, he⟩ := he
        have h1 := Nat.eq_of_beq_eq_true h1
        subst h1
        cases he
        obtain ⟨vs, rfl, hr⟩ := hr
        obtain ⟨h2, h3⟩ := knot_ok hr hq fun n b hm => ⟨(r.name n b hm).1, (r.name n b hm).2.1⟩
        exact ⟨⟨vs, rfl, h2⟩, fun _ _ hm => by simp [CK.put] at hm, h3⟩
      · cases he
    | _ => simp [CK.get] at he
  | clo i cs =>
    cases v with
    | fn f' as =>
      simp only [CK.get] at he
      split at he
      · rename_i x hx
        replace he := cond_some he
        obtain ⟨h1, he⟩ := he
        have h1 := Nat.eq_of_beq_eq_true h1
        subst h1
        cases he
        obtain ⟨vs, rfl, hr⟩ := hr
        exact ⟨⟨vs, rfl, RVs.pure (g := g) (w := w) (fun k hk _ => ⟨rfl, r.ok k hk⟩) ftPuts_pure (fts_ok ren_refl hr hx)⟩, Given.nil⟩
      · cases he
    | _ => simp [CK.get] at he
theorem cksA_ok (h : Sim X s a w g) : ∀ {cs : List CK} {n : Nat} {as : List AV} {vs : List Value} {y : CTs cs} {p : List (Nat × Nat)}, RVs w g as vs → ckGets s n cs as = some (y, p) → argOk cs = true → Lent g g0 p → RVs w g0 (ckPuts n cs y).1 vs ∧ Given w.heap.size w g g0 p (ckPuts n cs y).2
  | [], _, [], [], y, p, _, he, _, r => by
    simp only [ckGets, Option.some.injEq, Prod.mk.injEq] at he
    obtain ⟨_, rfl⟩ := he
    exact ⟨trivial, Given.nil⟩
  | c :: cs, n, v :: as, u :: vs, y, p, hr, he, ho, r => by
    have ho1 : argOk [c] = true ∧ argOk cs = true := by cases c <;> first | exact ⟨rfl, ho⟩ | cases ho
    simp only [ckGets] at he
    split at he
    · rename_i x1 p1 x2 p2 e1 e2
      cases he
      obtain ⟨h1, h2⟩ := ckA_ok h hr.1 e1 ho1.1 r.left
      obtain ⟨h3, h4⟩ := cksA_ok h hr.2 e2 ho1.2 r.right
      exact ⟨⟨h1, h3⟩, h2.app h4⟩
    · cases he
  | [], _, _ :: _, _, _, _, _, he, _, _ => by simp [ckGets] at he
  | _ :: _, _, [], _, _, _, _, he, _, _ => by simp [ckGets] at he
  | _, _, [], _ :: _, _, _, hr, _, _, _ => hr.elim
  | _, _, _ :: _, [], _, _, hr, _, _, _ => hr.elim
theorem boxArg_ok (h : Sim X s a w g) {n : Nat} {cs : List CK} {v : AV} {cv : Value} {y : CTs cs} {p : List (Nat × Nat)} (hr : RV w (g.lend g0) v cv) (he : boxArg s n cs v = some (y, p)) (r : Lent g g0 p) : RV w g0 (.ptr n 0) cv ∧ Given w.heap.size w g g0 p ((n, .box true (ckPuts (n + 1) cs y).1) :: (ckPuts (n + 1) cs y).2) := by
  cases v with
  | ptr b o =>
    cases o with
    | succ o => simp [boxArg] at he
    | zero =>
      simp only [boxArg] at he
      split at he
      · rename_i pin' as hb
        split at he
        · rename_i y' q hq
          replace he := cond_some he
          obtain ⟨h1, he⟩ := he
          cases he
          obtain ⟨h2, h3, _⟩ := r.name n b (by simp)
          obtain ⟨hl, k, hk1, hk2⟩ := hr
          obtain ⟨k', cells, e, q1, q2, q3, q4⟩ := h.blk b _ hb
          have hk1' : g.val b = .pointer (some ⟨k, 0, none⟩) := hk1
          rw [hk1'] at q1; cases q1
          obtain ⟨h4, h5⟩ := cksA_ok (g0 := g0) h q4 hq h1 (Lent.right (p := [(n, b)]) r)
          refine ⟨⟨h2, k, by rw [h3]; exact hk1', hk2⟩, Given.app (p := [(n, b)]) (h := [_]) ⟨fun m z hm => ?_, fun m z hm => ?_⟩ h5⟩
          · simp only [List.mem_singleton, Prod.mk.injEq] at hm
            obtain ⟨rfl, rfl⟩ := hm
            exact ⟨⟨k, cells, e, by rw [h3]; exact hk1', Nat.zero_le _, q3, h4⟩, b, by simp, fun _ => h.flat b _ hb rfl⟩
          · simp only [List.mem_singleton, Prod.mk.injEq] at hm
            obtain ⟨rfl, rfl⟩ := hm
            exact hl
        · cases he
      · cases he
  | _ => simp [boxArg] at he
theorem rboxArg_ok {cs : List Ty} {v : AV} {cv : Value} {y : TTs cs} {p : List (Nat × Nat)} (hr : RV w (g.lend g0) v cv) (he : rboxGet cs v = some (y, p)) : RV w g0 (.rptr (tyPuts cs y) 0) cv ∧ p = [] := by
  have r0 : Ren (g.lend g0) g0 [] := ⟨rfl, fun _ _ hm => by simp at hm⟩
  cases v with
  | rptr as o =>
    cases o with
    | succ o => simp [rboxGet] at he
    | zero =>
      simp only [rboxGet] at he
      split at he
      · rename_i y' hy
        cases he
        obtain ⟨k, cells, e, h1, h2, h3, h4⟩ := hr
        exact ⟨⟨k, cells, e, h1, h2, tys_ok r0 h3 hy, h4⟩, rfl⟩
      · cases he
  | _ => simp [rboxGet] at he
theorem capArg_ok (h : Sim X s a w g) {n : Nat} {c : Cap} {v : AV} {cv : Value} {y : c.T} {p : List (Nat × Nat)} (hr : RV w (g.lend g0) v cv) (he : c.arg s n v = some (y, p)) (r : Lent g g0 p) : RV w g0 (c.put n y).1 cv ∧ Given w.heap.size w g g0 p (c.put n y).2 := by
  cases c with
  | r cs =>
    obtain ⟨h1, rfl⟩ := rboxArg_ok (cs := cs) hr he
    exact ⟨h1, Given.nil⟩
  | m pin cs =>
    cases pin with
    | true => exact boxArg_ok h hr he r
    | false => cases he
theorem capArgs_ok (h : Sim X s a w g) : ∀ {cs : List Cap} {n : Nat} {as : List AV} {vs : List Value} {y : CapTs cs} {p : List (Nat × Nat)}, RVs w (g.lend g0) as vs → capArgs s n cs as = some (y, p) → Lent g g0 p → RVs w g0 (capPuts n cs y).1 vs ∧ Given w.heap.size w g g0 p (capPuts n cs y).2
  | [], _, [], [], y, p, _, he, r => by
    simp only [capArgs, Option.some.injEq, Prod.mk.injEq] at he
    obtain ⟨_, rfl⟩ := he
    exact ⟨trivial, Given.nil⟩
  | c :: cs, n, v :: as, u :: vs, y, p, hr, he, r => by
    simp only [capArgs] at he
    split at he
    · rename_i x1 p1 x2 p2 e1 e2
      cases he
      obtain ⟨h1, h2⟩ := capArg_ok h hr.1 e1 r.left
      obtain ⟨h3, h4⟩ := capArgs_ok h hr.2 e2 r.right
      exact ⟨⟨h1, h3⟩, h2.app h4⟩
    · cases he
  | [], _, _ :: _, _, _, _, _, he, _ => by simp [capArgs] at he
  | _ :: _, _, [], _, _, _, _, he, _ => by simp [capArgs] at he
  | _, _, [], _ :: _, _, _, hr, _, _ => hr.elim
  | _, _, _ :: _, [], _, _, hr, _, _ => hr.elim
theorem arg_ok (h : Sim X s a w g) {n : Nat} {c : Sh} {v : AV} {cv : Value} {y : c.T} {p : List (Nat × Nat)} (hr : RV w (g.lend g0) v cv) (he : c.arg s n v = some (y, p)) (r : Lent g g0 p) : RV w g0 (c.put n y).1 cv ∧ Given w.heap.size w g g0 p (c.put n y).2 := by
  have r0 : Ren (g.lend g0) g0 [] := ⟨rfl, fun _ _ hm => by simp at hm⟩
  cases c with
  | v t =>
    change vGet t v = some (y, p) at he
    unfold vGet at he
    replace he := cond_some he
    obtain ⟨h0, he⟩ := he
    split at he
    · rename_i y' hy
      cases he
      refine ⟨?_, Given.nil⟩
      cases v with
      | agg vs =>
        obtain ⟨cs, rfl, hr⟩ := hr
        have hrep := all_ok hr hy
        cases t with
        | pr a b => exact av_ren (t := .pr a b) r0 ⟨cs, rfl, hrep.rvs⟩
        | _ => cases h0
      | _ => exact av_ren r0 (one_av hr hy).1
    · cases he
  | own pin e t =>
    cases pin with
    | false => cases he
    | true =>
      change ownArg s n e t v = some (y, p) at he
      cases v with
      | own b =>
        simp only [ownArg] at he
        split at he
        · rename_i pin' e' t' l hb
          split at he
          · rename_i l' hc
            obtain ⟨rfl, hq⟩ := castL_some hc
            cases hq
            replace he := cond_some he
            obtain ⟨h1, he⟩ := he
            have h1 := Nat.eq_of_beq_eq_true h1
            subst h1
            cases he
            obtain ⟨h2, h3, _⟩ := r.name n b (by simp)
            refine ⟨⟨h2, by rw [h3]; exact hr.2⟩, fun m z hm => ?_, fun m z hm => ?_⟩
            · simp only [Sh.put, List.mem_singleton, Prod.mk.injEq] at hm
              obtain ⟨rfl, rfl⟩ := hm
              obtain ⟨inner, ⟨ho1, ho2⟩, hreps⟩ := h.blk b _ hb
              refine ⟨⟨inner, ⟨ho1, ?_⟩, hreps.move (fun k hk _ => ⟨rfl, r.ok k hk⟩)⟩, b, by simp, fun _ => h.flat b _ hb rfl⟩
              rw [h3]
              rcases ho2 with ho2 | ⟨k, cap, cur, e1, _, e3⟩
              · exact .inl ho2
              · exact .inr ⟨k, cap, cur, e1, Nat.zero_le _, e3⟩
            · simp only [List.mem_singleton, Prod.mk.injEq] at hm
              obtain ⟨rfl, rfl⟩ := hm
              exact hr.1
          · cases he
        · cases he
      | _ => simp [ownArg] at he
  | box pin cs =>
    cases pin with
    | false => cases he
    | true => exact boxArg_ok h hr he r
  | agg cs => cases he
  | deep e t => cases he
  | obj k => cases he
  | same => cases he
  | nilI => cases he
  | rbox cs =>
    obtain ⟨h1, rfl⟩ := rboxArg_ok (cs := cs) hr he
    exact ⟨h1, Given.nil⟩
  | fn f caps =>
    change fnArg s n f caps v = some (y, p) at he
    cases v with
    | fn f' as =>
      simp only [fnArg] at he
      split at he
      · rename_i y' p' hy
        replace he := cond_some he
        obtain ⟨h1, he⟩ := he
        have h1 := Nat.eq_of_beq_eq_true h1
        subst h1
        cases he
        obtain ⟨vs, rfl, hr⟩ := hr
        obtain ⟨h2, h3⟩ := capArgs_ok h hr hy r
        exact ⟨⟨vs, rfl, h2⟩, h3⟩
      · cases he
    | _ => simp [fnArg] at he
theorem args_ok (h : Sim X s a w g) : ∀ {cs : List Sh} {n : Nat} {as : List AV} {vs : List Value} {y : STs cs} {p : List (Nat × Nat)}, RVs w (g.lend g0) as vs → shArgs s n cs as = some (y, p) → Lent g g0 p → RVs w g0 (shPuts n cs y).1 vs ∧ Given w.heap.size w g g0 p (shPuts n cs y).2
  | [], _, [], [], y, p, _, he, r => by
    simp only [shArgs, Option.some.injEq, Prod.mk.injEq] at he
    obtain ⟨_, rfl⟩ := he
    exact ⟨trivial, Given.nil⟩
  | c :: cs, n, v :: as, u :: vs, y, p, hr, he, r => by
    simp only [shArgs] at he
    split at he
    · rename_i x1 p1 x2 p2 e1 e2
      cases he
      obtain ⟨h1, h2⟩ := arg_ok h hr.1 e1 r.left
      obtain ⟨h3, h4⟩ := args_ok h hr.2 e2 r.right
      exact ⟨⟨h1, h3⟩, h2.app h4⟩
    · cases he
  | [], _, _ :: _, _, _, _, _, he, _ => by simp [shArgs] at he
  | _ :: _, _, [], _, _, _, _, he, _ => by simp [shArgs] at he
  | _, _, [], _ :: _, _, _, hr, _, _ => hr.elim
  | _, _, _ :: _, [], _, _, hr, _, _ => hr.elim
end
end Go.Proofs.YthgmnlfbgajchaaV

/- Calls are run rightly: each step holds of the model's own run. Conditions: those that each theorem states. -/
/- A checked abstract run of Go functions: the caller's step. -/
import Derived.Test.YthgmnlfbgajchaaVaiCall
namespace Go.Proofs.YthgmnlfbgajchaaV
set_option linter.unusedVariables false
set_option linter.unusedSimpArgs false
/-! ### What hangs on no block that no one writes -/
def CK.flat : CK → Bool
  | .v t => t.flat
  | .own _ t => t.flat
  | .pin _ t => t.flat
  | .self _ _ => true
  | .clo _ _ => false
/-- No function over named boxes is among them. -/
def noselfs : List CK → Bool
  | [] => true
  | .self _ _ :: _ => false
  | _ :: r => noselfs r
def Cap.noself : Cap → Bool
  | .r _ => true
  | .m _ cs => noselfs cs
def capsNoself : List Cap → Bool
  | [] => true
  | c :: r => c.noself && capsNoself r
def Sh.noself : Sh → Bool
  | .box _ cs => noselfs cs
  | .agg cs => noselfs cs
  | .fn _ caps => capsNoself caps
  | .same => false
  | _ => true
def allNoself : List Sh → Bool
  | [] => true
  | c :: r => c.noself && allNoself r
def flats : List CK → Bool
  | [] => true
  | c :: r => c.flat && flats r
def Sh.flat : Sh → Bool
  | .v t => t.flat
  | .own _ _ t => t.flat
  | .box _ cs => flats cs
  | .agg cs => flats cs
  | .rbox _ => false
  | .fn _ _ => false
  | .deep _ _ => true
  | .same => false
  | .nilI => true
  | .obj _ => true
def MK.flat : MK → Bool
  | .own _ t => t.flat
  | .box cs => flats cs
def allFlat : List Sh → Bool
  | [] => true
  | c :: r => c.flat && allFlat r
def allMflat : List (Nat × MK) → Bool
  | [] => true
  | c :: r => c.2.flat && allMflat r
section
variable {w w' : World} {g g' : Gh} {ok ok' : Nat → Prop}
theorem Rep.flat : ∀ {t : Ty} {y : t.T} {cs : List Value}, t.flat = true → Rep w ok t y cs → Rep w' ok' t y cs
  | .int _, _, _, _, h => h
  | .bool, _, _, _, h => h
  | .str, _, _, _, h => h
  | .slc _ _, _, _, hf, _ => by cases hf
  | .pr a b, _, _, hf, ⟨c1, c2, h, h1, h2⟩ => by
    simp only [Ty.flat, Bool.and_eq_true] at hf
    exact ⟨c1, c2, h, Rep.flat hf.1 h1, Rep.flat hf.2 h2⟩
theorem Reps.flat {t : Ty} (hf : t.flat = true) : ∀ {l : List t.T} {cs : List Value}, Reps w ok t l cs → Reps w' ok' t l cs
  | [], _, h => h
  | _ :: _, _, ⟨c1, c2, h, h1, h2⟩ => ⟨c1, c2, h, Rep.flat hf h1, Reps.flat hf h2⟩
theorem cells_flat : ∀ {t : Ty} {y : t.T} {vs : List Value}, t.flat = true → RVs w g (t.cells y) vs → RVs w' g' (t.cells y) vs
  | .int _, _, [_], _, h => h
  | .bool, _, [_], _, h => h
  | .str, _, [_], _, h => h
  | .int _, _, _ :: _ :: _, _, h => h.2.elim
  | .bool, _, _ :: _ :: _, _, h => h.2.elim
  | .str, _, _ :: _ :: _, _, h => h.2.elim
  | .int _, _, [], _, h => h.elim
  | .bool, _, [], _, h => h.elim
  | .str, _, [], _, h => h.elim
  | .slc _ _, _, _, hf, _ => by cases hf
  | .pr a b, y, vs, hf, h => by
    simp only [Ty.flat, Bool.and_eq_true] at hf
    have split : ∀ (as bs : List AV) (vs : List Value), RVs w g (as ++ bs) vs → ∃ v1 v2, vs = v1 ++ v2 ∧ RVs w g as v1 ∧ RVs w g bs v2 := by
      intro as
      induction as with
      | nil => exact fun bs vs h => ⟨[], vs, rfl, trivial, h⟩
      | cons a as ih =>
        intro bs vs h
        cases vs with
        | nil => exact h.elim
        | cons v vs =>
          obtain ⟨v1, v2, e, h1, h2⟩ := ih bs vs h.2
          exact ⟨v :: v1, v2, by rw [e]; rfl, ⟨h.1, h1⟩, h2⟩
    obtain ⟨v1, v2, rfl, h1, h2⟩ := split _ _ _ h
    exact (cells_flat hf.1 h1).app (cells_flat hf.2 h2)
theorem av_flat {t : Ty} {y : t.T} {cv : Value} (hf : t.flat = true) (h : RV w g (t.av y) cv) : RV w' g' (t.av y) cv := by
  cases t with
  | pr a b => obtain ⟨cs, e, h⟩ := h; exact ⟨cs, e, cells_flat (t := .pr a b) hf h⟩
  | slc e t => cases hf
  | _ => exact h
theorem av_pure {t : Ty} {y : t.T} : (t.av y).pure = true := by
  cases t with
  | pr a b =>
    have cells : ∀ (t : Ty) (y : t.T), AV.pures (t.cells y) = true := by
      intro t
      induction t with
      | pr a b iha ihb =>
        intro y
        have app : ∀ as bs : List AV, AV.pures as = true → AV.pures bs = true → AV.pures (as ++ bs) = true := by
          intro as
          induction as with
          | nil => exact fun _ _ h => h
          | cons v as ih =>
            intro bs h1 h2
            simp only [AV.pures, Bool.and_eq_true, List.cons_append] at h1 ⊢
            exact ⟨h1.1, ih bs h1.2 h2⟩
        exact app _ _ (iha y.1) (ihb y.2)
      | _ => intro y; rfl
    exact cells (.pr a b) y
  | _ => rfl
/-! ### Results under other names -/
/-- Names moved up by 'off'; blocks that no one writes stay so, or do not matter. -/
structure Shift (w : World) (g g' : Gh) (off : Nat) (fl : Bool) (h : List (Nat × Blk)) : Prop where
  ok : fl = true ∨ ∀ k, g.ok k → g'.ok k
  name : ∀ m y, (m, y) ∈ h → g'.live (m + off) ∧ g'.val (m + off) = g.val m ∧ g'.inn (m + off) = g.inn m
theorem Shift.left {off : Nat} {fl fr : Bool} {h k : List (Nat × Blk)} (r : Shift w g g' off (fl && fr) (h ++ k)) : Shift w g g' off fl h := ⟨r.ok.imp (fun e => by simp only [Bool.and_eq_true] at e; exact e.1) id, fun m y hm => r.name m y (List.mem_append_left _ hm)⟩
theorem Shift.right {off : Nat} {fl fr : Bool} {h k : List (Nat × Blk)} (r : Shift w g g' off (fl && fr) (h ++ k)) : Shift w g g' off fr k := ⟨r.ok.imp (fun e => by simp only [Bool.and_eq_true] at e; exact e.2) id, fun m y hm => r.name m y (List.mem_append_right _ hm)⟩
/-- What is said of the blocks. -/
def Moved (B B' : Nat) (w : World) (g g' : Gh) (off : Nat) (h k : List (Nat × Blk)) : Prop :=
  (∀ n y, (n, y) ∈ k → ∃ m y', n = m + off ∧ (m, y') ∈ h ∧ y.flat = y'.flat ∧ (BlkRel B w g m y' → BlkRel B' w g' n y)) ∧ ∀ m y', (m, y') ∈ h → ∃ y, (m + off, y) ∈ k
theorem Moved.nil {B B' off : Nat} : Moved B B' w g g' off [] [] := ⟨fun _ _ h => by simp at h, fun _ _ h => by simp at h⟩
theorem Moved.app {B B' off : Nat} {h1 k1 h2 k2 : List (Nat × Blk)} (m1 : Moved B B' w g g' off h1 k1) (m2 : Moved B B' w g g' off h2 k2) : Moved B B' w g g' off (h1 ++ h2) (k1 ++ k2) := by
  refine ⟨fun n y hm => ?_, fun n y hm => ?_⟩
  · rcases List.mem_append.1 hm with hm | hm
    · obtain ⟨m, y', e1, e2, e3⟩ := m1.1 n y hm; exact ⟨m, y', e1, List.mem_append_left _ e2, e3⟩
    · obtain ⟨m, y', e1, e2, e3⟩ := m2.1 n y hm; exact ⟨m, y', e1, List.mem_append_right _ e2, e3⟩
  · rcases List.mem_append.1 hm with hm | hm
    · obtain ⟨z, e⟩ := m1.2 n y hm; exact ⟨z, List.mem_append_left _ e⟩
    · obtain ⟨z, e⟩ := m2.2 n y hm; exact ⟨z, List.mem_append_right _ e⟩
theorem row_shift {B B' : Nat} (hB : B' ≤ B) {n m : Nat} {pin : Bool} {e : Nat} {t : Ty} {l : List t.T} (hv : g'.val n = g.val m) (ok : t.flat = true ∨ ∀ k, g.ok k → g'.ok k) (h : BlkRel B w g m (.row pin e t l)) : BlkRel B' w g' n (.row pin e t l) := by
  obtain ⟨inner, ⟨h1, h2⟩, hr⟩ := h
  refine ⟨inner, ⟨h1, ?_⟩, ?_⟩
  · rw [hv]
    rcases h2 with h2 | ⟨k, cap, cur, e1, e2, e3⟩
    · exact .inl h2
    · refine .inr ⟨k, cap, cur, e1, ?_, e3⟩
      cases pin with
      | true => exact Nat.zero_le _
      | false => exact Nat.le_trans hB e2
  · rcases ok with hf | hk
    · exact hr.flat hf
    · exact hr.move (fun k h _ => ⟨rfl, hk k h⟩)
theorem ck_shift {B B' : Nat} (hB : B' ≤ B) {off : Nat} {n : Nat} {c : CK} {x : c.T} {cv : Value} (hns : noselfs [c] = true) (r : Shift w g g' off c.flat (c.put n x).2) (h : RV w g (c.put n x).1 cv) : RV w g' (c.put (n + off) x).1 cv ∧ Moved B B' w g g' off (c.put n x).2 (c.put (n + off) x).2 := by
  cases c with
  | v t =>
    refine ⟨?_, Moved.nil⟩
    rcases r.ok with hf | hk
    · exact av_flat hf h
    · exact RV.pure (g := g) (w := w) (fun k h _ => ⟨rfl, hk k h⟩) av_pure h
  | own e t =>
    obtain ⟨h1, h2, _⟩ := r.name n _ (List.mem_singleton.2 rfl)
    refine ⟨⟨h1, by rw [h2]; exact h.2⟩, fun m y hm => ?_, fun m y hm => ?_⟩
    · simp only [CK.put, List.mem_singleton, Prod.mk.injEq] at hm
      obtain ⟨rfl, rfl⟩ := hm
      exact ⟨n, _, rfl, List.mem_singleton.2 rfl, rfl, fun hb => row_shift hB h2 r.ok hb⟩
    · simp only [CK.put, List.mem_singleton, Prod.mk.injEq] at hm
      obtain ⟨rfl, rfl⟩ := hm
      exact ⟨_, List.mem_singleton.2 rfl⟩
  | pin e t =>
    obtain ⟨h1, h2, _⟩ := r.name n _ (List.mem_singleton.2 rfl)
    refine ⟨⟨h1, by rw [h2]; exact h.2⟩, fun m y hm => ?_, fun m y hm => ?_⟩
    · simp only [CK.put, List.mem_singleton, Prod.mk.injEq] at hm
      obtain ⟨rfl, rfl⟩ := hm
      exact ⟨n, _, rfl, List.mem_singleton.2 rfl, rfl, fun hb => row_shift hB h2 r.ok hb⟩
    · simp only [CK.put, List.mem_singleton, Prod.mk.injEq] at hm
      obtain ⟨rfl, rfl⟩ := hm
      exact ⟨_, List.mem_singleton.2 rfl⟩
  | self i ns => cases hns
  | clo i cs =>
    rcases r.ok with hf | hk
    · cases hf
    · obtain ⟨vs, e, h⟩ := h
      exact ⟨⟨vs, e, RVs.pure (g := g) (w := w) (fun k h _ => ⟨rfl, hk k h⟩) ftPuts_pure h⟩, Moved.nil⟩
theorem ck_moved {B B' : Nat} (hB : B' ≤ B) {off : Nat} {n : Nat} {c : CK} {x : c.T} (r : Shift w g g' off c.flat (c.put n x).2) : Moved B B' w g g' off (c.put n x).2 (c.put (n + off) x).2 := by
  cases c with
  | v t => exact Moved.nil
  | own e t =>
    obtain ⟨h1, h2, _⟩ := r.name n _ (List.mem_singleton.2 rfl)
    refine ⟨fun m y hm => ?_, fun m y hm => ?_⟩
    · simp only [CK.put, List.mem_singleton, Prod.mk.injEq] at hm
      obtain ⟨rfl, rfl⟩ := hm
      exact ⟨n, _, rfl, List.mem_singleton.2 rfl, rfl, fun hb => row_shift hB h2 r.ok hb⟩
    · simp only [CK.put, List.mem_singleton, Prod.mk.injEq] at hm
      obtain ⟨rfl, rfl⟩ := hm
      exact ⟨_, List.mem_singleton.2 rfl⟩
  | pin e t =>
    obtain ⟨h1, h2, _⟩ := r.name n _ (List.mem_singleton.2 rfl)
    refine ⟨fun m y hm => ?_, fun m y hm => ?_⟩
    · simp only [CK.put, List.mem_singleton, Prod.mk.injEq] at hm
      obtain ⟨rfl, rfl⟩ := hm
      exact ⟨n, _, rfl, List.mem_singleton.2 rfl, rfl, fun hb => row_shift hB h2 r.ok hb⟩
    · simp only [CK.put, List.mem_singleton, Prod.mk.injEq] at hm
      obtain ⟨rfl, rfl⟩ := hm
      exact ⟨_, List.mem_singleton.2 rfl⟩
  | self i ns => exact Moved.nil
  | clo i cs => exact Moved.nil
theorem cks_moved {B B' : Nat} (hB : B' ≤ B) {off : Nat} : ∀ {cs : List CK} {n : Nat} {x : CTs cs}, Shift w g g' off (flats cs) (ckPuts n cs x).2 → Moved B B' w g g' off (ckPuts n cs x).2 (ckPuts (n + off) cs x).2
  | [], _, _, _ => Moved.nil
  | c :: cs, n, x, r => by
    have h2 := ck_moved hB (Shift.left (fl := c.flat) r)
    have h4 := cks_moved hB (Shift.right (fl := c.flat) r)
    simp only [ckPuts]
    rw [show n + off + 1 = n + 1 + off by omega]
    exact h2.app h4
theorem noself_cons {c : CK} {cs : List CK} (h : noselfs (c :: cs) = true) : noselfs [c] = true ∧ noselfs cs = true := by cases c <;> first | exact ⟨rfl, h⟩ | cases h
theorem cks_shift {B B' : Nat} (hB : B' ≤ B) {off : Nat} : ∀ {cs : List CK} {n : Nat} {x : CTs cs} {vs : List Value}, noselfs cs = true → Shift w g g' off (flats cs) (ckPuts n cs x).2 → RVs w g (ckPuts n cs x).1 vs → RVs w g' (ckPuts (n + off) cs x).1 vs ∧ Moved B B' w g g' off (ckPuts n cs x).2 (ckPuts (n + off) cs x).2
  | [], _, _, [], _, _, _ => ⟨trivial, Moved.nil⟩
  | c :: cs, n, x, v :: vs, hns, r, h => by
    obtain ⟨n1, n2⟩ := noself_cons hns
    obtain ⟨h1, h2⟩ := ck_shift hB n1 (Shift.left (fl := c.flat) r) h.1
    obtain ⟨h3, h4⟩ := cks_shift hB n2 (Shift.right (fl := c.flat) r) h.2
    simp only [ckPuts]
    rw [show n + off + 1 = n + 1 + off by omega]
    exact ⟨⟨h1, h3⟩, h2.app h4⟩
  | [], _, _, _ :: _, _, _, h => h.elim
  | _ :: _, _, _, [], _, _, h => h.elim
theorem tys_shift (hk : ∀ k, g.ok k → g'.ok k) : ∀ {cs : List Ty} {x : TTs cs} {vs : List Value}, RVs w g (tyPuts cs x) vs → RVs w g' (tyPuts cs x) vs
  | [], _, [], _ => trivial
  | c :: cs, x, v :: vs, h => ⟨RV.pure (g := g) (w := w) (fun k h _ => ⟨rfl, hk k h⟩) av_pure h.1, tys_shift hk h.2⟩
  | [], _, _ :: _, h => h.elim
  | _ :: _, _, [], h => h.elim
theorem box_shift {B B' : Nat} (hB : B' ≤ B) {off : Nat} {n : Nat} {pin fl : Bool} {cs : List CK} {x : CTs cs} {cv : Value} (hns : noselfs cs = true) (hfl : fl = true → flats cs = true) (r : Shift w g g' off fl ((n, .box pin (ckPuts (n + 1) cs x).1) :: (ckPuts (n + 1) cs x).2)) (h : RV w g (.ptr n 0) cv) : RV w g' (.ptr (n + off) 0) cv ∧
    Moved B B' w g g' off ((n, .box pin (ckPuts (n + 1) cs x).1) :: (ckPuts (n + 1) cs x).2) ((n + off, .box pin (ckPuts (n + off + 1) cs x).1) :: (ckPuts (n + off + 1) cs x).2) := by
  have r1 : Shift w g g' off (flats cs) (ckPuts (n + 1) cs x).2 := ⟨r.ok.imp_left hfl, fun m y hm => r.name m y (List.mem_cons_of_mem _ hm)⟩
  obtain ⟨h1, h2, _⟩ := r.name n _ (List.mem_cons_self ..)
  obtain ⟨hl, k, hk1, hk2⟩ := h
  have hm2 := cks_moved (B := B) (B' := B') hB (cs := cs) (n := n + 1) (x := x) r1
  have e1 : n + off + 1 = n + 1 + off := by omega
  refine ⟨⟨h1, k, by rw [h2]; exact hk1, hk2⟩, ?_⟩
  rw [e1]
  refine Moved.app (h1 := [_]) (k1 := [_]) ⟨fun m y hm => ?_, fun m y hm => ?_⟩ hm2
  · simp only [List.mem_singleton, Prod.mk.injEq] at hm
    obtain ⟨rfl, rfl⟩ := hm
    refine ⟨n, _, rfl, List.mem_singleton.2 rfl, rfl, fun ⟨k', cells, e, q1, q2, q3, q4⟩ => ⟨k', cells, e, by rw [h2]; exact q1, ?_, q3, (cks_shift (B := B) hB hns r1 q4).1⟩⟩
    cases pin with
    | true => exact Nat.zero_le _
    | false => exact Nat.le_trans hB q2
  · simp only [List.mem_singleton, Prod.mk.injEq] at hm
    obtain ⟨rfl, rfl⟩ := hm
    exact ⟨_, List.mem_singleton.2 rfl⟩
theorem rbox_shift (hk : ∀ k, g.ok k → g'.ok k) {cs : List Ty} {x : TTs cs} {cv : Value} (h : RV w g (.rptr (tyPuts cs x) 0) cv) : RV w g' (.rptr (tyPuts cs x) 0) cv := by
  obtain ⟨k, cells, e, h1, h2, h3, h4⟩ := h
  exact ⟨k, cells, e, hk k h1, h2, tys_shift hk h3, h4⟩
theorem caps_shift {B B' : Nat} (hB : B' ≤ B) {off : Nat} (hk : ∀ k, g.ok k → g'.ok k) : ∀ {cs : List Cap} {n : Nat} {x : CapTs cs} {vs : List Value}, capsNoself cs = true → Shift w g g' off false (capPuts n cs x).2 → RVs w g (capPuts n cs x).1 vs → RVs w g' (capPuts (n + off) cs x).1 vs ∧ Moved B B' w g g' off (capPuts n cs x).2 (capPuts (n + off) cs x).2
  | [], _, _, [], _, _, _ => ⟨trivial, Moved.nil⟩
  | c :: cs, n, x, v :: vs, hns, r, h => by
    simp only [capsNoself, Bool.and_eq_true] at hns
    obtain ⟨h3, h4⟩ := caps_shift hB hk hns.2 (Shift.right (fl := false) (fr := false) r) h.2
    simp only [capPuts]
    rw [show n + off + 8 = n + 8 + off by omega]
    have r1 := Shift.left (fl := false) (fr := false) r
    cases c with
    | r ks => exact ⟨⟨rbox_shift hk h.1, h3⟩, Moved.app Moved.nil h4⟩
    | m pin ks =>
      obtain ⟨h1, h2⟩ := box_shift hB (cs := ks) hns.1 (fun e => by cases e) r1 h.1
      exact ⟨⟨h1, h3⟩, h2.app h4⟩
  | [], _, _, _ :: _, _, _, h => h.elim
  | _ :: _, _, _, [], _, _, h => h.elim
theorem DeepAt.base {B B' : Nat} (hB : B' ≤ B) {inn : List Nat → Option Value} : ∀ {t : Ty} {e : Nat} {l : List t.T} {p : List Nat} {v : Value}, DeepAt B w inn t e l p v → DeepAt B' w inn t e l p v := by
  have own : ∀ {e sz n : Nat} {v : Value} {inner : List Value}, w.ownsRow B e sz v n inner → w.ownsRow B' e sz v n inner := by
    intro e sz n v inner ⟨h1, h2⟩
    refine ⟨h1, ?_⟩
    rcases h2 with h2 | ⟨k, cap, cur, e1, e2, e3⟩
    · exact .inl h2
    · exact .inr ⟨k, cap, cur, e1, Nat.le_trans hB e2, e3⟩
  intro t
  induction t with
  | slc e' t' ih =>
    intro e l p v ⟨⟨inner, h1, h2⟩, h3⟩
    exact ⟨⟨inner, own h1, fun i x hx => by
      obtain ⟨u, q1, q2, q3⟩ := h2 i x hx
      exact ⟨u, q1, q2, ih q3⟩⟩, h3⟩
  | int k => intro e l p v ⟨h0, ⟨inner, h1, h2⟩, h3⟩; exact ⟨h0, ⟨inner, own h1, h2⟩, h3⟩
  | bool => intro e l p v ⟨h0, ⟨inner, h1, h2⟩, h3⟩; exact ⟨h0, ⟨inner, own h1, h2⟩, h3⟩
  | str => intro e l p v ⟨h0, ⟨inner, h1, h2⟩, h3⟩; exact ⟨h0, ⟨inner, own h1, h2⟩, h3⟩
  | pr a b => intro e l p v ⟨h0, ⟨inner, h1, h2⟩, h3⟩; exact ⟨h0, ⟨inner, own h1, h2⟩, h3⟩
theorem sh_shift {B B' : Nat} (hB : B' ≤ B) {off : Nat} {n : Nat} {c : Sh} {x : c.T} {cv : Value} (hns : c.noself = true) (r : Shift w g g' off c.flat (c.put n x).2) (h : RV w g (c.put n x).1 cv) : RV w g' (c.put (n + off) x).1 cv ∧ Moved B B' w g g' off (c.put n x).2 (c.put (n + off) x).2 := by
  cases c with
  | v t =>
    refine ⟨?_, Moved.nil⟩
    rcases r.ok with hf | hk
    · exact av_flat hf h
    · exact RV.pure (g := g) (w := w) (fun k h _ => ⟨rfl, hk k h⟩) av_pure h
  | own pin e t =>
    obtain ⟨h1, h2, _⟩ := r.name n _ (List.mem_singleton.2 rfl)
    refine ⟨⟨h1, by rw [h2]; exact h.2⟩, fun m y hm => ?_, fun m y hm => ?_⟩
    · simp only [Sh.put, List.mem_singleton, Prod.mk.injEq] at hm
      obtain ⟨rfl, rfl⟩ := hm
      exact ⟨n, _, rfl, List.mem_singleton.2 rfl, rfl, fun hb => row_shift hB h2 r.ok hb⟩
    · simp only [Sh.put, List.mem_singleton, Prod.mk.injEq] at hm
      obtain ⟨rfl, rfl⟩ := hm
      exact ⟨_, List.mem_singleton.2 rfl⟩
  | box pin cs => exact box_shift hB (cs := cs) hns id r h
  | agg cs =>
    obtain ⟨vs, e, h⟩ := h
    obtain ⟨h1, h2⟩ := cks_shift hB (cs := cs) (n := n) (x := x) (B := B) hns r h
    exact ⟨⟨vs, e, h1⟩, h2⟩
  | same => cases hns
  | nilI => exact ⟨h, Moved.nil⟩
  | rbox cs =>
    rcases r.ok with hf | hk
    · cases hf
    · exact ⟨rbox_shift hk h, Moved.nil⟩
  | fn f caps =>
    rcases r.ok with hf | hk
    · cases hf
    · obtain ⟨vs, e, h⟩ := h
      obtain ⟨h1, h2⟩ := caps_shift hB hk (cs := caps) (n := n) (x := x) (B := B) hns r h
      exact ⟨⟨vs, e, h1⟩, h2⟩
  | obj k =>
    obtain ⟨h1, h2, h2'⟩ := r.name n _ (List.mem_singleton.2 rfl)
    refine ⟨⟨h1, by rw [h2]; exact h.2⟩, fun m y hm => ?_, fun m y hm => ?_⟩
    · simp only [Sh.put, List.mem_singleton, Prod.mk.injEq] at hm
      obtain ⟨rfl, rfl⟩ := hm
      refine ⟨n, _, rfl, List.mem_singleton.2 rfl, rfl, fun hb => ?_⟩
      obtain ⟨r', o, e1, e2, e3, e4⟩ := (show ObjAt B w (g.val n) k x from hb)
      exact ⟨r', o, by rw [h2]; exact e1, Nat.le_trans hB e2, e3, e4⟩
    · simp only [Sh.put, List.mem_singleton, Prod.mk.injEq] at hm
      obtain ⟨rfl, rfl⟩ := hm
      exact ⟨_, List.mem_singleton.2 rfl⟩
  | deep e t =>
    obtain ⟨h1, h2, h2'⟩ := r.name n _ (List.mem_singleton.2 rfl)
    refine ⟨⟨h1, by rw [h2]; exact h.2⟩, fun m y hm => ?_, fun m y hm => ?_⟩
    · simp only [Sh.put, List.mem_singleton, Prod.mk.injEq] at hm
      obtain ⟨rfl, rfl⟩ := hm
      refine ⟨n, _, rfl, List.mem_singleton.2 rfl, rfl, fun hb => ?_⟩
      have hb : DeepAt B w (g.inn n) t e x [] (g.val n) ∧ DeepOk B (g.val n) (g.inn n) := hb
      show DeepAt B' w (g'.inn (n + off)) t e x [] (g'.val (n + off)) ∧ DeepOk B' (g'.val (n + off)) (g'.inn (n + off))
      rw [h2, h2']
      exact ⟨hb.1.base hB, hb.2.root, fun q u k h3 h4 => ⟨Nat.le_trans hB (hb.2.far q u k h3 h4).1, (hb.2.far q u k h3 h4).2⟩, hb.2.one⟩
    · simp only [Sh.put, List.mem_singleton, Prod.mk.injEq] at hm
      obtain ⟨rfl, rfl⟩ := hm
      exact ⟨_, List.mem_singleton.2 rfl⟩
theorem shs_shift {B B' : Nat} (hB : B' ≤ B) {off : Nat} : ∀ {cs : List Sh} {n : Nat} {x : STs cs} {vs : List Value}, allNoself cs = true → Shift w g g' off (allFlat cs) (shPuts n cs x).2 → RVs w g (shPuts n cs x).1 vs → RVs w g' (shPuts (n + off) cs x).1 vs ∧ Moved B B' w g g' off (shPuts n cs x).2 (shPuts (n + off) cs x).2
  | [], _, _, [], _, _, _ => ⟨trivial, Moved.nil⟩
  | c :: cs, n, x, v :: vs, hns, r, h => by
    simp only [allNoself, Bool.and_eq_true] at hns
    obtain ⟨h1, h2⟩ := sh_shift hB hns.1 (Shift.left (fl := c.flat) r) h.1
    obtain ⟨h3, h4⟩ := shs_shift hB hns.2 (Shift.right (fl := c.flat) r) h.2
    simp only [shPuts]
    rw [show n + off + 64 = n + 64 + off by omega]
    exact ⟨⟨h1, h3⟩, h2.app h4⟩
  | [], _, _, _ :: _, _, _, h => h.elim
  | _ :: _, _, _, [], _, _, h => h.elim
end
/-- No name twice. -/
def uniq0 : List (Nat × Nat) → Bool
  | [] => true
  | q :: r => !anyOf q.1 q.2 r && uniq0 r
theorem uniq0_ok : ∀ {p : List (Nat × Nat)}, uniq0 p = true → ∀ n b m c, (n, b) ∈ p → (m, c) ∈ p → (n = m ↔ b = c)
  | [], _, _, _, _, _, h, _ => by simp at h
  | q :: r, h, n, b, m, c, h1, h2 => by
    simp only [uniq0, Bool.and_eq_true, Bool.not_eq_true'] at h
    rcases List.mem_cons.1 h1 with e1 | q1
    · subst e1
      rcases List.mem_cons.1 h2 with e2 | q2
      · cases e2; simp
      · have := anyOf_not h.1 m c q2
        exact ⟨fun e => absurd e.symm this.1, fun e => absurd e.symm this.2⟩
    · rcases List.mem_cons.1 h2 with e2 | q2
      · subst e2
        have := anyOf_not h.1 n b q1
        exact ⟨fun e => absurd e this.1, fun e => absurd e this.2⟩
      · exact uniq0_ok h.2 n b m c q1 q2
/-! ### What the callee left in rows and boxes of the caller -/
def repin (old new : Blk) : Option Blk := match old, new with
  | .row pin _ _ _, .row _ e t l => some (.row pin e t l)
  | .box pin _, .box _ cs => some (.box pin cs)
  | _, _ => none
def mutSet : List (Nat × Nat) → List (Nat × Blk) → List (Nat × Blk) → Option (List (Nat × Blk))
  | [], _, heap => some heap
  | q :: p, mu, heap => match hget mu q.1, hget heap q.2 with
    | some y, some y0 => match repin y0 y with
      | some z => mutSet p mu ((q.2, z) :: hdel heap q.2)
      | none => none
    | _, _ => none
theorem mutSet_ok : ∀ {p : List (Nat × Nat)} {mu heap heap' : List (Nat × Blk)}, uniq0 p = true → mutSet p mu heap = some heap' →
    (∀ nm b, (nm, b) ∈ p → ∃ y y0 z, hget mu nm = some y ∧ hget heap b = some y0 ∧ repin y0 y = some z ∧ hget heap' b = some z) ∧ ∀ n, (∀ nm, (nm, n) ∉ p) → hget heap' n = hget heap n
  | [], mu, heap, heap', hu, he => by cases he; exact ⟨fun _ _ h => by simp at h, fun _ _ => rfl⟩
  | q :: p, mu, heap, heap', hu, he => by
    have hu' : uniq0 p = true := by simp only [uniq0, Bool.and_eq_true] at hu; exact hu.2
    have hq : ∀ nm b, (nm, b) ∈ p → b ≠ q.2 := fun nm b hm => by
      simp only [uniq0, Bool.and_eq_true, Bool.not_eq_true'] at hu
      exact (anyOf_not hu.1 nm b hm).2
    simp only [mutSet] at he
    split at he
    · rename_i y y0 e1 e2
      split at he
      · rename_i z e3
        obtain ⟨h1, h2⟩ := mutSet_ok hu' he
        refine ⟨fun nm b hm => ?_, fun n hn => ?_⟩
        · rcases List.mem_cons.1 hm with e | hm
          · subst e
            refine ⟨y, y0, z, e1, e2, e3, ?_⟩
            rw [h2 b (fun nm' hm' => hq nm' b hm' rfl), hget_set, if_pos rfl]
          · obtain ⟨y', y0', z', q1, q2, q3, q4⟩ := h1 nm b hm
            rw [hget_set, if_neg (hq nm b hm)] at q2
            exact ⟨y', y0', z', q1, q2, q3, q4⟩
        · rw [h2 n (fun nm hm => hn nm (List.mem_cons_of_mem _ hm)), hget_set, if_neg]
          intro e
          exact hn q.1 (by rw [e]; exact List.mem_cons_self ..)
      · cases he
    · cases he
/-! ### The step -/
def allFresh (heap : List (Nat × Blk)) : List (Nat × Blk) → Bool
  | [] => true
  | q :: r => (match hget heap q.1 with | none => Nat.ble RB q.1 | some _ => false) && allFresh heap r
def lendCells (s : St) : List AV → List AV
  | [] => []
  | a :: r => (match a with | .own b => pure1 s (.own b) | a => a) :: lendCells s r
def lendDp (s : St) (b : Nat) (p : List Int) : AV := match hget s.heap b with
  | some (.deep _ t l) => innD t l p
  | _ => .bad
def lend1 (s : St) : AV → AV
  | .own b => pure1 s (.own b)
  | .dp b p => lendDp s b p
  | .agg vs => .agg (lendCells s vs)
  | a => a
def lendAV (s : St) : List Sh → List AV → List AV
  | .v _ :: cs, a :: as => lend1 s a :: lendAV s cs as
  | _ :: cs, a :: as => a :: lendAV s cs as
  | _, as => as
def notIn (p : List (Nat × Nat)) (b : Nat) : Bool := match p with
  | [] => true
  | q :: r => !Nat.beq q.2 b && notIn r b
def disjN (p : List (Nat × Nat)) : List Nat → Bool
  | [] => true
  | b :: r => notIn p b && disjN p r
def resOf : List AV → AV
  | [v] => v
  | vs => .tup vs
section
variable {P : Program} {X : Cx} {C : Caller} {s : St} {a : Act} {w w' : World} {g g0 g' : Gh}
theorem notIn_ok : ∀ {p : List (Nat × Nat)} {b : Nat}, notIn p b = true → ∀ n, (n, b) ∉ p
  | [], _, _, _ => by simp
  | q :: r, b, h, n => by
    simp only [notIn, Bool.and_eq_true, Bool.not_eq_true'] at h
    intro hm
    rcases List.mem_cons.1 hm with e | hm
    · have := h.1; rw [← e, Nat.beq_refl] at this; cases this
    · exact notIn_ok h.2 n hm
theorem disjN_ok : ∀ {p : List (Nat × Nat)} {l : List Nat}, disjN p l = true → ∀ b ∈ l, ∀ n, (n, b) ∉ p
  | _, [], _, _, hb => by simp at hb
  | p, c :: r, h, b, hb => by
    simp only [disjN, Bool.and_eq_true] at h
    rcases List.mem_cons.1 hb with e | hb
    · subst e; exact notIn_ok h.1
    · exact disjN_ok h.2 b hb
theorem allFresh_ok : ∀ {heap l : List (Nat × Blk)}, allFresh heap l = true → ∀ n y, (n, y) ∈ l → hget heap n = none ∧ RB ≤ n
  | _, [], _, _, _, hm => by simp at hm
  | heap, q :: r, h, n, y, hm => by
    simp only [allFresh, Bool.and_eq_true] at h
    rcases List.mem_cons.1 hm with e | hm
    · subst e
      have h1 := h.1
      cases hq : hget heap n with
      | none => rw [hq] at h1; exact ⟨rfl, Nat.le_of_ble_eq_true h1⟩
      | some z => rw [hq] at h1; cases h1
    · exact allFresh_ok h.2 n y hm
/-- What the callee knows at its start. -/
noncomputable def Gh.give (g : Gh) (ok : Nat → Prop) (p : List (Nat × Nat)) : Gh := ⟨ok, fun n => ∃ b, (n, b) ∈ p, fun n => open Classical in if h : ∃ b, (n, b) ∈ p then g.val h.choose else g.val n, fun n => open Classical in if h : ∃ b, (n, b) ∈ p then g.inn h.choose else g.inn n⟩
theorem give_name {p : List (Nat × Nat)} {ok : Nat → Prop} (hu : uniq0 p = true) : ∀ n b, (n, b) ∈ p → (g.give ok p).live n ∧ (g.give ok p).val n = g.val b ∧ (g.give ok p).inn n = g.inn b := fun n b hm => ⟨⟨b, hm⟩, by
  have h : ∃ b, (n, b) ∈ p := ⟨b, hm⟩
  simp only [Gh.give, dif_pos h]
  rw [(uniq0_ok hu n _ n b h.choose_spec hm).1 rfl]
  exact ⟨rfl, rfl⟩⟩
def lentOk (g : Gh) (l : List Nat) (k : Nat) : Prop := g.ok k ∨ ∃ b ∈ l, g.live b ∧ g.has b k
def mutOk (g : Gh) (p : List (Nat × Nat)) (k : Nat) : Prop := ∃ n b, (n, b) ∈ p ∧ g.has b k
theorem Sim.give (h : Sim X s a w g) {p : List (Nat × Nat)} {l : List Nat} (hu : uniq0 p = true) (hd : ∀ b ∈ l, ∀ n, (n, b) ∉ p) {env : List (Nat × AV)} {heap : List (Nat × Blk)} {vs : List Value}
    (hg : Given w.heap.size w g (g.give (lentOk g l) p) p heap) (hcov : ∀ n b, (n, b) ∈ p → (hget heap n).isSome = true) (henv : ∀ t, RV w (g.give (lentOk g l) p) (get env t) (vs.toArray.getD t undef)) :
    Sim ⟨w.heap.size, lentOk g l, mutOk g p, w, vs.length, X.G⟩ ⟨env, heap⟩ ⟨vs.toArray, []⟩ w (g.give (lentOk g l) p) := by
  have nm := give_name (g := g) (ok := lentOk g l) hu
  refine ⟨henv, fun n => ⟨fun ⟨b, hb⟩ => ?_, fun hn => ?_⟩, fun n y hy => (hg.1 n y (hget_mem hy)).1, fun n n' k ⟨b, hb⟩ ⟨b', hb'⟩ hk hk' => ?_, fun n k ⟨b, hb⟩ hk => ?_, fun n y hy hf q => ?_, fun k hk => ?_, by simp, rfl, ⟨rfl, rfl, rfl, Nat.le_refl _, fun _ _ _ => rfl⟩, Nat.le_refl _, h.glob.move fun k hk _ => ⟨rfl, .inl hk⟩⟩
  · exact hcov n b hb
  · obtain ⟨y, hy⟩ := Option.isSome_iff_exists.1 hn
    obtain ⟨_, b, hb, _⟩ := hg.1 n y (hget_mem hy)
    exact ⟨b, hb⟩
  · have hk := (has_same (nm n b hb).2.1 (nm n b hb).2.2 (k := k)).1 hk
    have hk' := (has_same (nm n' b' hb').2.1 (nm n' b' hb').2.2 (k := k)).1 hk'
    exact (uniq0_ok hu n b n' b' hb hb').2 (h.disj b b' k (hg.2 n b hb) (hg.2 n' b' hb') hk hk')
  · have hk := (has_same (nm n b hb).2.1 (nm n b hb).2.2 (k := k)).1 hk
    obtain ⟨h1, h2, h3⟩ := h.own b k (hg.2 n b hb) hk
    refine ⟨h1, fun _ => ⟨n, b, hb, hk⟩, fun ho => ?_⟩
    rcases ho with ho | ⟨c, hc, hl, hk'⟩
    · exact h3 ho
    · have := h.disj b c k (hg.2 n b hb) hl hk hk'
      subst this
      exact hd b hc n hb
  · obtain ⟨_, b, hb, hfl⟩ := hg.1 n y (hget_mem hy)
    rw [(nm n b hb).2.2]
    exact hfl hf q
  · rcases hk with hk | ⟨b, hb, hl, hk⟩
    · exact ⟨(h.ok k hk).1, fun _ => .inl hk⟩
    · exact ⟨(h.own b k hl hk).1, fun _ => .inr ⟨b, hb, hl, hk⟩⟩
theorem envOf_rv {as : List AV} {vs : List Value} (h : RVs w g as vs) (t : Nat) : RV w g (get (envOf 0 as) t) (vs.toArray.getD t undef) := by
  rw [envOf_get, if_pos (Nat.zero_le t), Nat.sub_zero]
  have key : ∀ {as : List AV} {vs : List Value} (t : Nat), RVs w g as vs → RV w g (match as[t]? with | some v => v | none => .bad) (vs.getD t undef) := by
    intro as
    induction as with
    | nil => intro vs t _; simp; trivial
    | cons a as ih =>
      intro vs t h
      cases vs with
      | nil => exact h.elim
      | cons v vs =>
        cases t with
        | zero => exact h.1
        | succ t => simpa using ih t h.2
  have := key t h
  rw [Array.getD_eq_getD_getElem?]
  rw [List.getD_eq_getElem?_getD] at this
  rw [List.getElem?_toArray]
  exact this
theorem own_lent (h : Sim X s a w g) {l : List Nat} {p : List (Nat × Nat)} {b : Nat} {u : Value} (hbl : b ∈ l) (hr : RV w g (.own b) u) : RV w (g.lend (g.give (lentOk g l) p)) (pure1 s (.own b)) u := by
  simp only [pure1]
  have hu : u = g.val b := hr.2
  cases hb : hget s.heap b with
  | none => trivial
  | some y =>
    cases y with
    | box pin cs => trivial
    | obj k y => trivial
    | row pin e t l' =>
      rw [hu]
      rcases own_row h hb with ⟨h1, h2⟩ | ⟨k, c, h1, h2, h3⟩
      · have : l' = [] := List.eq_nil_of_length_eq_zero h1
        subst this
        exact ⟨none, 0, h2, Nat.le_refl _, fun _ => rfl, .inl rfl⟩
      · refine ⟨some ⟨k, 0, none⟩, c, h1, h2, (fun e => by cases e), .inr ⟨_, rfl, .inr ⟨b, hbl, hr.1, .inl (by rw [h1]; rfl)⟩, fun j y hj => ?_⟩⟩
        obtain ⟨cc, q1, q2, q3⟩ := h3 j y hj
        exact ⟨cc, q1, q2.move (fun k hk _ => ⟨rfl, .inl hk⟩), q3⟩
    | deep e t l' =>
      rw [hu]
      refine deep_rowAt (h.blk b _ hb).1 fun k hk => .inr ⟨b, hbl, hr.1, ?_⟩
      rcases hk with hk | ⟨q, u', e1, e2⟩
      · exact .inl hk
      · exact .inr ⟨q, u', e1, e2⟩
theorem lend_mv {l : List Nat} {p : List (Nat × Nat)} : Mv w g (fun _ => False) w (g.lend (g.give (lentOk g l) p)) := ⟨fun k hk _ => ⟨rfl, .inl hk⟩, fun n _ hl => ⟨hl, rfl, rfl⟩⟩
theorem lendCells_ok (h : Sim X s a w g) {l : List Nat} {p : List (Nat × Nat)} : ∀ {as : List AV} {vs : List Value}, (∀ b ∈ ownsOf as, b ∈ l) → RVs w g as vs → RVs w (g.lend (g.give (lentOk g l) p)) (lendCells s as) vs
  | [], [], _, _ => trivial
  | v :: as, u :: vs, hl, hr => by
    have tl : ∀ b ∈ ownsOf as, b ∈ l := fun b hb => hl b (by cases v <;> simp [ownsOf, hb])
    refine ⟨?_, lendCells_ok h tl hr.2⟩
    cases v <;> first | exact own_lent h (hl _ (by simp [ownsOf])) hr.1 | exact hr.1.move lend_mv
  | [], _ :: _, _, hr => hr.elim
  | _ :: _, [], _, hr => hr.elim
theorem lend1_ok (h : Sim X s a w g) {l : List Nat} {p : List (Nat × Nat)} {v : AV} {u : Value} (hl : ∀ b ∈ ownsOf v.cells, b ∈ l) (hr : RV w g v u) : RV w (g.lend (g.give (lentOk g l) p)) (lend1 s v) u := by
  cases v with
  | own b => exact own_lent h (hl b (by simp [AV.cells, ownsOf])) hr
  | dp b q =>
    have hbl := hl b (by simp [AV.cells, ownsOf])
    show RV w _ (lendDp s b q) u
    unfold lendDp
    split
    · rename_i e t l' hb
      exact innD_ok (h.blk b _ hb) (fun k hk => Or.inr ⟨b, hbl, hr.1, hk⟩) hr.2
    · trivial
  | agg vs =>
    obtain ⟨cs, e, hr⟩ := hr
    exact ⟨cs, e, lendCells_ok h hl hr⟩
  | _ => exact hr.move lend_mv
theorem lendAV_ok (h : Sim X s a w g) {l : List Nat} {p : List (Nat × Nat)} : ∀ {cs : List Sh} {as : List AV} {vs : List Value}, (∀ b ∈ wants cs as, b ∈ l) → RVs w g as vs → RVs w (g.lend (g.give (lentOk g l) p)) (lendAV s cs as) vs := by
  intro cs
  induction cs with
  | nil => intro as vs _ hr; simpa [lendAV] using hr.move lend_mv
  | cons c cs ih =>
    intro as vs hl hr
    cases as with
    | nil => cases vs with
      | nil => cases c <;> trivial
      | cons _ _ => exact hr.elim
    | cons v as =>
      cases vs with
      | nil => exact hr.elim
      | cons u vs =>
        have rest : (∀ b ∈ wants cs as, b ∈ l) → RVs w (g.lend (g.give (lentOk g l) p)) (v :: lendAV s cs as) (u :: vs) := fun hl' => ⟨hr.1.move lend_mv, ih hl' hr.2⟩
        cases c with
        | v t =>
          simp only [wants] at hl
          exact ⟨lend1_ok h (fun b hb => hl b (List.mem_append_left _ hb)) hr.1, ih (fun b hb => hl b (List.mem_append_right _ hb)) hr.2⟩
        | _ => exact rest hl
theorem hget_app (n : Nat) : ∀ (l heap : List (Nat × Blk)), hget (l ++ heap) n = match hget l n with | some y => some y | none => hget heap n
  | [], heap => rfl
  | (k, v) :: r, heap => by
    simp only [List.cons_append, hget]
    cases Nat.beq k n with
    | true => rfl
    | false => exact hget_app n r heap
theorem hget_none {l : List (Nat × Blk)} {n : Nat} (h : hget l n = none) : ∀ y, (n, y) ∉ l := fun y hm => by
  have := hget_some hm
  rw [h] at this; cases this
/-- What the caller knows behind a call. -/
noncomputable def Gh.back (g g' : Gh) (B off : Nat) (out heap : List (Nat × Blk)) : Gh := ⟨fun k => g.ok k ∨ (B ≤ k ∧ g'.ok k), fun n => (hget (out ++ heap) n).isSome = true, fun n => open Classical in if (hget out n).isSome = true then g'.val (n - off) else g.val n, fun n => open Classical in if (hget out n).isSome = true then g'.inn (n - off) else g.inn n⟩
theorem repin_flat {y0 y z : Blk} (h : repin y0 y = some z) : y0.flat = true ∧ y.flat = true := by
  cases y0 <;> cases y <;> first | (cases h; done) | exact ⟨rfl, rfl⟩
/-- Names that are no more. -/
def Gh.less (g : Gh) (l : List Nat) : Gh := ⟨g.ok, fun n => g.live n ∧ n ∉ l, g.val, g.inn⟩
def killAll (s : St) : List Nat → St
  | [] => s
  | b :: r => killAll (s.kill b .bad) r
theorem Sim.killAll : ∀ {l : List Nat} {s : St} {g : Gh}, Sim X s a w g → Sim X (YthgmnlfbgajchaaV.killAll s l) a w (g.less l)
  | [], s, g, h => by
    have e : g.less [] = g := by simp [Gh.less]
    rw [e]; exact h
  | b :: r, s, g, h => by
    have h1 := h.kill b g.ok (fun _ h => h) .bad (fun _ hk => .inl hk) (fun _ => trivial)
    have h2 := Sim.killAll (l := r) h1
    have e : (g.kill b g.ok).less r = g.less (b :: r) := by
      simp only [Gh.less, Gh.kill, Gh.mk.injEq, true_and, and_true]
      funext n
      simp only [List.mem_cons, not_or, and_assoc]
    rw [e] at h2; exact h2
/-- The blocks of new names: new ones, or those of names that were given away. -/
theorem new_blk (h : Sim X s a w g) {p pk : List (Nat × Nat)} {l : List Nat} (hpl : ∀ n b, (n, b) ∈ p → g.live b ∧ PB ≤ n ∧ n < RB) {heap : List (Nat × Blk)}
    (hs : Sim ⟨w.heap.size, lentOk g l, mutOk g p, w, 0, X.G⟩ ⟨[], heap⟩ ⟨#[], []⟩ w' g') (plive : ∀ n b, (n, b) ∈ pk → g'.live n ∧ g'.val n = g.val b) (pinn : ∀ n b, (n, b) ∈ pk → g'.inn n = g.inn b) :
    ∀ m k, RB ≤ m → g'.live m → g'.has m k → w.heap.size ≤ k ∨ ∃ n b, (n, b) ∈ p ∧ (n, b) ∉ pk ∧ g.has b k := fun m k hm hl hk => by
  rcases Nat.lt_or_ge k w.heap.size with hlt | hge
  · obtain ⟨n, b, hb, e⟩ := (hs.own m k hl hk).2.1 hlt
    by_cases hpk : (n, b) ∈ pk
    · obtain ⟨q1, q2⟩ := plive n b hpk
      have := hs.disj m n k hl q1 hk ((has_same q2 (pinn n b hpk)).2 e)
      have h3 := (hpl n b hb).2.2
      omega
    · exact .inr ⟨n, b, hb, hpk, e⟩
  · exact .inl hge
/-- Behind a call. -/
theorem Sim.after (h : Sim X s a w g) {p pk : List (Nat × Nat)} {l : List Nat} (hupk : uniq0 pk = true) (hpl : ∀ n b, (n, b) ∈ p → g.live b ∧ PB ≤ n ∧ n < RB)
    {sk : St} {gk : Gh} (hk : Sim X sk a w gk) (kl : ∀ n, gk.live n ↔ g.live n ∧ ∀ m, (m, n) ∈ p → (m, n) ∈ pk) (kv : gk.val = g.val) (ki : gk.inn = g.inn) (ko : gk.ok = g.ok) (hpk : ∀ q, q ∈ pk → q ∈ p) (hpk2 : ∀ n b, (n, b) ∈ pk → gk.live b)
    {R R' mu mu' heap : List (Nat × Blk)} {off : Nat} (hs : Sim ⟨w.heap.size, lentOk g l, mutOk g p, w, 0, X.G⟩ ⟨[], R ++ mu⟩ ⟨#[], []⟩ w' g') (hnm : ∀ n b, (n, b) ∈ pk → g'.live n → g'.val n = g.val b)
    (hblk : ∀ n y, (n, y) ∈ R ++ mu → BlkRel w.heap.size w' g' n y ∧ g'.live n) (hm : mutSet pk mu' sk.heap = some heap) (hmm : ∀ n y', hget mu' n = some y' → ∃ y, hget mu n = some y ∧ y.flat = y'.flat) (hf : allFresh s.heap R' = true)
    (hR : ∀ m y, (m, y) ∈ R → RB ≤ m) (hflat : ∀ m y y2, (m, y) ∈ R → hget (R ++ mu) m = some y2 → y2.flat = y.flat) (hmut : ∀ n b y y0 z, (n, b) ∈ pk → hget mu' n = some y → hget sk.heap b = some y0 → repin y0 y = some z → (gk.back g' w.heap.size off R' heap).live b → (gk.back g' w.heap.size off R' heap).val b = g'.val n → g'.val n = g.val b → BlkRel X.B w' (gk.back g' w.heap.size off R' heap) b z)
    (hmv : Moved w.heap.size X.B w' g' (gk.back g' w.heap.size off R' heap) off R R') : Sim X ⟨sk.env, R' ++ heap⟩ a w' (gk.back g' w.heap.size off R' heap) ∧ OkMv w g w' (gk.back g' w.heap.size off R' heap) ∧ (∀ n, n < RB → (gk.back g' w.heap.size off R' heap).live n → g.live n ∧ (gk.back g' w.heap.size off R' heap).val n = g.val n ∧ (gk.back g' w.heap.size off R' heap).inn n = g.inn n) ∧ (∀ n, gk.live n → (gk.back g' w.heap.size off R' heap).live n) ∧
      ∀ m k, RB ≤ m → g'.live m → g'.has m k → w.heap.size ≤ k ∨ ∃ n b, (n, b) ∈ p ∧ (n, b) ∉ pk ∧ g.has b k := by
  obtain ⟨mo1, mo2⟩ := mutSet_ok hupk hm
  have fr := allFresh_ok hf
  generalize hG : gk.back g' w.heap.size off R' heap = G at *
  have kg : ∀ n, gk.live n → g.live n := fun n hl => ((kl n).1 hl).1
  have khas : ∀ n k, gk.has n k ↔ g.has n k := fun n k => by simp only [Gh.has, kv, ki]
  have Glive : ∀ n, G.live n ↔ (hget (R' ++ heap) n).isSome = true := fun n => by rw [← hG]; exact Iff.rfl
  have Gok : ∀ k, G.ok k ↔ (g.ok k ∨ (w.heap.size ≤ k ∧ g'.ok k)) := fun k => by rw [← hG, ← ko]; exact Iff.rfl
  have Gnew : ∀ n, (hget R' n).isSome = true → G.val n = g'.val (n - off) := fun n hn => by rw [← hG]; exact if_pos hn
  have Gold : ∀ n, ¬ (hget R' n).isSome = true → G.val n = g.val n := fun n hn => by rw [← hG, ← kv]; exact if_neg hn
  have Inew : ∀ n, (hget R' n).isSome = true → G.inn n = g'.inn (n - off) := fun n hn => by rw [← hG]; exact if_pos hn
  have Iold : ∀ n, ¬ (hget R' n).isSome = true → G.inn n = g.inn n := fun n hn => by rw [← hG, ← ki]; exact if_neg hn
  have nofresh : ∀ n, gk.live n → hget R' n = none := fun n hl => by
    cases hq : hget R' n with
    | none => rfl
    | some y =>
      have := (fr n y (hget_mem hq)).1
      have h2 := (h.live n).1 (kg n hl)
      rw [this] at h2; cases h2
  have vold : ∀ n, gk.live n → G.val n = g.val n := fun n hl => Gold n (by rw [nofresh n hl]; simp)
  have iold : ∀ n, gk.live n → G.inn n = g.inn n := fun n hl => Iold n (by rw [nofresh n hl]; simp)
  have lold : ∀ n, gk.live n → G.live n := fun n hl => by
    rw [Glive, hget_app, nofresh n hl]
    by_cases hp : ∃ nm, (nm, n) ∈ pk
    · obtain ⟨nm, hp⟩ := hp
      obtain ⟨y, y0, z, _, _, _, e⟩ := mo1 nm n hp
      simp only [e]; rfl
    · simp only [mo2 n (fun nm hm => hp ⟨nm, hm⟩)]
      exact (hk.live n).1 hl
  have stay : ∀ k, k < w.heap.size → ¬ mutOk g p k → w'.heap[k]? = w.heap[k]? := fun k hk hn => hs.kept.block k hk hn
  have okstay : ∀ k, g.ok k → ¬ mutOk g p k := fun k hk ⟨n, b, hb, e⟩ => (h.own b k (hpl n b hb).1 e).2.2 hk
  have mv : Mv w gk (fun _ => False) w' G := ⟨fun k hk hlt => by
    rw [ko] at hk
    exact ⟨stay k hlt (okstay k hk), (Gok k).2 (.inl hk)⟩, fun n _ hl => ⟨lold n hl, by rw [kv]; exact vold n hl, by rw [ki]; exact iold n hl⟩⟩
  have plive : ∀ n b, (n, b) ∈ pk → g'.live n ∧ g'.val n = g.val b := fun n b hb => by
    obtain ⟨y', y0, z, e, _⟩ := mo1 n b hb
    obtain ⟨y, e, _⟩ := hmm n y' e
    have hl := (hblk n y (List.mem_append_right _ (hget_mem e))).2
    exact ⟨hl, hnm n b hb hl⟩
  -- a name is new, or the caller's own
  have kinds : ∀ n, G.live n → (∃ m, n = m + off ∧ RB ≤ m ∧ RB ≤ n ∧ g'.live m ∧ (G.val n = g'.val m ∧ G.inn n = g'.inn m)) ∨ gk.live n := fun n hl => by
    rw [Glive, hget_app] at hl
    cases hq : hget R' n with
    | some y =>
      obtain ⟨m, y', e1, e2, _⟩ := hmv.1 n y (hget_mem hq)
      refine .inl ⟨m, e1, hR m y' e2, (fr n y (hget_mem hq)).2, (hblk m y' (List.mem_append_left _ e2)).2, ?_⟩
      rw [Gnew n (by rw [hq]; rfl), Inew n (by rw [hq]; rfl), e1, Nat.add_sub_cancel]
      exact ⟨rfl, rfl⟩
    | none =>
      rw [hq] at hl
      right
      by_cases hp : ∃ nm, (nm, n) ∈ pk
      · obtain ⟨nm, hp⟩ := hp; exact hpk2 nm n hp
      · simp only [mo2 n (fun nm hm => hp ⟨nm, hm⟩)] at hl
        exact (hk.live n).2 hl
  have pinn : ∀ n b, (n, b) ∈ pk → g'.inn n = g.inn b := fun n b hb => by
    obtain ⟨y', y0, z, e, e2, e3, _⟩ := mo1 n b hb
    obtain ⟨hf1, hf2⟩ := repin_flat e3
    obtain ⟨y, e, hff⟩ := hmm n y' e
    have hq : ∃ y', hget (R ++ mu) n = some y' ∧ y'.flat = true := by
      rw [hget_app]
      cases hq : hget R n with
      | some y' =>
        have := hR n y' (hget_mem hq)
        have := (hpl n b (hpk _ hb)).2.2
        omega
      | none => exact ⟨y, e, hff.trans hf2⟩
    obtain ⟨y', hq, hf⟩ := hq
    funext q
    rw [hs.flat n y' hq hf q, ← ki, hk.flat b y0 e2 hf1 q]
  have newblk := new_blk h hpl hs plive pinn
  have apart : ∀ n k n1 b1, gk.live n → g.has n k → (n1, b1) ∈ p → (n1, b1) ∉ pk → g.has b1 k → False := fun n k n1 b1 hl hn hp hnp hb => by
    have e := h.disj n b1 k (kg n hl) (hpl n1 b1 hp).1 hn hb
    subst e
    exact hnp (((kl n).1 hl).2 n1 hp)
  refine ⟨⟨fun t => (hk.env t).move mv, Glive, fun n y hy => ?_, fun n n' k hn hn' hk' hk'' => ?_, fun n k hn hk' => ?_, fun n y hy hf q => ?_, fun k hk' => ?_, h.size, h.defers, ?_, ?_, h.glob.move fun k hk' hlt => ⟨stay k hlt (okstay k hk'), (Gok k).2 (.inl hk')⟩⟩, fun k hk' hlt => ⟨stay k hlt (okstay k hk'), (Gok k).2 (.inl hk')⟩, fun n h2 hl => ?_, lold, newblk⟩
  · change hget (R' ++ heap) n = some y at hy
    rw [hget_app] at hy
    cases hq : hget R' n with
    | some y' =>
      rw [hq] at hy; cases hy
      obtain ⟨m, y', e1, e2, _, e3⟩ := hmv.1 n y (hget_mem hq)
      exact e3 (hblk m y' (List.mem_append_left _ e2)).1
    | none =>
      rw [hq] at hy
      by_cases hp : ∃ nm, (nm, n) ∈ pk
      · obtain ⟨nm, hp⟩ := hp
        obtain ⟨y1, y0, z, q1, q2, q3, q4⟩ := mo1 nm n hp
        simp only [q4, Option.some.injEq] at hy
        subst hy
        have hgl := hpk2 nm n hp
        exact hmut nm n y1 y0 z hp q1 q2 q3 (lold n hgl) (by rw [vold n hgl, (plive nm n hp).2]) (plive nm n hp).2
      · simp only [mo2 n (fun nm hm => hp ⟨nm, hm⟩)] at hy
        have hl : gk.live n := (hk.live n).2 (by rw [hy]; rfl)
        refine (hk.blk n y hy).move mv (by rw [kv]; exact vold n hl) (by rw [ki]; exact iold n hl) fun k hk' => stay k (hk.own n k hl hk').1 fun ⟨nm, b, hb, e⟩ => hp ⟨nm, ?_⟩
        have e' := h.disj n b k (kg n hl) (hpl nm b hb).1 ((khas n k).1 hk') e
        subst e'
        exact ((kl n).1 hl).2 nm hb
  · rcases kinds n hn with ⟨m, e1, e2, _, e3, e4⟩ | hl
    · have hk1 := (has_same e4.1 e4.2 (k := k)).1 hk'
      rcases kinds n' hn' with ⟨m', q1, q2, _, q3, q4⟩ | hl'
      · have hk2 := (has_same q4.1 q4.2 (k := k)).1 hk''
        rw [e1, q1, hs.disj m m' k e3 q3 hk1 hk2]
      · have hk2 := (has_same (vold n' hl') (iold n' hl') (k := k)).1 hk''
        rcases newblk m k e2 e3 hk1 with hb | ⟨n1, b1, hp, hnp, hb⟩
        · have := (h.own n' k (kg n' hl') hk2).1
          omega
        · exact (apart n' k n1 b1 hl' hk2 hp hnp hb).elim
    · have hk1 := (has_same (vold n hl) (iold n hl) (k := k)).1 hk'
      rcases kinds n' hn' with ⟨m', q1, q2, _, q3, q4⟩ | hl'
      · have hk2 := (has_same q4.1 q4.2 (k := k)).1 hk''
        rcases newblk m' k q2 q3 hk2 with hb | ⟨n1, b1, hp, hnp, hb⟩
        · have := (h.own n k (kg n hl) hk1).1
          omega
        · exact (apart n k n1 b1 hl hk1 hp hnp hb).elim
      · have hk2 := (has_same (vold n' hl') (iold n' hl') (k := k)).1 hk''
        exact h.disj n n' k (kg n hl) (kg n' hl') hk1 hk2
  · rcases kinds n hn with ⟨m, e1, e2, _, e3, e4⟩ | hl
    · have hk1 := (has_same e4.1 e4.2 (k := k)).1 hk'
      have h2 := hs.own m k e3 hk1
      have h3 := h.base
      rcases newblk m k e2 e3 hk1 with h1 | ⟨n1, b1, hp, hnp, hb⟩
      · refine ⟨h2.1, fun hlt => by omega, fun ho => ?_⟩
        rcases (Gok k).1 ho with ho | ho
        · have := (h.ok k ho).1; omega
        · exact h2.2.2 ho.2
      · have h4 := h.own b1 k (hpl n1 b1 hp).1 hb
        refine ⟨h2.1, h4.2.1, fun ho => ?_⟩
        rcases (Gok k).1 ho with ho | ho
        · exact h4.2.2 ho
        · exact h2.2.2 ho.2
    · have hk1 := (has_same (vold n hl) (iold n hl) (k := k)).1 hk'
      have h2 := h.own n k (kg n hl) hk1
      refine ⟨Nat.lt_of_lt_of_le h2.1 hs.kept.size, h2.2.1, fun ho => ?_⟩
      rcases (Gok k).1 ho with ho | ho
      · exact h2.2.2 ho
      · omega
  · change hget (R' ++ heap) n = some y at hy
    rw [hget_app] at hy
    cases hq : hget R' n with
    | some y' =>
      rw [hq] at hy; cases hy
      obtain ⟨m, y', e1, e2, e5, _⟩ := hmv.1 n y (hget_mem hq)
      rw [Inew n (by rw [hq]; rfl), e1, Nat.add_sub_cancel]
      obtain ⟨y2, hy2⟩ := Option.isSome_iff_exists.1 (hget_some (List.mem_append_left mu e2))
      by_cases hfl : y2.flat = true
      · exact hs.flat m y2 hy2 hfl q
      · exact absurd ((hflat m y' y2 e2 hy2).trans (e5.symm.trans hf)) hfl
    | none =>
      rw [hq] at hy
      rw [Iold n (by rw [hq]; simp)]
      by_cases hp : ∃ nm, (nm, n) ∈ pk
      · obtain ⟨nm, hp⟩ := hp
        obtain ⟨y1, y0, z, q1, q2, q3, q4⟩ := mo1 nm n hp
        rw [← ki]
        exact hk.flat n y0 q2 (repin_flat q3).1 q
      · simp only [mo2 n (fun nm hm => hp ⟨nm, hm⟩)] at hy
        rw [← ki]
        exact hk.flat n y hy hf q
  · rcases (Gok k).1 hk' with hk' | ⟨h1, h2⟩
    · have := h.ok k hk'
      exact ⟨Nat.lt_of_lt_of_le this.1 hs.kept.size, this.2⟩
    · have h3 := h.base
      exact ⟨(hs.ok k h2).1, fun hlt => by omega⟩
  · exact ⟨hs.kept.os.trans h.kept.os, hs.kept.tape.trans h.kept.tape, hs.kept.output.trans h.kept.output, Nat.le_trans h.kept.size hs.kept.size, fun k hk' hM => by
      rw [← h.kept.block k hk' hM]
      refine stay k (Nat.lt_of_lt_of_le hk' h.base) fun ⟨n, b, hb, e⟩ => hM ((h.own b k (hpl n b hb).1 e).2.1 hk')⟩
  · exact Nat.le_trans h.base hs.kept.size
  · rcases kinds n hl with ⟨m, e1, e2, e3, _⟩ | hl
    · omega
    · exact ⟨kg n hl, vold n hl, iold n hl⟩
end
/-! ### Calls of a table -/
def pRange : List (Nat × Nat) → Bool
  | [] => true
  | q :: r => Nat.ble PB q.1 && (Nat.blt q.1 RB && pRange r)
def isNil : List Nat → Bool
  | [] => true
  | _ => false
def hasKey (n : Nat) : List (Nat × Blk) → Bool
  | [] => false
  | q :: r => Nat.beq q.1 n || hasKey n r
def nodupK : List (Nat × Blk) → Bool
  | [] => true
  | q :: r => !hasKey q.1 r && nodupK r
/-- What boxes hold behind a call, under the caller's names. -/
def look (n : Nat) : List (Nat × Nat) → AV
  | [] => .bad
  | q :: r => bif Nat.beq q.1 n then .ptr q.2 0 else look n r
def looks (p : List (Nat × Nat)) : List Nat → List AV
  | [] => []
  | n :: r => look n p :: looks p r
def CK.back (p : List (Nat × Nat)) (m : Nat) : (c : CK) → c.T → AV
  | .v t, x => t.av x
  | .own _ _, _ => .own m
  | .pin _ _, _ => .own m
  | .self i ns, _ => .fn i (looks p ns)
  | .clo i cs, x => .fn i (ftPuts cs x)
def ckBacks (p : List (Nat × Nat)) : (m : Nat) → (cs : List CK) → CTs cs → List AV
  | _, [], _ => []
  | m, c :: r, x => c.back p m x.1 :: ckBacks p (m + 1) r x.2
def MK.back (p : List (Nat × Nat)) (off n : Nat) : (c : MK) → c.T → Blk
  | .own e t, l => .row true e t l
  | .box cs, x => .box true (ckBacks p (n + RB + off) cs x)
def MK.keep (n : Nat) : (c : MK) → c.T → Blk
  | .own e t, l => .row true e t l
  | .box cs, x => .box true (ckPuts (n + RB) cs x).1
def MK.rows (off n : Nat) : (c : MK) → c.T → List (Nat × Blk)
  | .own _ _, _ => []
  | .box cs, x => (ckPuts (n + RB + off) cs x).2
def mutBack (p : List (Nat × Nat)) (off : Nat) : (ms : List (Nat × MK)) → MKs ms → List (Nat × Blk)
  | [], _ => []
  | m :: r, x => (m.1, m.2.back p off m.1 x.1) :: mutBack p off r x.2
def mutKeep : (ms : List (Nat × MK)) → MKs ms → List (Nat × Blk)
  | [], _ => []
  | m :: r, x => (m.1, m.2.keep m.1 x.1) :: mutKeep r x.2
def mutRows (off : Nat) : (ms : List (Nat × MK)) → MKs ms → List (Nat × Blk)
  | [], _ => []
  | m :: r, x => m.2.rows off m.1 x.1 ++ mutRows off r x.2
def hasM (n : Nat) : List (Nat × MK) → Bool
  | [] => false
  | m :: r => Nat.beq m.1 n || hasM n r
/-- What is lent, and what is given away. -/
def keepP (ms : List (Nat × MK)) : List (Nat × Nat) → List (Nat × Nat)
  | [] => []
  | q :: r => bif hasM q.1 ms then q :: keepP ms r else keepP ms r
def goneP (ms : List (Nat × MK)) : List (Nat × Nat) → List Nat
  | [] => []
  | q :: r => bif hasM q.1 ms then goneP ms r else q.2 :: goneP ms r
def allFalse (s : St) : List Nat → Bool
  | [] => true
  | b :: r => (match hget s.heap b with | some (.row false _ _ _) => true | _ => false) && allFalse s r
def unpin1 : Blk → Blk
  | .row _ e t l => .row false e t l
  | x => x
def unpin : List (Nat × Blk) → List (Nat × Blk)
  | [] => []
  | q :: r => (q.1, unpin1 q.2) :: unpin r
def pMain : List (Nat × Nat) → Bool
  | [] => true
  | q :: r => Nat.beq (q.1 % 8) 0 && pMain r
theorem pMain_ok : ∀ {p : List (Nat × Nat)}, pMain p = true → ∀ n b, (n, b) ∈ p → n % 8 = 0
  | [], _, _, _, h => by simp at h
  | q :: r, h, n, b, hm => by
    simp only [pMain, Bool.and_eq_true] at h
    rcases List.mem_cons.1 hm with e | hm
    · subst e; exact Nat.eq_of_beq_eq_true h.1
    · exact pMain_ok h.2 n b hm
def callOk (c : Con) (s : St) (as : List AV) (p : List (Nat × Nat)) (heap0 : List (Nat × Blk)) : Bool :=
  uniq0 p && (covers heap0 p && (disjN p (wants c.ps as) && (pRange p && (((allFlat c.rs && allMflat (muts PB c.ps)) || isNil (wants c.ps as)) && (uniq0 (keepP (muts PB c.ps) p) && (pMain (keepP (muts PB c.ps) p) && allNoself c.rs))))))
def backX (c : Con) (d : Nat) (s : St) (p : List (Nat × Nat)) (y : STs c.rs × MTs c.ps) {α : Type} (K : St → AV → Option α) : Option α :=
  match mutSet (keepP (muts PB c.ps) p) (mutBack (keepP (muts PB c.ps) p) (4096 * (d + 1)) (muts PB c.ps) y.2) (killAll s (goneP (muts PB c.ps) p)).heap with
  | some heap => chk (allFresh s.heap ((shPuts (RB + 4096 * (d + 1)) c.rs y.1).2 ++ mutRows (4096 * (d + 1)) (muts PB c.ps) y.2) && nodupK (((shPuts RB c.rs y.1).2 ++ mutRows 0 (muts PB c.ps) y.2) ++ mutKeep (muts PB c.ps) y.2))
    (K ⟨(killAll s (goneP (muts PB c.ps) p)).env, (bif allFalse s (goneP (muts PB c.ps) p) then unpin ((shPuts (RB + 4096 * (d + 1)) c.rs y.1).2 ++ mutRows (4096 * (d + 1)) (muts PB c.ps) y.2) else (shPuts (RB + 4096 * (d + 1)) c.rs y.1).2 ++ mutRows (4096 * (d + 1)) (muts PB c.ps) y.2) ++ heap⟩ (resOf (shPuts (RB + 4096 * (d + 1)) c.rs y.1).1))
  | none => none
def callCon (c : Con) (d : Nat) (s : St) (as : List AV) {α : Type} (K : St → AV → Option α) : Option α := match shArgs s PB c.ps (lendAV s c.ps as) with
  | some (x, p) => chk (callOk c s as (nub p) (shPuts PB c.ps x).2) ((c.fn x).bind fun y => backX c d s (nub p) y K)
  | none => none
section
variable {P : Program} {X : Cx} {C : Caller} {s : St} {a : Act} {w w' : World} {g g0 g' : Gh}
theorem Sim.same (h : Sim X s a w g) {heap' : List (Nat × Blk)} (hh : ∀ n, hget heap' n = hget s.heap n) : Sim X ⟨s.env, heap'⟩ a w g :=
  ⟨h.env, fun b => by show g.live b ↔ (hget heap' b).isSome = true; rw [hh]; exact h.live b, fun b x hx => h.blk b x (by rw [← hh]; exact hx), h.disj, h.own, fun b x hx => h.flat b x (by rw [← hh]; exact hx), h.ok, h.size, h.defers, h.kept, h.base, h.glob⟩
theorem rows0 {n : Nat} {cs : List CK} {x : CTs cs} : MK.rows 0 n (.box cs) x = (ckPuts (n + RB) cs x).2 := by simp only [MK.rows, Nat.add_zero]
theorem in_rows0 {n : Nat} {cs : List CK} {x : CTs cs} {q : Nat × Blk} (h : q ∈ (ckPuts (n + RB) cs x).2) : q ∈ MK.rows 0 n (.box cs) x := by rw [rows0]; exact h
theorem put_mem {m n : Nat} {y : Blk} {cs : List CK} {x : CTs cs} : (m, y) ∈ MK.put n (.box cs) x ↔ (m, y) ∈ MK.rows 0 n (.box cs) x ∨ (m, y) = (n, MK.keep n (.box cs) x) := by
  rw [rows0]
  show (m, y) ∈ _ :: _ ↔ _
  rw [List.mem_cons]
  exact or_comm
theorem rows0_moved {B B' : Nat} (hB : B' ≤ B) {off n : Nat} {cs : List CK} {x : CTs cs} (r : Shift w g g' off (flats cs) (MK.rows 0 n (.box cs) x)) : Moved B B' w g g' off (MK.rows 0 n (.box cs) x) (MK.rows off n (.box cs) x) := by
  rw [rows0] at r ⊢
  exact cks_moved hB (cs := cs) (n := n + RB) r
theorem mutPuts_mem {m : Nat} {y : Blk} : ∀ {ms : List (Nat × MK)} {z : MKs ms}, (m, y) ∈ mutPuts ms z ↔ (m, y) ∈ mutRows 0 ms z ∨ (m, y) ∈ mutKeep ms z
  | [], _ => by simp [mutPuts, mutRows, mutKeep]
  | (n, .own e t) :: ms, z => by
    simp only [mutPuts, mutRows, mutKeep, MK.put, MK.rows, MK.keep, List.mem_append, List.mem_cons, List.not_mem_nil, or_false, false_or, mutPuts_mem (ms := ms)]
    constructor
    · rintro (h | h | h)
      · exact .inr (.inl h)
      · exact .inl h
      · exact .inr (.inr h)
    · rintro (h | h | h)
      · exact .inr (.inl h)
      · exact .inl h
      · exact .inr (.inr h)
  | (n, .box cs) :: ms, z => by
    have e := put_mem (m := m) (y := y) (n := n) (cs := cs) (x := z.1)
    simp only [mutPuts, mutRows, mutKeep, List.mem_append, List.mem_cons, mutPuts_mem (ms := ms), e]
    constructor
    · rintro ((h | h) | h | h)
      · exact .inl (.inl h)
      · exact .inr (.inl h)
      · exact .inl (.inr h)
      · exact .inr (.inr h)
    · rintro ((h | h) | h | h)
      · exact .inl (.inl h)
      · exact .inr (.inl h)
      · exact .inl (.inr h)
      · exact .inr (.inr h)
theorem mut_back {p : List (Nat × Nat)} {off n : Nat} {y' : Blk} : ∀ {ms : List (Nat × MK)} {z : MKs ms}, hget (mutBack p off ms z) n = some y' → ∃ (c : MK) (x : c.T), hget (mutKeep ms z) n = some (c.keep n x) ∧ y' = c.back p off n x ∧ (allMflat ms = true → c.flat = true) ∧ ∀ m y, (m, y) ∈ c.rows 0 n x → (m, y) ∈ mutRows 0 ms z
  | [], _, h => by cases h
  | (m, c) :: ms, z, h => by
    simp only [mutBack, hget] at h
    by_cases e : m = n
    · subst e
      rw [Nat.beq_refl] at h
      cases h
      refine ⟨c, z.1, by simp only [mutKeep, hget, Nat.beq_refl]; rfl, rfl, fun hf => by simp only [allMflat, Bool.and_eq_true] at hf; exact hf.1, fun m y hm => List.mem_append_left _ hm⟩
    · rw [beq_ne e] at h
      obtain ⟨c', x, h1, h2, h3, h4⟩ := mut_back (ms := ms) h
      refine ⟨c', x, by simp only [mutKeep, hget]; rw [beq_ne e]; exact h1, h2, fun hf => h3 (by simp only [allMflat, Bool.and_eq_true] at hf; exact hf.2), fun m y hm => List.mem_append_right _ (h4 m y hm)⟩
theorem look_rv {p : List (Nat × Nat)} (pl : ∀ n b, (n, b) ∈ p → g'.live b ∧ g'.val b = g.val n) {n : Nat} {v : Value} (h : RV w g (.ptr n 0) v) : RV w g' (look n p) v := by
  induction p with
  | nil => trivial
  | cons q r ih =>
    simp only [look]
    by_cases e : q.1 = n
    · subst e
      rw [Nat.beq_refl]
      obtain ⟨_, k, h1, h2⟩ := h
      obtain ⟨p1, p2⟩ := pl q.1 q.2 (List.mem_cons_self ..)
      exact ⟨p1, k, by rw [p2]; exact h1, h2⟩
    · rw [beq_ne e]
      exact ih fun n b hm => pl n b (List.mem_cons_of_mem _ hm)
theorem looks_rv {p : List (Nat × Nat)} (pl : ∀ n b, (n, b) ∈ p → g'.live b ∧ g'.val b = g.val n) : ∀ {ns : List Nat} {vs : List Value}, RVs w g (ptrs ns) vs → RVs w g' (looks p ns) vs
  | [], [], _ => trivial
  | n :: ns, v :: vs, h => ⟨look_rv pl h.1, looks_rv pl h.2⟩
  | [], _ :: _, h => h.elim
  | _ :: _, [], h => h.elim
theorem cks_back {p : List (Nat × Nat)} {off : Nat} (pl : ∀ n b, (n, b) ∈ p → g'.live b ∧ g'.val b = g.val n) : ∀ {cs : List CK} {n : Nat} {x : CTs cs} {vs : List Value}, (flats cs = true ∨ ∀ k, g.ok k → g'.ok k) →
    (∀ m y, (m, y) ∈ (ckPuts n cs x).2 → g'.live (m + off) ∧ g'.val (m + off) = g.val m) → RVs w g (ckPuts n cs x).1 vs → RVs w g' (ckBacks p (n + off) cs x) vs
  | [], _, _, [], _, _, _ => trivial
  | c :: cs, n, x, v :: vs, hk, sh, h => by
    have hk1 : c.flat = true ∨ ∀ k, g.ok k → g'.ok k := hk.imp_left fun e => by simp only [flats, Bool.and_eq_true] at e; exact e.1
    have hk2 : flats cs = true ∨ ∀ k, g.ok k → g'.ok k := hk.imp_left fun e => by simp only [flats, Bool.and_eq_true] at e; exact e.2
    have tl := cks_back (off := off) pl (n := n + 1) hk2 (fun m y hm => sh m y (List.mem_append_right _ hm)) h.2
    rw [show n + 1 + off = n + off + 1 by omega] at tl
    refine ⟨?_, tl⟩
    have h := h.1
    have sh : ∀ m y, (m, y) ∈ (c.put n x.1).2 → g'.live (m + off) ∧ g'.val (m + off) = g.val m := fun m y hm => sh m y (List.mem_append_left _ hm)
    cases c with
    | v t =>
      rcases hk1 with hf | hk1
      · exact av_flat hf h
      · exact RV.pure (g := g) (w := w) (fun k h _ => ⟨rfl, hk1 k h⟩) av_pure h
    | own e t =>
      obtain ⟨h1, h2⟩ := sh n _ (List.mem_singleton.2 rfl)
      exact ⟨h1, by rw [h2]; exact h.2⟩
    | pin e t =>
      obtain ⟨h1, h2⟩ := sh n _ (List.mem_singleton.2 rfl)
      exact ⟨h1, by rw [h2]; exact h.2⟩
    | self i ns =>
      obtain ⟨vs', e, h⟩ := h
      exact ⟨vs', e, looks_rv pl h⟩
    | clo i fs =>
      rcases hk1 with hf | hk1
      · cases hf
      · obtain ⟨vs', e, h⟩ := h
        exact ⟨vs', e, RVs.pure (g := g) (w := w) (fun k h _ => ⟨rfl, hk1 k h⟩) ftPuts_pure h⟩
  | [], _, _, _ :: _, _, _, h => h.elim
  | _ :: _, _, _, [], _, _, h => h.elim
theorem rows_moved {B B' : Nat} (hB : B' ≤ B) {off : Nat} : ∀ {ms : List (Nat × MK)} {z : MKs ms}, Shift w g g' off (allMflat ms) (mutRows 0 ms z) → Moved B B' w g g' off (mutRows 0 ms z) (mutRows off ms z)
  | [], _, _ => Moved.nil
  | (n, c) :: ms, z, r => by
    have h2 := rows_moved hB (Shift.right (fl := c.flat) r)
    have r1 := Shift.left (fl := c.flat) r
    cases c with
    | own e t => exact Moved.app Moved.nil h2
    | box cs => exact Moved.app (rows0_moved hB (cs := cs) (x := z.1) r1) h2
theorem keepP_mem {ms : List (Nat × MK)} {q : Nat × Nat} : ∀ {p : List (Nat × Nat)}, q ∈ keepP ms p ↔ q ∈ p ∧ hasM q.1 ms = true
  | [] => by simp [keepP]
  | x :: r => by
    simp only [keepP]
    cases hb : hasM x.1 ms with
    | true =>
      simp only [cond_true, List.mem_cons, keepP_mem (p := r)]
      constructor
      · rintro (h | ⟨h1, h2⟩)
        · exact ⟨.inl h, by rw [h]; exact hb⟩
        · exact ⟨.inr h1, h2⟩
      · rintro ⟨h | h, h2⟩
        · exact .inl h
        · exact .inr ⟨h, h2⟩
    | false =>
      simp only [cond_false, List.mem_cons, keepP_mem (p := r)]
      constructor
      · rintro ⟨h1, h2⟩; exact ⟨.inr h1, h2⟩
      · rintro ⟨h | h, h2⟩
        · rw [h, hb] at h2; cases h2
        · exact ⟨h, h2⟩
theorem goneP_mem {ms : List (Nat × MK)} {b : Nat} : ∀ {p : List (Nat × Nat)}, b ∈ goneP ms p ↔ ∃ n, (n, b) ∈ p ∧ hasM n ms = false
  | [] => by simp [goneP]
  | x :: r => by
    simp only [goneP]
    cases hb : hasM x.1 ms with
    | true =>
      simp only [cond_true, goneP_mem (p := r), List.mem_cons]
      constructor
      · rintro ⟨n, h1, h2⟩; exact ⟨n, .inr h1, h2⟩
      · rintro ⟨n, h | h, h2⟩
        · subst h; rw [hb] at h2; cases h2
        · exact ⟨n, h, h2⟩
    | false =>
      simp only [cond_false, List.mem_cons, goneP_mem (p := r)]
      constructor
      · rintro (h | ⟨n, h1, h2⟩)
        · exact ⟨x.1, .inl (by rw [h]), hb⟩
        · exact ⟨n, .inr h1, h2⟩
      · rintro ⟨n, h | h, h2⟩
        · left; rw [← h]
        · exact .inr ⟨n, h, h2⟩
theorem allFalse_ok : ∀ {l : List Nat}, allFalse s l = true → ∀ b ∈ l, ∃ e t l', hget s.heap b = some (.row false e t l')
  | [], _, _, hb => by simp at hb
  | c :: l, h, b, hb => by
    simp only [allFalse, Bool.and_eq_true] at h
    rcases List.mem_cons.1 hb with e | hb
    · subst e
      have h1 := h.1
      split at h1
      · rename_i e t l' hq; exact ⟨e, t, l', hq⟩
      · cases h1
    · exact allFalse_ok h.2 b hb
theorem hget_unpin (n : Nat) : ∀ (A : List (Nat × Blk)), hget (unpin A) n = (hget A n).map unpin1
  | [] => rfl
  | q :: A => by
    simp only [unpin, hget]
    cases Nat.beq q.1 n with
    | true => rfl
    | false => exact hget_unpin n A
theorem Sim.unpin {env : List (Nat × AV)} {A heap : List (Nat × Blk)} (h : Sim X ⟨env, A ++ heap⟩ a w g) (hA : ∀ n y, (n, y) ∈ A → ∀ k, g.has n k → X.B ≤ k) : Sim X ⟨env, YthgmnlfbgajchaaV.unpin A ++ heap⟩ a w g := by
  have key : ∀ n, hget (YthgmnlfbgajchaaV.unpin A ++ heap) n = match hget A n with | some y => some (unpin1 y) | none => hget heap n := fun n => by
    rw [hget_app, hget_unpin]; cases hget A n <;> rfl
  have key0 : ∀ n, hget (A ++ heap) n = match hget A n with | some y => some y | none => hget heap n := fun n => by rw [hget_app]
  refine ⟨h.env, fun n => ?_, fun n y hy => ?_, h.disj, h.own, fun n y hy hf => ?_, h.ok, h.size, h.defers, h.kept, h.base, h.glob⟩
  · rw [h.live n]
    show (hget (A ++ heap) n).isSome = true ↔ (hget (YthgmnlfbgajchaaV.unpin A ++ heap) n).isSome = true
    rw [key, key0]; cases hget A n <;> simp
  · change hget (YthgmnlfbgajchaaV.unpin A ++ heap) n = some y at hy
    rw [key] at hy
    cases hq : hget A n with
    | none =>
      rw [hq] at hy
      exact h.blk n y (by show hget (A ++ heap) n = _; rw [key0, hq]; exact hy)
    | some y0 =>
      rw [hq] at hy
      simp only [Option.some.injEq] at hy
      subst hy
      have hb := h.blk n y0 (by show hget (A ++ heap) n = _; rw [key0, hq])
      cases y0 with
      | row pin e t l =>
        obtain ⟨inner, ⟨h1, h2⟩, h3⟩ := hb
        refine ⟨inner, ⟨h1, ?_⟩, h3⟩
        rcases h2 with h2 | ⟨k, cap, cur, e1, _, e3⟩
        · exact .inl h2
        · exact .inr ⟨k, cap, cur, e1, hA n _ (hget_mem hq) k (.inl (by rw [e1]; rfl)), e3⟩
      | box pin cs => exact hb
      | deep e t l => exact hb
      | obj k y => exact hb
  · change hget (YthgmnlfbgajchaaV.unpin A ++ heap) n = some y at hy
    rw [key] at hy
    cases hq : hget A n with
    | none =>
      rw [hq] at hy
      exact h.flat n y (by show hget (A ++ heap) n = _; rw [key0, hq]; exact hy) hf
    | some y0 =>
      rw [hq] at hy
      simp only [Option.some.injEq] at hy
      subst hy
      exact h.flat n y0 (by show hget (A ++ heap) n = _; rw [key0, hq]) (by cases y0 <;> first | rfl | exact hf)
theorem pRange_ok : ∀ {p : List (Nat × Nat)}, pRange p = true → ∀ n b, (n, b) ∈ p → PB ≤ n ∧ n < RB
  | [], _, _, _, h => by simp at h
  | q :: r, h, n, b, hm => by
    simp only [pRange, Bool.and_eq_true, Nat.blt_eq] at h
    rcases List.mem_cons.1 hm with e | hm
    · subst e; exact ⟨Nat.le_of_ble_eq_true h.1, h.2.1⟩
    · exact pRange_ok h.2.2 n b hm
theorem ckPuts_ge : ∀ {cs : List CK} {n : Nat} {x : CTs cs} {m : Nat} {y : Blk}, (m, y) ∈ (ckPuts n cs x).2 → n ≤ m
  | [], _, _, _, _, h => by simp [ckPuts] at h
  | c :: cs, n, x, m, y, h => by
    simp only [ckPuts] at h
    rcases List.mem_append.1 h with h | h
    · cases c with
      | own e t => simp only [CK.put, List.mem_singleton, Prod.mk.injEq] at h; omega
      | pin e t => simp only [CK.put, List.mem_singleton, Prod.mk.injEq] at h; omega
      | _ => simp [CK.put] at h
    · have := ckPuts_ge h; omega
theorem rows0_ge {n : Nat} {cs : List CK} {x : CTs cs} {m : Nat} {y : Blk} (h : (m, y) ∈ MK.rows 0 n (.box cs) x) : RB ≤ m := by
  rw [rows0] at h
  have := ckPuts_ge h
  omega
theorem capPuts_ge : ∀ {cs : List Cap} {n : Nat} {x : CapTs cs} {m : Nat} {y : Blk}, (m, y) ∈ (capPuts n cs x).2 → n ≤ m
  | [], _, _, _, _, h => by simp [capPuts] at h
  | c :: cs, n, x, m, y, h => by
    simp only [capPuts] at h
    rcases List.mem_append.1 h with h | h
    · cases c with
      | r ks => simp [Cap.put] at h
      | m pin ks =>
        rcases List.mem_cons.1 h with h | h
        · simp only [Prod.mk.injEq] at h; omega
        · have := ckPuts_ge h; omega
    · have := capPuts_ge h; omega
theorem shPuts_ge : ∀ {cs : List Sh} {n : Nat} {x : STs cs} {m : Nat} {y : Blk}, (m, y) ∈ (shPuts n cs x).2 → n ≤ m
  | [], _, _, _, _, h => by simp [shPuts] at h
  | c :: cs, n, x, m, y, h => by
    simp only [shPuts] at h
    rcases List.mem_append.1 h with h | h
    · cases c with
      | own pin e t => simp only [Sh.put, List.mem_singleton, Prod.mk.injEq] at h; omega
      | box pin ks =>
        rcases List.mem_cons.1 h with h | h
        · simp only [Prod.mk.injEq] at h; omega
        · have := ckPuts_ge h; omega
      | agg ks => exact ckPuts_ge h
      | fn f caps => exact capPuts_ge h
      | deep e t => simp only [Sh.put, List.mem_singleton, Prod.mk.injEq] at h; omega
      | obj k => simp only [Sh.put, List.mem_singleton, Prod.mk.injEq] at h; omega
      | _ => simp [Sh.put] at h
    · have := shPuts_ge h; omega
theorem resOf_rv {as : List AV} {vs : List Value} (h : RVs w g as vs) : RV w g (resOf as) (retVal vs) := by
  match as, vs, h with
  | [], [], h => exact ⟨[], rfl, trivial⟩
  | [a], [v], h => exact h.1
  | a :: b :: as, v :: u :: vs, h => exact ⟨v :: u :: vs, rfl, h⟩
  | [], _ :: _, h => exact h.elim
  | _ :: _, [], h => exact h.elim
  | [_], _ :: _ :: _, h => exact h.2.elim
  | _ :: _ :: _, [_], h => exact h.2.elim
theorem lendAV_len : ∀ (cs : List Sh) (as : List AV), (lendAV s cs as).length = as.length := by
  intro cs
  induction cs with
  | nil => intro as; cases as <;> rfl
  | cons c cs ih =>
    intro as
    cases as with
    | nil => cases c <;> rfl
    | cons a as => cases c <;> simp [lendAV, ih]
theorem ownsOf_live (h : Sim X s a w g) : ∀ {as : List AV} {vs : List Value}, RVs w g as vs → ∀ b ∈ ownsOf as, g.live b
  | [], [], _, b, hb => by simp [ownsOf] at hb
  | v :: as, u :: vs, hr, b, hb => by
    cases v with
    | own b' =>
      simp only [ownsOf] at hb
      rcases List.mem_cons.1 hb with e | hb
      · subst e; exact hr.1.1
      · exact ownsOf_live h hr.2 b hb
    | dp b' p =>
      simp only [ownsOf] at hb
      rcases List.mem_cons.1 hb with e | hb
      · subst e; exact hr.1.1
      · exact ownsOf_live h hr.2 b hb
    | _ => exact ownsOf_live h hr.2 b (by simpa [ownsOf] using hb)
  | [], _ :: _, hr, _, _ => hr.elim
  | _ :: _, [], hr, _, _ => hr.elim
theorem wants_live (h : Sim X s a w g) : ∀ {cs : List Sh} {as : List AV} {vs : List Value}, RVs w g as vs → ∀ b ∈ wants cs as, g.live b := by
  intro cs
  induction cs with
  | nil => intro as vs _ b hb; cases as <;> simp [wants] at hb
  | cons c cs ih =>
    intro as vs hr b hb
    cases as with
    | nil => cases c <;> simp [wants] at hb
    | cons v as =>
      cases vs with
      | nil => exact hr.elim
      | cons u vs =>
        cases c with
        | v t =>
          simp only [wants] at hb
          rcases List.mem_append.1 hb with hb | hb
          · cases v with
            | own b' => simp [AV.cells, ownsOf] at hb; subst hb; exact hr.1.1
            | dp b' p => simp [AV.cells, ownsOf] at hb; subst hb; exact hr.1.1
            | agg ws => obtain ⟨cs', e, hr'⟩ := hr.1; exact ownsOf_live h hr' b hb
            | _ => simp [AV.cells, ownsOf] at hb
          · exact ih hr.2 b hb
        | _ => exact ih hr.2 b (by simpa [wants] using hb)
theorem shArgs_len : ∀ {cs : List Sh} {n : Nat} {as : List AV} {x : STs cs} {p : List (Nat × Nat)}, shArgs s n cs as = some (x, p) → as.length = cs.length
  | [], _, [], _, _, _ => rfl
  | c :: cs, n, v :: as, x, p, he => by
    simp only [shArgs] at he
    split at he
    · rename_i e2
      rw [List.length_cons, List.length_cons, shArgs_len e2]
    · cases he
  | [], _, _ :: _, _, _, he => by simp [shArgs] at he
  | _ :: _, _, [], _, _, he => by simp [shArgs] at he
theorem cks_keys {off : Nat} : ∀ {cs : List CK} {n : Nat} {x : CTs cs} {m : Nat} {y : Blk}, (m, y) ∈ (ckPuts n cs x).2 → ∃ y', (m + off, y') ∈ (ckPuts (n + off) cs x).2
  | [], _, _, _, _, h => by simp [ckPuts] at h
  | c :: cs, n, x, m, y, h => by
    simp only [ckPuts] at h ⊢
    rcases List.mem_append.1 h with h | h
    · cases c with
      | own e t =>
        simp only [CK.put, List.mem_singleton, Prod.mk.injEq] at h
        exact ⟨_, List.mem_append_left _ (by rw [h.1]; exact List.mem_singleton.2 rfl)⟩
      | pin e t =>
        simp only [CK.put, List.mem_singleton, Prod.mk.injEq] at h
        exact ⟨_, List.mem_append_left _ (by rw [h.1]; exact List.mem_singleton.2 rfl)⟩
      | _ => simp [CK.put] at h
    · obtain ⟨y', e⟩ := cks_keys (off := off) h
      rw [show n + off + 1 = n + 1 + off by omega]
      exact ⟨y', List.mem_append_right _ e⟩
theorem rows0_keys {off n : Nat} {cs : List CK} {x : CTs cs} {m : Nat} {y : Blk} (h : (m, y) ∈ MK.rows 0 n (.box cs) x) : ∃ y', (m + off, y') ∈ MK.rows off n (.box cs) x := by
  rw [rows0] at h
  exact cks_keys (off := off) h
theorem mutRows_ge : ∀ {ms : List (Nat × MK)} {z : MKs ms} {m : Nat} {y : Blk}, (m, y) ∈ mutRows 0 ms z → RB ≤ m
  | [], _, _, _, h => by simp [mutRows] at h
  | (n, c) :: ms, z, m, y, h => by
    simp only [mutRows] at h
    rcases List.mem_append.1 h with h | h
    · cases c with
      | own e t => simp [MK.rows] at h
      | box cs =>
        have h : (m, y) ∈ MK.rows 0 n (.box cs) z.1 := h
        have h1 := rows0_ge h
        exact h1
    · exact mutRows_ge h
theorem mutRows_keys {off : Nat} : ∀ {ms : List (Nat × MK)} {z : MKs ms} {m : Nat} {y : Blk}, (m, y) ∈ mutRows 0 ms z → ∃ y', (m + off, y') ∈ mutRows off ms z
  | [], _, _, _, h => by simp [mutRows] at h
  | (n, c) :: ms, z, m, y, h => by
    simp only [mutRows] at h ⊢
    rcases List.mem_append.1 h with h | h
    · cases c with
      | own e t => simp [MK.rows] at h
      | box cs =>
        have h : (m, y) ∈ MK.rows 0 n (.box cs) z.1 := h
        obtain ⟨y', e⟩ := rows0_keys (off := off) h
        exact ⟨y', List.mem_append_left _ e⟩
    · obtain ⟨y', e⟩ := mutRows_keys (off := off) h
      exact ⟨y', List.mem_append_right _ e⟩
theorem caps_keys {off : Nat} : ∀ {cs : List Cap} {n : Nat} {x : CapTs cs} {m : Nat} {y : Blk}, (m, y) ∈ (capPuts n cs x).2 → ∃ y', (m + off, y') ∈ (capPuts (n + off) cs x).2
  | [], _, _, _, _, h => by simp [capPuts] at h
  | c :: cs, n, x, m, y, h => by
    simp only [capPuts] at h ⊢
    rcases List.mem_append.1 h with h | h
    · cases c with
      | r ks => simp [Cap.put] at h
      | m pin ks =>
        rcases List.mem_cons.1 h with h | h
        · simp only [Prod.mk.injEq] at h
          exact ⟨_, List.mem_append_left _ (by rw [h.1]; exact List.mem_cons_self ..)⟩
        · obtain ⟨y', e⟩ := cks_keys (off := off) h
          refine ⟨y', List.mem_append_left _ (List.mem_cons_of_mem _ ?_)⟩
          rw [show n + off + 1 = n + 1 + off by omega]; exact e
    · obtain ⟨y', e⟩ := caps_keys (off := off) h
      rw [show n + off + 8 = n + 8 + off by omega]
      exact ⟨y', List.mem_append_right _ e⟩
theorem shs_keys {off : Nat} : ∀ {cs : List Sh} {n : Nat} {x : STs cs} {m : Nat} {y : Blk}, (m, y) ∈ (shPuts n cs x).2 → ∃ y', (m + off, y') ∈ (shPuts (n + off) cs x).2
  | [], _, _, _, _, h => by simp [shPuts] at h
  | c :: cs, n, x, m, y, h => by
    simp only [shPuts] at h ⊢
    rcases List.mem_append.1 h with h | h
    · cases c with
      | own pin e t =>
        simp only [Sh.put, List.mem_singleton, Prod.mk.injEq] at h
        exact ⟨_, List.mem_append_left _ (by rw [h.1]; exact List.mem_singleton.2 rfl)⟩
      | box pin ks =>
        rcases List.mem_cons.1 h with h | h
        · simp only [Prod.mk.injEq] at h
          exact ⟨_, List.mem_append_left _ (by rw [h.1]; exact List.mem_cons_self ..)⟩
        · obtain ⟨y', e⟩ := cks_keys (off := off) h
          refine ⟨y', List.mem_append_left _ (List.mem_cons_of_mem _ ?_)⟩
          rw [show n + off + 1 = n + 1 + off by omega]; exact e
      | agg ks =>
        obtain ⟨y', e⟩ := cks_keys (off := off) h
        exact ⟨y', List.mem_append_left _ e⟩
      | fn f caps =>
        obtain ⟨y', e⟩ := caps_keys (off := off) h
        exact ⟨y', List.mem_append_left _ e⟩
      | deep e t =>
        simp only [Sh.put, List.mem_singleton, Prod.mk.injEq] at h
        exact ⟨_, List.mem_append_left _ (by rw [h.1]; exact List.mem_singleton.2 rfl)⟩
      | obj k =>
        simp only [Sh.put, List.mem_singleton, Prod.mk.injEq] at h
        exact ⟨_, List.mem_append_left _ (by rw [h.1]; exact List.mem_singleton.2 rfl)⟩
      | _ => simp [Sh.put] at h
    · obtain ⟨y', e⟩ := shs_keys (off := off) h
      rw [show n + off + 64 = n + 64 + off by omega]
      exact ⟨y', List.mem_append_right _ e⟩
theorem lend1_names {v : AV} : ∀ b ∈ argNames (lend1 s v), b ∈ argNames v := by
  intro b hb
  cases v with
  | own b' =>
    simp only [lend1, pure1] at hb
    split at hb <;> simp [argNames, nameOf] at hb
  | dp b' p =>
    simp only [lend1, lendDp] at hb
    split at hb
    · unfold innD at hb
      split at hb <;> simp [argNames, nameOf] at hb
    · simp [argNames, nameOf] at hb
  | agg vs => simp [lend1, argNames, nameOf] at hb
  | _ => exact hb
theorem lend_names {cs : List Sh} : ∀ {as : List AV} {b : Nat}, b ∈ names (lendAV s cs as) → b ∈ names as := by
  induction cs with
  | nil => intro as b h; cases as <;> exact h
  | cons c cs ih =>
    intro as b h
    cases as with
    | nil => cases c <;> exact h
    | cons a as =>
      have rest : b ∈ argNames a ++ names (lendAV s cs as) → b ∈ names (a :: as) := fun h => by
        rcases List.mem_append.1 h with h | h
        · exact List.mem_append_left _ h
        · exact List.mem_append_right _ (ih h)
      cases c with
      | v t =>
        simp only [lendAV, names] at h
        rcases List.mem_append.1 h with h | h
        · exact List.mem_append_left _ (lend1_names b h)
        · exact List.mem_append_right _ (ih h)
      | _ => exact rest (by simpa [lendAV, names] using h)
theorem mem_cellNames {s : St} {b : Nat} : ∀ {L : List Nat}, b ∈ cellNames s L ↔ ∃ n ∈ L, ∃ pin cs, hget s.heap n = some (.box pin cs) ∧ b ∈ names cs
  | [] => by simp [cellNames]
  | c :: L => by
    simp only [cellNames, List.mem_append, mem_cellNames (L := L), List.mem_cons]
    constructor
    · rintro (h | ⟨n, h1, h2⟩)
      · split at h
        · rename_i pin cs hc; exact ⟨c, .inl rfl, pin, cs, hc, h⟩
        · simp at h
      · exact ⟨n, .inr h1, h2⟩
    · rintro ⟨n, h1 | h1, pin, cs, h2, h3⟩
      · left; subst h1; rw [h2]; exact h3
      · exact .inr ⟨n, h1, pin, cs, h2, h3⟩
theorem cell_mono {L L' : List Nat} {b : Nat} (h : ∀ n ∈ L, n ∈ L') (hb : b ∈ cellNames s L) : b ∈ cellNames s L' := by
  obtain ⟨n, h1, h2⟩ := mem_cellNames.1 hb
  exact mem_cellNames.2 ⟨n, h n h1, h2⟩
theorem knot_names : ∀ {ns : List Nat} {as : List AV} {p : List (Nat × Nat)}, knot ns as = some p → ∀ m b, (m, b) ∈ p → b ∈ names0 as
  | [], [], p, he, m, b, hm => by
    simp only [knot, Option.some.injEq] at he
    subst he; simp at hm
  | n :: ns, v :: as, p, he, m, b, hm => by
    cases v with
    | ptr b' o =>
      cases o with
      | succ o => simp [knot] at he
      | zero =>
        simp only [knot] at he
        split at he
        · rename_i q hq
          cases he
          rcases List.mem_cons.1 hm with e | hm
          · cases e; exact List.mem_append_left _ (List.mem_singleton.2 rfl)
          · exact List.mem_append_right _ (knot_names hq m b hm)
        · cases he
    | _ => simp [knot] at he
  | [], _ :: _, _, he, _, _, _ => by simp [knot] at he
  | _ :: _, [], _, he, _, _, _ => by simp [knot] at he
theorem ckGet_names {n : Nat} {c : CK} {v : AV} {y : c.T} {p : List (Nat × Nat)} (he : c.get s n v = some (y, p)) : ∀ m b, (m, b) ∈ p → b ∈ argNames v := by
  intro m b hm
  cases c with
  | v t =>
    simp only [CK.get] at he
    split at he
    · cases he; simp at hm
    · cases he
  | own e t =>
    cases v <;> first | (simp [CK.get] at he; done) | skip
    simp only [CK.get] at he
    split at he
    · split at he
      · obtain ⟨_, he⟩ := cond_some he
        cases he
        simp only [List.mem_singleton, Prod.mk.injEq] at hm
        rw [hm.2]; exact List.mem_singleton.2 rfl
      · cases he
    · cases he
  | pin e t =>
    cases v <;> first | (simp [CK.get] at he; done) | skip
    simp only [CK.get] at he
    split at he
    · split at he
      · obtain ⟨_, he⟩ := cond_some he
        cases he
        simp only [List.mem_singleton, Prod.mk.injEq] at hm
        rw [hm.2]; exact List.mem_singleton.2 rfl
      · cases he
    · cases he
  | self i ns =>
    cases v <;> first | (simp [CK.get] at he; done) | skip
    simp only [CK.get] at he
    split at he
    · rename_i q hq
      obtain ⟨_, he⟩ := cond_some he
      cases he
      exact knot_names hq m b hm
    · cases he
  | clo i cs =>
    cases v <;> first | (simp [CK.get] at he; done) | skip
    simp only [CK.get] at he
    split at he
    · obtain ⟨_, he⟩ := cond_some he
      cases he; simp at hm
    · cases he
theorem ckGets_names : ∀ {cs : List CK} {n : Nat} {as : List AV} {y : CTs cs} {p : List (Nat × Nat)}, ckGets s n cs as = some (y, p) → ∀ m b, (m, b) ∈ p → b ∈ names as
  | [], _, [], _, p, he, m, b, hm => by
    simp only [ckGets, Option.some.injEq, Prod.mk.injEq] at he
    obtain ⟨_, rfl⟩ := he
    simp at hm
  | c :: cs, n, v :: as, y, p, he, m, b, hm => by
    simp only [ckGets] at he
    split at he
    · rename_i x1 p1 x2 p2 e1 e2
      cases he
      rcases List.mem_append.1 hm with hm | hm
      · exact List.mem_append_left _ (ckGet_names e1 m b hm)
      · exact List.mem_append_right _ (ckGets_names e2 m b hm)
    · cases he
  | [], _, _ :: _, _, _, he, _, _, _ => by simp [ckGets] at he
  | _ :: _, _, [], _, _, he, _, _, _ => by simp [ckGets] at he
def Of (s : St) (L : List Nat) (b : Nat) : Prop := b ∈ L ∨ b ∈ cellNames s L
theorem Of.mono {L L' : List Nat} {b : Nat} (h : ∀ n ∈ L, n ∈ L') (hb : Of s L b) : Of s L' b := hb.imp (h b) (cell_mono h)
theorem boxArg_names {n : Nat} {cs : List CK} {v : AV} {y : CTs cs} {p : List (Nat × Nat)} (he : boxArg s n cs v = some (y, p)) : ∀ m b, (m, b) ∈ p → Of s (nameOf v) b := by
  intro m b hm
  cases v with
  | ptr b' o =>
    cases o with
    | succ o => simp [boxArg] at he
    | zero =>
      simp only [boxArg] at he
      split at he
      · rename_i pin' as hb
        split at he
        · rename_i y' q hq
          obtain ⟨_, he⟩ := cond_some he
          cases he
          rcases List.mem_cons.1 hm with e | hm
          · cases e; exact .inl (List.mem_singleton.2 rfl)
          · exact .inr (mem_cellNames.2 ⟨b', List.mem_singleton.2 rfl, _, _, hb, ckGets_names hq m b hm⟩)
        · cases he
      · cases he
  | _ => simp [boxArg] at he
theorem rboxGet_none {cs : List Ty} {v : AV} {y : TTs cs} {p : List (Nat × Nat)} (he : rboxGet cs v = some (y, p)) : p = [] := by
  cases v with
  | rptr as o =>
    cases o with
    | succ o => simp [rboxGet] at he
    | zero =>
      simp only [rboxGet] at he
      split at he
      · cases he; rfl
      · cases he
  | _ => simp [rboxGet] at he
theorem capArgs_names : ∀ {cs : List Cap} {n : Nat} {as : List AV} {x : CapTs cs} {p : List (Nat × Nat)}, capArgs s n cs as = some (x, p) → ∀ m b, (m, b) ∈ p → Of s (names0 as) b
  | [], _, [], _, p, he, m, b, hm => by
    simp only [capArgs, Option.some.injEq, Prod.mk.injEq] at he
    obtain ⟨_, rfl⟩ := he
    simp at hm
  | c :: cs, n, v :: as, x, p, he, m, b, hm => by
    simp only [capArgs] at he
    split at he
    · rename_i x1 p1 x2 p2 e1 e2
      cases he
      rcases List.mem_append.1 hm with hm | hm
      · refine Of.mono (L := nameOf v) (fun _ h => List.mem_append_left _ h) ?_
        cases c with
        | r ks => have := rboxGet_none (cs := ks) e1; subst this; simp at hm
        | m pin ks =>
          cases pin with
          | true => exact boxArg_names (cs := ks) e1 m b hm
          | false => cases e1
      · exact (capArgs_names e2 m b hm).mono fun _ h => List.mem_append_right _ h
    · cases he
  | [], _, _ :: _, _, _, he, _, _, _ => by simp [capArgs] at he
  | _ :: _, _, [], _, _, he, _, _, _ => by simp [capArgs] at he
theorem arg_names {n : Nat} {c : Sh} {v : AV} {y : c.T} {p : List (Nat × Nat)} (he : c.arg s n v = some (y, p)) : ∀ m b, (m, b) ∈ p → Of s (argNames v) b := by
  intro m b hm
  cases c with
  | v t =>
    change vGet t v = some (y, p) at he
    unfold vGet at he
    obtain ⟨_, he⟩ := cond_some he
    split at he
    · cases he; simp at hm
    · cases he
  | nilI => cases he
  | same => cases he
  | own pin e t =>
    cases pin with
    | false => cases he
    | true =>
      change ownArg s n e t v = some (y, p) at he
      cases v with
      | own b' =>
        simp only [ownArg] at he
        split at he
        · split at he
          · obtain ⟨_, he⟩ := cond_some he
            cases he
            simp only [List.mem_singleton, Prod.mk.injEq] at hm
            rw [hm.2]; exact .inl (List.mem_singleton.2 rfl)
          · cases he
        · cases he
      | _ => simp [ownArg] at he
  | box pin cs =>
    cases pin with
    | false => cases he
    | true =>
      have := boxArg_names (cs := cs) he m b hm
      cases v <;> first | exact this | (simp [Of, nameOf, cellNames] at this)
  | agg cs => cases he
  | deep e t => cases he
  | obj k => cases he
  | rbox cs => have := rboxGet_none (cs := cs) he; subst this; simp at hm
  | fn f caps =>
    change fnArg s n f caps v = some (y, p) at he
    cases v with
    | fn f' as =>
      simp only [fnArg] at he
      split at he
      · rename_i y' p' hy
        obtain ⟨_, he⟩ := cond_some he
        cases he
        exact capArgs_names hy m b hm
      · cases he
    | _ => simp [fnArg] at he
theorem shArgs_names' : ∀ {cs : List Sh} {n : Nat} {as : List AV} {x : STs cs} {p : List (Nat × Nat)}, shArgs s n cs as = some (x, p) → ∀ m b, (m, b) ∈ p → Of s (names as) b
  | [], _, [], _, p, he, m, b, hm => by
    simp only [shArgs, Option.some.injEq, Prod.mk.injEq] at he
    obtain ⟨_, rfl⟩ := he
    simp at hm
  | c :: cs, n, v :: as, x, p, he, m, b, hm => by
    simp only [shArgs] at he
    split at he
    · rename_i x1 p1 x2 p2 e1 e2
      cases he
      rcases List.mem_append.1 hm with hm | hm
      · exact (arg_names e1 m b hm).mono fun _ h => List.mem_append_left _ h
      · exact (shArgs_names' e2 m b hm).mono fun _ h => List.mem_append_right _ h
    · cases he
  | [], _, _ :: _, _, _, he, _, _, _ => by simp [shArgs] at he
  | _ :: _, _, [], _, _, he, _, _, _ => by simp [shArgs] at he
theorem shArgs_names {cs : List Sh} {n : Nat} {as : List AV} {x : STs cs} {p : List (Nat × Nat)} (he : shArgs s n cs (lendAV s cs as) = some (x, p)) : ∀ m b, (m, b) ∈ p → b ∈ allNames s as := fun m b hm => List.mem_append.2 ((shArgs_names' he m b hm).mono fun _ h => lend_names h)
theorem hasKey_ok {n : Nat} : ∀ {l : List (Nat × Blk)}, hasKey n l = false → ∀ y, (n, y) ∉ l
  | [], _, _ => by simp
  | q :: r, h, y => by
    simp only [hasKey, Bool.or_eq_false_iff] at h
    intro hm
    rcases List.mem_cons.1 hm with e | hm
    · have := h.1; rw [← e, Nat.beq_refl] at this; cases this
    · exact hasKey_ok h.2 y hm
theorem nodupK_ok : ∀ {l : List (Nat × Blk)}, nodupK l = true → ∀ {n : Nat} {y : Blk}, (n, y) ∈ l → hget l n = some y
  | q :: r, h, n, y, hm => by
    simp only [nodupK, Bool.and_eq_true, Bool.not_eq_true'] at h
    simp only [hget]
    rcases List.mem_cons.1 hm with e | hm
    · subst e; rw [Nat.beq_refl]; rfl
    · rw [beq_ne (fun e => hasKey_ok h.1 y (by rw [e]; exact hm))]
      exact nodupK_ok h.2 hm
theorem nub_nil {p : List (Nat × Nat)} (h : nub p = []) : p = [] := by
  cases p with
  | nil => rfl
  | cons q r =>
    have : q ∈ nub (q :: r) := mem_nub.2 (List.mem_cons_self ..)
    rw [h] at this; simp at this
theorem callCon_ok {α : Type} {xx : α} {K : St → AV → Option α} {c : Con} (hsound : c.Sound P X.G) (h : Sim X s a w g) {d : Nat} {as : List AV} {vs : List Value} (hr : RVs w g as vs) (he : callCon c d s as K = some xx) {N : Value → World → Prop}
    (hN : ∀ s' v cv w' g', K s' v = some xx → Sim X s' a w' g' → RV w' g' v cv → Chg d (allNames s as) w g w' g' → N cv w') : Calls P c.f vs.toArray w fun e w' => ∃ v, e = .returned v ∧ N v w' := by
  unfold callCon at he
  split at he
  · rename_i x p0 hargs
    replace he := chk_some he
    obtain ⟨hc, he⟩ := he
    have mn : ∀ n b, (n, b) ∈ nub p0 ↔ (n, b) ∈ p0 := fun n b => mem_nub
    have hnames := fun m b hm => shArgs_names hargs m b ((mn m b).1 hm)
    generalize hp : nub p0 = p at he hc mn hnames
    simp only [callOk, Bool.and_eq_true, Bool.or_eq_true] at hc
    obtain ⟨hu, hcov, hdj, hpr, hlk, hupk, hmain, hns⟩ := hc
    obtain ⟨⟨y, z⟩, hfn, he⟩ := Option.bind_eq_some_iff.1 he
    have hd := disjN_ok hdj
    have hl := lendAV_ok h (l := wants c.ps as) (p := p) (cs := c.ps) (fun b hb => hb) hr
    obtain ⟨q1, q2⟩ := args_ok h hl hargs ⟨fun k hk => .inl hk, fun n b hm => give_name hu n b ((mn n b).2 hm)⟩
    have q2' : Given w.heap.size w g (g.give (lentOk g (wants c.ps as)) p) p (shPuts PB c.ps x).2 := ⟨fun n y hm => by
      obtain ⟨e1, b, e2, e3⟩ := q2.1 n y hm
      exact ⟨e1, b, (mn n b).2 e2, e3⟩, fun n b hm => q2.2 n b ((mn n b).1 hm)⟩
    have hsim := h.give (l := wants c.ps as) hu hd q2' (covers_ok hcov) (env := envOf 0 (shPuts PB c.ps x).1) (envOf_rv q1)
    have hlen : vs.length = c.ps.length := by rw [hr.len, ← lendAV_len c.ps as, shArgs_len hargs]
    refine (hsound.2 x y z vs w _ _ _ hlen hsim hfn).mono ?_
    rintro e w' ⟨vs', g', rfl, hs', hres, hnm, hok, hblk⟩
    unfold backX at he
    simp only at he
    split at he
    · rename_i heap hset
      replace he := chk_some he
      obtain ⟨hfr, he⟩ := he
      simp only [Bool.and_eq_true] at hfr
      obtain ⟨hfr, hnd⟩ := hfr
      refine ⟨_, rfl, ?_⟩
      generalize hoff : 4096 * (d + 1) = off at he hfr hset
      have hpl : ∀ n b, (n, b) ∈ p → g.live b ∧ PB ≤ n ∧ n < RB := fun n b hb => ⟨q2'.2 n b hb, pRange_ok hpr n b hb⟩
      -- what lies there, in two lists
      have inn : ∀ m y', (m, y') ∈ (shPuts RB c.rs y).2 ++ mutPuts (muts PB c.ps) z ↔ (m, y') ∈ ((shPuts RB c.rs y).2 ++ mutRows 0 (muts PB c.ps) z) ++ mutKeep (muts PB c.ps) z := fun m y' => by
        simp only [List.mem_append, mutPuts_mem, or_assoc]
      have hs2 : Sim ⟨w.heap.size, lentOk g (wants c.ps as), mutOk g p, w, 0, X.G⟩ ⟨[], ((shPuts RB c.rs y).2 ++ mutRows 0 (muts PB c.ps) z) ++ mutKeep (muts PB c.ps) z⟩ ⟨#[], []⟩ w' g' := hs'.same fun n => by
        cases hq : hget ((shPuts RB c.rs y).2 ++ mutPuts (muts PB c.ps) z) n with
        | some y' => exact nodupK_ok hnd ((inn n y').1 (hget_mem hq))
        | none =>
          cases hq2 : hget (((shPuts RB c.rs y).2 ++ mutRows 0 (muts PB c.ps) z) ++ mutKeep (muts PB c.ps) z) n with
          | none => rfl
          | some y' => exact absurd ((inn n y').2 (hget_mem hq2)) (hget_none hq y')
      have hblk2 : ∀ n y', (n, y') ∈ ((shPuts RB c.rs y).2 ++ mutRows 0 (muts PB c.ps) z) ++ mutKeep (muts PB c.ps) z → BlkRel w.heap.size w' g' n y' ∧ g'.live n := fun n y' hm => hblk n y' ((inn n y').2 hm)
      have hRB : ∀ m y', (m, y') ∈ (shPuts RB c.rs y).2 ++ mutRows 0 (muts PB c.ps) z → RB ≤ m := fun m y' hm => by
        rcases List.mem_append.1 hm with hm | hm
        · exact shPuts_ge hm
        · exact mutRows_ge hm
      have Gkey : ∀ m y', (m, y') ∈ (shPuts RB c.rs y).2 ++ mutRows 0 (muts PB c.ps) z → (hget ((shPuts (RB + off) c.rs y).2 ++ mutRows off (muts PB c.ps) z) (m + off)).isSome = true := fun m y' hm => by
        rcases List.mem_append.1 hm with hm | hm
        · obtain ⟨y2, e⟩ := shs_keys (off := off) hm
          exact hget_some (List.mem_append_left _ e)
        · obtain ⟨y2, e⟩ := mutRows_keys (off := off) hm
          exact hget_some (List.mem_append_right _ e)
      -- the names that were given away
      have hk := h.killAll (l := goneP (muts PB c.ps) p)
      have kl : ∀ n, (g.less (goneP (muts PB c.ps) p)).live n ↔ g.live n ∧ ∀ m, (m, n) ∈ p → (m, n) ∈ keepP (muts PB c.ps) p := fun n => by
        show (g.live n ∧ n ∉ goneP (muts PB c.ps) p) ↔ _
        refine and_congr_right fun _ => ⟨fun hn m hm => keepP_mem.2 ⟨hm, ?_⟩, fun hn hg => ?_⟩
        · cases hq : hasM m (muts PB c.ps) with
          | true => rfl
          | false => exact absurd (goneP_mem.2 ⟨m, hm, hq⟩) hn
        · obtain ⟨m, hm, hq⟩ := goneP_mem.1 hg
          have := (keepP_mem.1 (hn m hm)).2
          rw [hq] at this; cases this
      have hpk2 : ∀ n b, (n, b) ∈ keepP (muts PB c.ps) p → (g.less (goneP (muts PB c.ps) p)).live b := fun n b hm => by
        obtain ⟨h1, h2⟩ := keepP_mem.1 hm
        refine ⟨(hpl n b h1).1, fun hg => ?_⟩
        obtain ⟨m, hm', hq⟩ := goneP_mem.1 hg
        have := (uniq0_ok hu n b m b h1 hm').2 rfl
        subst this
        rw [hq] at h2; cases h2
      generalize hG : (g.less (goneP (muts PB c.ps) p)).back g' w.heap.size off ((shPuts (RB + off) c.rs y).2 ++ mutRows off (muts PB c.ps) z) heap = G
      have Gval : ∀ m y', (m, y') ∈ (shPuts RB c.rs y).2 ++ mutRows 0 (muts PB c.ps) z → G.live (m + off) ∧ G.val (m + off) = g'.val m ∧ G.inn (m + off) = g'.inn m := fun m y' hm => by
        have hk := Gkey m y' hm
        rw [← hG]
        refine ⟨?_, ?_, ?_⟩
        · show (hget (_ ++ heap) (m + off)).isSome = true
          rw [hget_app]
          obtain ⟨y2, e2⟩ := Option.isSome_iff_exists.1 hk
          rw [e2]; rfl
        · show (if (hget _ (m + off)).isSome = true then g'.val (m + off - off) else g.val (m + off)) = g'.val m
          rw [if_pos hk, Nat.add_sub_cancel]
        · show (if (hget _ (m + off)).isSome = true then g'.inn (m + off - off) else g.inn (m + off)) = g'.inn m
          rw [if_pos hk, Nat.add_sub_cancel]
      have okc : (allFlat c.rs && allMflat (muts PB c.ps)) = true ∨ ∀ k, g'.ok k → G.ok k := by
        rcases hlk with hlk | hlk
        · exact .inl (by simpa using hlk)
        · right
          intro k hk
          have hw : wants c.ps as = [] := by
            cases hw : wants c.ps as with
            | nil => rfl
            | cons _ _ => rw [hw] at hlk; cases hlk
          rw [← hG]
          rcases Nat.lt_or_ge k w.heap.size with hlt | hge
          · have := (hs'.ok k hk).2 hlt
            rw [hw] at this
            rcases this with this | ⟨b, hb, _⟩
            · exact .inl this
            · simp at hb
          · exact .inr ⟨hge, hk⟩
      have okR : allFlat c.rs = true ∨ ∀ k, g'.ok k → G.ok k := okc.imp_left fun e => by simp only [Bool.and_eq_true] at e; exact e.1
      have okM : allMflat (muts PB c.ps) = true ∨ ∀ k, g'.ok k → G.ok k := okc.imp_left fun e => by simp only [Bool.and_eq_true] at e; exact e.2
      obtain ⟨r1, r2⟩ := shs_shift (B := w.heap.size) (B' := X.B) h.base hns (⟨okR, fun m y' hm => Gval m y' (List.mem_append_left _ hm)⟩ : Shift w' g' G off (allFlat c.rs) (shPuts RB c.rs y).2) hres
      have r3 : Moved w.heap.size X.B w' g' G off (mutRows 0 (muts PB c.ps) z) (mutRows off (muts PB c.ps) z) := rows_moved h.base ⟨okM, fun m y' hm => Gval m y' (List.mem_append_right _ hm)⟩
      have hpgk : ∀ n b, (n, b) ∈ keepP (muts PB c.ps) p → g'.live n → g'.val n = g.val b := fun n b hb hl => by
        obtain ⟨h1, _⟩ := keepP_mem.1 hb
        obtain ⟨_, h2, h3⟩ := hpl n b h1
        exact (hnm n h2 h3 (pMain_ok hmain n b hb) hl).2.trans (give_name hu n b h1).2.1
      have AF := h.after (l := wants c.ps as) (off := off) (pk := keepP (muts PB c.ps) p) (R := (shPuts RB c.rs y).2 ++ mutRows 0 (muts PB c.ps) z) (R' := (shPuts (RB + off) c.rs y).2 ++ mutRows off (muts PB c.ps) z) (mu := mutKeep (muts PB c.ps) z) (mu' := mutBack (keepP (muts PB c.ps) p) off (muts PB c.ps) z) (heap := heap) hupk hpl hk kl rfl rfl rfl (fun q hq => (keepP_mem.1 hq).1) hpk2 hs2 hpgk hblk2 hset (fun n y' hy' => by
        obtain ⟨c', x', e1, e2, _⟩ := mut_back hy'
        exact ⟨_, e1, by rw [e2]; cases c' <;> rfl⟩) hfr hRB (fun m y' y2 hm h2 => by
        rw [nodupK_ok hnd (List.mem_append_left _ hm)] at h2
        cases h2; rfl) (fun n b y' y0 z' hpk hy' hy0 hz hgl hv1 hv2 => by
        rw [hG] at hgl hv1 ⊢
        obtain ⟨c', x', e1, e2, e3, e4⟩ := mut_back hy'
        have hbr := (hblk2 n _ (List.mem_append_right _ (hget_mem e1))).1
        have hb0 := hk.blk b y0 hy0
        have hfl : c'.flat = true ∨ ∀ k, g'.ok k → G.ok k := okM.imp_left e3
        subst e2
        cases c' with
        | own e t =>
          cases y0 with
          | box pin0 _ => cases hz
          | deep _ _ _ => cases hz
          | obj _ _ => cases hz
          | row pin0 e0 t0 l0 =>
            cases hz
            obtain ⟨inner, ⟨o1, o2⟩, hreps⟩ := hbr
            obtain ⟨inner0, ⟨_, p2⟩, _⟩ := hb0
            have p2 : (g.val b = .slice none 0 0 ∧ l0.length = 0) ∨ _ := p2
            refine ⟨inner, ⟨o1, ?_⟩, ?_⟩
            · rw [hv1]
              rcases o2 with o2 | ⟨k, cap, cur, w1, w2, w3⟩
              · exact .inl o2
              · refine .inr ⟨k, cap, cur, w1, ?_, w3⟩
                rw [← hv2, w1] at p2
                rcases p2 with ⟨p2, _⟩ | ⟨k2, cap2, cur2, p2, p3, _⟩
                · cases p2
                · have p2' : Value.slice (some ⟨k, 0, none⟩) _ cap = Value.slice (some ⟨k2, 0, none⟩) _ cap2 := w1.symm.trans (hv2.trans p2)
                  simp only [Value.slice.injEq, Option.some.injEq, Addr.mk.injEq] at p2'
                  rw [p2'.1.1]; exact p3
            · rcases hfl with hf | hk
              · exact hreps.flat hf
              · exact hreps.move (fun k h _ => ⟨rfl, hk k h⟩)
        | box cs =>
          cases y0 with
          | row pin0 _ _ _ => cases hz
          | deep _ _ _ => cases hz
          | obj _ _ => cases hz
          | box pin0 cs0 =>
            cases hz
            obtain ⟨k, cells, e, w1, w2, w3, w4⟩ := hbr
            obtain ⟨k2, cells2, e2', p1, p2, _⟩ := hb0
            have p1 : g.val b = .pointer (some ⟨k2, 0, none⟩) := p1
            refine ⟨k, cells, e, by rw [hv1]; exact w1, ?_, w3, cks_back (fun n' b' hm' => ?_) hfl (fun m y2 hm2 => ?_) w4⟩
            · rw [← hv2, w1] at p1
              cases p1; exact p2
            · have hgl' := hpk2 n' b' hm'
              obtain ⟨y3, y4, z3, q1, q2, q3, q4⟩ := (mutSet_ok hupk hset).1 n' b' hm'
              obtain ⟨c3, x3, q5, _⟩ := mut_back q1
              have hl3 := (hblk2 n' _ (List.mem_append_right _ (hget_mem q5))).2
              rw [← hG]
              refine ⟨?_, ?_⟩
              · show (hget (_ ++ heap) b').isSome = true
                rw [hget_app]
                cases hq : hget ((shPuts (RB + off) c.rs y).2 ++ mutRows off (muts PB c.ps) z) b' with
                | some _ => rfl
                | none => simp only [q4]; rfl
              · show (if (hget _ b').isSome = true then g'.val (b' - off) else g.val b') = g'.val n'
                have : hget ((shPuts (RB + off) c.rs y).2 ++ mutRows off (muts PB c.ps) z) b' = none := by
                  cases hq : hget ((shPuts (RB + off) c.rs y).2 ++ mutRows off (muts PB c.ps) z) b' with
                  | none => rfl
                  | some y5 =>
                    have h1 := (allFresh_ok hfr b' y5 (hget_mem hq)).1
                    have h2 := (h.live b').1 hgl'.1
                    rw [h1] at h2; cases h2
                rw [if_neg (by rw [this]; simp), hpgk n' b' hm' hl3]
            · have := Gval m y2 (List.mem_append_right _ (e4 m y2 (in_rows0 hm2)))
              exact ⟨this.1, this.2.1⟩) (by rw [hG]; exact r2.app r3)
      rw [hG] at AF
      obtain ⟨S, o1, n1, l1, nb⟩ := AF
      have fin : Sim X ⟨(killAll s (goneP (muts PB c.ps) p)).env, (bif allFalse s (goneP (muts PB c.ps) p) then unpin ((shPuts (RB + off) c.rs y).2 ++ mutRows off (muts PB c.ps) z) else (shPuts (RB + off) c.rs y).2 ++ mutRows off (muts PB c.ps) z) ++ heap⟩ a w' G := by
        cases hf : allFalse s (goneP (muts PB c.ps) p) with
        | false => exact S
        | true =>
          refine S.unpin fun n y' hm k hk => ?_
          obtain ⟨m, y2, e1, e2, _⟩ := (r2.app r3).1 n y' hm
          obtain ⟨_, v1, v2⟩ := Gval m y2 e2
          rw [e1] at hk
          have hk' := (has_same v1 v2 (k := k)).1 hk
          rcases nb m k (hRB m y2 e2) (hblk2 m y2 (List.mem_append_left _ e2)).2 hk' with hge | ⟨n1, b1, hp1, hnp, hb1⟩
          · exact Nat.le_trans h.base hge
          · have hg1 : b1 ∈ goneP (muts PB c.ps) p := goneP_mem.2 ⟨n1, hp1, by
              cases hq : hasM n1 (muts PB c.ps) with
              | false => rfl
              | true => exact absurd (keepP_mem.2 ⟨hp1, hq⟩) hnp⟩
            obtain ⟨e3, t3, l3, hq⟩ := allFalse_ok hf b1 hg1
            have hv := flat_has h hq rfl hb1
            obtain ⟨inner, ⟨_, o2⟩, _⟩ := h.blk b1 _ hq
            rcases o2 with ⟨o2, _⟩ | ⟨k3, cap, cur, o2, o3, _⟩
            · rw [o2] at hv; cases hv
            · rw [o2] at hv; cases hv; exact o3
      refine hN _ _ _ _ _ he fin (resOf_rv r1) ⟨o1, fun n h2 _ hl => ⟨(n1 n h2 hl).1, (n1 n h2 hl).2.1, fun _ => (n1 n h2 hl).2.2⟩, fun n k hn hln hkn => ⟨?_, .inr (l1 n ((kl n).2 ⟨hln, fun m hm => absurd (hnames m n hm) hn⟩))⟩⟩
      refine hs'.kept.block k (h.own n k hln hkn).1 fun ⟨m, b, hb, e⟩ => hn ?_
      rw [h.disj n b k hln (hpl m b hb).1 hkn e]
      exact hnames m b hb
    · cases he
  · cases he
end
/-! ### The table -/
def fnKeys : List AV → List Nat
  | [] => []
  | .fn f _ :: r => f :: fnKeys r
  | _ :: r => fnKeys r
def shKeys : List Sh → List Nat
  | [] => []
  | .fn f _ :: r => f :: shKeys r
  | _ :: r => shKeys r
def eqNats : List Nat → List Nat → Bool
  | [], [] => true
  | a :: x, b :: y => Nat.beq a b && eqNats x y
  | _, _ => false
def findCon (f : Nat) (ks : List Nat) : List Con → Option Con
  | [] => none
  | c :: r => bif Nat.beq c.f f && eqNats (shKeys c.ps) ks then some c else findCon f ks r
def hasPin : List CK → Bool
  | [] => false
  | .pin _ _ :: _ => true
  | _ :: r => hasPin r
/-- Lent boxes that are to hold own rows. -/
def capCells : List Cap → List AV → List (List CK × Nat)
  | .m true cs :: r, .ptr b 0 :: as => bif hasPin cs then (cs, b) :: capCells r as else capCells r as
  | _ :: r, _ :: as => capCells r as
  | _, _ => []
def argCells : List Sh → List AV → List (List CK × Nat)
  | .box true cs :: r, .ptr b 0 :: as => bif hasPin cs then (cs, b) :: argCells r as else argCells r as
  | .fn _ caps :: r, .fn _ cas :: as => capCells caps cas ++ argCells r as
  | _ :: r, _ :: as => argCells r as
  | _, _ => []
def NBC : Nat := 40000000
/-- Nil slices in them get names. -/
def nilBoxes (s : St) : Nat → List (List CK × Nat) → Option St
  | _, [] => some s
  | n, q :: r => match hget s.heap q.2 with
    | some (.box pin as) => chk (Nat.ble RB n) (match nilCells s n q.1 as with
      | some (s, as) => nilBoxes ⟨s.env, (q.2, .box pin as) :: hdel s.heap q.2⟩ (n + 64) r
      | none => none)
    | _ => none
/-- Own rows in lent boxes that are to be values. -/
def boxWants (s : St) (cs : List CK) (b : Nat) : List Nat := match hget s.heap b with
  | some (.box _ as) => ckWants cs as
  | _ => []
def capWants (s : St) : List Cap → List AV → List Nat
  | .m _ cs :: r, .ptr b 0 :: as => boxWants s cs b ++ capWants s r as
  | _ :: r, _ :: as => capWants s r as
  | _, _ => []
def cellWants (s : St) : List Sh → List AV → List Nat
  | .box _ cs :: r, .ptr b 0 :: as => boxWants s cs b ++ cellWants s r as
  | .fn _ caps :: r, .fn _ cas :: as => capWants s caps cas ++ cellWants s r as
  | _ :: r, _ :: as => cellWants s r as
  | _, _ => []
/-- Boxes that are to be written no more, rows that are to be values. -/
def lendPrep (s : St) (ps : List Sh) (as : List AV) : Option St := match frzBoxes s (argBoxes ps as) with
  | some s => frzNames s (cellWants s ps as)
  | none => none
/-- Calls are met by a table of contracts. -/
def callT (T : List Con) : Caller := fun d s c _ K => match c.callee with
  | .value f => match callAs s f c.args.toList with
    | some (i, as) => match findCon i (fnKeys as) T with
      | some con => match lendPrep s con.ps as with
        | some s0 => match callAs s0 f c.args.toList with
          | some (i0, as0) => bif Nat.beq i0 i then (bif allFlat con.rs && allMflat (muts PB con.ps) then (match nilBoxes s0 NBC (argCells con.ps as0) with
              | some s2 => callCon con d s2 as0 K
              | none => none) else
            match frzNames s0 (wants con.ps as0) with
            | some s1 => match callAs s1 f c.args.toList with
              | some (i', as') => bif Nat.beq i' i then (match nilBoxes s1 NBC (argCells con.ps as') with
                | some s2 => callCon con d s2 as' K
                | none => none) else none
              | none => none
            | none => none) else none
          | none => none
        | none => none
      | none => none
    | none => none
  | _ => none
def TableOk (P : Program) (T : List Con) (G : List Nat := []) : Prop := ∀ c ∈ T, c.Sound P G
section
variable {P : Program} {X : Cx} {C : Caller} {s : St} {a : Act} {w w' : World} {g g0 g' : Gh}
/-- What boxes hold comes from elder boxes. -/
def BoxLe (s s' : St) : Prop := ∀ n pin cs, hget s'.heap n = some (.box pin cs) → ∃ pin0 cs0, hget s.heap n = some (.box pin0 cs0) ∧ ∀ x ∈ names cs, x ∈ names cs0
theorem BoxLe.refl : BoxLe s s := fun _ _ cs h => ⟨_, cs, h, fun _ h => h⟩
theorem BoxLe.trans {s1 s2 : St} (h : BoxLe s s1) (h' : BoxLe s1 s2) : BoxLe s s2 := fun n pin cs hn => by
  obtain ⟨p1, c1, h1, h2⟩ := h' n pin cs hn
  obtain ⟨p2, c2, h3, h4⟩ := h n p1 c1 h1
  exact ⟨p2, c2, h3, fun x hx => h4 x (h2 x hx)⟩
theorem BoxLe.all {s1 : St} {as as' : List AV} (h : BoxLe s s1) (hn : ∀ n ∈ names as', n ∈ names as) : ∀ x ∈ allNames s1 as', x ∈ allNames s as := fun x hx => by
  rcases List.mem_append.1 hx with hx | hx
  · exact List.mem_append_left _ (hn x hx)
  · obtain ⟨n, h1, pin, cs, h2, h3⟩ := mem_cellNames.1 hx
    obtain ⟨p0, c0, h4, h5⟩ := h n pin cs h2
    exact List.mem_append_right _ (mem_cellNames.2 ⟨n, hn n h1, p0, c0, h4, h5 x h3⟩)
theorem findCon_mem : ∀ {T : List Con} {f : Nat} {ks : List Nat} {c : Con}, findCon f ks T = some c → c ∈ T ∧ c.f = f
  | [], _, _, _, h => by cases h
  | c' :: T, f, ks, c, h => by
    simp only [findCon] at h
    cases hb : (Nat.beq c'.f f && eqNats (shKeys c'.ps) ks) with
    | true =>
      rw [hb] at h
      cases h
      simp only [Bool.and_eq_true] at hb
      exact ⟨List.mem_cons_self .., Nat.eq_of_beq_eq_true hb.1⟩
    | false =>
      rw [hb] at h
      obtain ⟨h1, h2⟩ := findCon_mem h
      exact ⟨List.mem_cons_of_mem _ h1, h2⟩
theorem callAs_ok (h : Sim X s a w g) {f : Operand} {args : List Operand} {i : Nat} {as : List AV} (he : callAs s f args = some (i, as)) : ∃ caps : List Value, a.eval f = .func (.func i) #[] caps.toArray ∧ RVs w g as (args.map a.eval ++ caps) := by
  unfold callAs at he
  have hf := h.opd f
  split at he
  · rename_i i' cs hv
    cases he
    rw [hv] at hf
    obtain ⟨caps, h1, h2⟩ := hf
    exact ⟨caps, h1, (opds_rv h args).app h2⟩
  · cases he
theorem opd_kill (s : St) (b : Nat) (r : AV) (y : Operand) : opd (s.kill b r) y = AV.sub b r (opd s y) := by
  cases y with
  | tmp t => exact get_subEnv b r t s.env
  | const v =>
    show ofVal v = AV.sub b r (ofVal v)
    unfold ofVal
    split <;> rfl
  | func f => rfl
  | global g => rfl
theorem opds_kill (s : St) (b : Nat) (r : AV) : ∀ ys : List Operand, opds (s.kill b r) ys = AV.subs b r (opds s ys)
  | [] => rfl
  | y :: ys => by simp only [opds, AV.subs, opd_kill, opds_kill s b r ys]
theorem subs_app (b : Nat) (r : AV) : ∀ as bs : List AV, AV.subs b r (as ++ bs) = AV.subs b r as ++ AV.subs b r bs
  | [], _ => rfl
  | a :: as, bs => by simp only [List.cons_append, AV.subs, subs_app b r as bs]
theorem callAs_kill {b : Nat} {r : AV} {f : Operand} {args : List Operand} {i : Nat} {as : List AV} (he : callAs s f args = some (i, as)) : callAs (s.kill b r) f args = some (i, AV.subs b r as) := by
  unfold callAs at he ⊢
  rw [opd_kill]
  split at he
  · rename_i i' caps hv
    cases he
    rw [hv]
    simp only [AV.sub, opds_kill, subs_app]
  · cases he
theorem nameOf_sub {b : Nat} {e : Nat} {t : Ty} {l : List t.T} : ∀ {v : AV}, ∀ n ∈ nameOf (AV.sub b (.row e t l) v), n ∈ nameOf v := by
  intro v n hn
  cases v <;> simp only [AV.sub] at hn <;> first | exact hn | skip
  all_goals
    revert hn
    generalize Nat.beq _ b = q
    intro hn
    cases q <;> first | exact hn | simp [nameOf] at hn
theorem names0_subs {b : Nat} {e : Nat} {t : Ty} {l : List t.T} : ∀ {as : List AV}, ∀ n ∈ names0 (AV.subs b (.row e t l) as), n ∈ names0 as
  | [], n, hn => hn
  | v :: as, n, hn => by
    simp only [AV.subs, names0] at hn ⊢
    rcases List.mem_append.1 hn with hn | hn
    · exact List.mem_append_left _ (nameOf_sub n hn)
    · exact List.mem_append_right _ (names0_subs n hn)
theorem names_subs {b : Nat} {e : Nat} {t : Ty} {l : List t.T} : ∀ {as : List AV}, ∀ n ∈ names (AV.subs b (.row e t l) as), n ∈ names as
  | [], n, hn => hn
  | v :: as, n, hn => by
    simp only [AV.subs, names] at hn ⊢
    rcases List.mem_append.1 hn with hn | hn
    · refine List.mem_append_left _ ?_
      cases v with
      | fn f caps => exact names0_subs n hn
      | _ =>
        have : ∀ v : AV, (∀ f caps, v ≠ .fn f caps) → argNames v = nameOf v := fun v hv => by cases v <;> first | rfl | exact absurd rfl (hv _ _)
        rw [this _ (fun _ _ e => by cases e)]
        refine nameOf_sub (b := b) (e := e) (t := t) (l := l) n ?_
        rwa [this _ (fun f caps e' => by simp only [AV.sub] at e'; first | cases e' | (revert e'; generalize Nat.beq _ b = q; intro e'; cases q <;> cases e'))] at hn
    · exact List.mem_append_right _ (names_subs n hn)
theorem opd_thaw (s : St) (b : Nat) (r : AV) (F : List Int → AV) (y : Operand) : opd (s.thaw b r F) y = AV.thaw b r F (opd s y) := by
  cases y with
  | tmp t => exact get_thawEnv b r F t s.env
  | const v =>
    show ofVal v = AV.thaw b r F (ofVal v)
    unfold ofVal
    split <;> rfl
  | func f => rfl
  | global g => rfl
theorem opds_thaw (s : St) (b : Nat) (r : AV) (F : List Int → AV) : ∀ ys : List Operand, opds (s.thaw b r F) ys = AV.thaws b r F (opds s ys)
  | [] => rfl
  | y :: ys => by simp only [opds, AV.thaws, opd_thaw, opds_thaw s b r F ys]
theorem thaws_app (b : Nat) (r : AV) (F : List Int → AV) : ∀ as bs : List AV, AV.thaws b r F (as ++ bs) = AV.thaws b r F as ++ AV.thaws b r F bs
  | [], _ => rfl
  | a :: as, bs => by simp only [List.cons_append, AV.thaws, thaws_app b r F as bs]
theorem callAs_thaw {b : Nat} {r : AV} {F : List Int → AV} {f : Operand} {args : List Operand} {i : Nat} {as : List AV} (he : callAs s f args = some (i, as)) : callAs (s.thaw b r F) f args = some (i, AV.thaws b r F as) := by
  unfold callAs at he ⊢
  rw [opd_thaw]
  split at he
  · rename_i i' caps hv
    cases he
    rw [hv]
    simp only [AV.thaw, opds_thaw, thaws_app]
  · cases he
theorem nameOf_inn {t : Ty} {l : List t.T} {p : List Int} : nameOf (innD t l p) = [] := by
  unfold innD; split <;> rfl
theorem nameOf_thaw {b : Nat} {e : Nat} {t : Ty} {l : List t.T} {v : AV} : ∀ n ∈ nameOf (AV.thaw b (.row e t l) (innD t l) v), n ∈ nameOf v := by
  intro n hn
  cases v <;> simp only [AV.thaw] at hn <;> first | exact hn | skip
  all_goals
    revert hn
    generalize Nat.beq _ b = q
    intro hn
    cases q <;> first | exact hn | (simp [nameOf] at hn; done) | (rw [show (bif true then innD t l _ else _) = innD t l _ from rfl, nameOf_inn] at hn; simp at hn)
theorem names0_thaw {b : Nat} {e : Nat} {t : Ty} {l : List t.T} : ∀ {as : List AV}, ∀ n ∈ names0 (AV.thaws b (.row e t l) (innD t l) as), n ∈ names0 as
  | [], n, hn => hn
  | v :: as, n, hn => by
    simp only [AV.thaws, names0] at hn ⊢
    rcases List.mem_append.1 hn with hn | hn
    · exact List.mem_append_left _ (nameOf_thaw n hn)
    · exact List.mem_append_right _ (names0_thaw n hn)
theorem argNames_inn {t : Ty} {l : List t.T} {p : List Int} : argNames (innD t l p) = [] := by
  unfold innD; split <;> rfl
theorem names_thaw {b : Nat} {e : Nat} {t : Ty} {l : List t.T} : ∀ {as : List AV}, ∀ n ∈ names (AV.thaws b (.row e t l) (innD t l) as), n ∈ names as
  | [], n, hn => hn
  | v :: as, n, hn => by
    simp only [AV.thaws, names] at hn ⊢
    rcases List.mem_append.1 hn with hn | hn
    · refine List.mem_append_left _ ?_
      cases v <;> simp only [AV.thaw] at hn <;> first | exact hn | exact names0_thaw n hn | skip
      all_goals
        revert hn
        generalize Nat.beq _ b = q
        intro hn
        cases q <;> first | exact hn | (simp [argNames, nameOf] at hn; done) | (rw [show (bif true then innD t l _ else _) = innD t l _ from rfl, argNames_inn] at hn; simp at hn)
    · exact List.mem_append_right _ (names_thaw n hn)
theorem frz_names : ∀ {l : List Nat} {s s1 : St} {f : Operand} {args : List Operand} {i i' : Nat} {as as' : List AV}, frzNames s l = some s1 → callAs s f args = some (i, as) → callAs s1 f args = some (i', as') → ∀ n ∈ names as', n ∈ names as
  | [], s, s1, f, args, i, i', as, as', hz, h1, h2, n, hn => by
    cases hz
    rw [h1] at h2; cases h2; exact hn
  | b :: l, s, s1, f, args, i, i', as, as', hz, h1, h2, n, hn => by
    simp only [frzNames] at hz
    split at hz
    · exact names_subs n (frz_names hz (callAs_kill h1) h2 n hn)
    · exact names_thaw n (frz_names hz (callAs_thaw h1) h2 n hn)
    · exact frz_names hz h1 h2 n hn
    · cases hz
theorem Chg.weak {d : Nat} {T T' : List Nat} (hT : ∀ n ∈ T, n ∈ T') (h : Chg d T w g w' g') : Chg d T' w g w' g' := ⟨h.ok, fun n h1 h2 hl => ⟨(h.nm n h1 h2 hl).1, (h.nm n h1 h2 hl).2.1, fun hn => (h.nm n h1 h2 hl).2.2 fun h3 => hn (hT n h3)⟩, fun n k hn => h.un n k fun h3 => hn (hT n h3)⟩
theorem opd_unbox (s : St) (b : Nat) (cs : List AV) (y : Operand) : opd ⟨unboxEnv b cs s.env, unboxHeap b cs s.heap⟩ y = AV.unbox b cs (opd s y) := by
  cases y with
  | tmp t => exact get_unboxEnv b cs t s.env
  | const v =>
    show ofVal v = AV.unbox b cs (ofVal v)
    unfold ofVal
    split <;> rfl
  | func f => rfl
  | global g => rfl
theorem opds_unbox (s : St) (b : Nat) (cs : List AV) : ∀ ys : List Operand, opds ⟨unboxEnv b cs s.env, unboxHeap b cs s.heap⟩ ys = AV.unboxs b cs (opds s ys)
  | [] => rfl
  | y :: ys => by simp only [opds, AV.unboxs, opd_unbox, opds_unbox s b cs ys]
theorem unboxs_app (b : Nat) (cs : List AV) : ∀ as bs : List AV, AV.unboxs b cs (as ++ bs) = AV.unboxs b cs as ++ AV.unboxs b cs bs
  | [], _ => rfl
  | a :: as, bs => by simp only [List.cons_append, AV.unboxs, unboxs_app b cs as bs]
theorem callAs_unbox {b : Nat} {cs : List AV} {f : Operand} {args : List Operand} {i : Nat} {as : List AV} (he : callAs s f args = some (i, as)) : callAs ⟨unboxEnv b cs s.env, unboxHeap b cs s.heap⟩ f args = some (i, AV.unboxs b cs as) := by
  unfold callAs at he ⊢
  rw [opd_unbox]
  split at he
  · rename_i i' caps hv
    cases he
    rw [hv]
    simp only [AV.unbox, opds_unbox, unboxs_app]
  · cases he
theorem nameOf_unbox {b : Nat} {cs : List AV} : ∀ {v : AV}, ∀ n ∈ nameOf (AV.unbox b cs v), n ∈ nameOf v := by
  intro v n hn
  cases v <;> simp only [AV.unbox] at hn <;> first | exact hn | skip
  all_goals
    revert hn
    generalize Nat.beq _ b = q
    intro hn
    cases q <;> first | exact hn | simp [nameOf] at hn
theorem names0_unbox {b : Nat} {cs : List AV} : ∀ {as : List AV}, ∀ n ∈ names0 (AV.unboxs b cs as), n ∈ names0 as
  | [], n, hn => hn
  | v :: as, n, hn => by
    simp only [AV.unboxs, names0] at hn ⊢
    rcases List.mem_append.1 hn with hn | hn
    · exact List.mem_append_left _ (nameOf_unbox n hn)
    · exact List.mem_append_right _ (names0_unbox n hn)
theorem names_unbox {b : Nat} {cs : List AV} : ∀ {as : List AV}, ∀ n ∈ names (AV.unboxs b cs as), n ∈ names as
  | [], n, hn => hn
  | v :: as, n, hn => by
    simp only [AV.unboxs, names] at hn ⊢
    rcases List.mem_append.1 hn with hn | hn
    · refine List.mem_append_left _ ?_
      cases v with
      | fn f caps => exact names0_unbox n hn
      | _ =>
        have : ∀ v : AV, (∀ f caps, v ≠ .fn f caps) → argNames v = nameOf v := fun v hv => by cases v <;> first | rfl | exact absurd rfl (hv _ _)
        rw [this _ (fun _ _ e => by cases e)]
        refine nameOf_unbox (b := b) (cs := cs) n ?_
        rwa [this _ (fun f caps e' => by simp only [AV.unbox] at e'; first | cases e' | (revert e'; generalize Nat.beq _ b = q; intro e'; cases q <;> cases e'))] at hn
    · exact List.mem_append_right _ (names_unbox n hn)
theorem frzB_names : ∀ {l : List Nat} {s s1 : St} {f : Operand} {args : List Operand} {i i' : Nat} {as as' : List AV}, frzBoxes s l = some s1 → callAs s f args = some (i, as) → callAs s1 f args = some (i', as') → ∀ n ∈ names as', n ∈ names as
  | [], s, s1, f, args, i, i', as, as', hz, h1, h2, n, hn => by
    cases hz
    rw [h1] at h2; cases h2; exact hn
  | b :: l, s, s1, f, args, i, i', as, as', hz, h1, h2, n, hn => by
    simp only [frzBoxes] at hz
    split at hz
    · replace hz := cond_some hz
      exact names_unbox n (frzB_names hz.2 (callAs_unbox h1) h2 n hn)
    · exact frzB_names hz h1 h2 n hn
    · cases hz
theorem kill_boxLe {b e : Nat} {t : Ty} {l : List t.T} : BoxLe s (s.kill b (.row e t l)) := fun n pin cs hn => by
  change hget (subHeap b _ s.heap) n = _ at hn
  rw [hget_subHeap] at hn
  by_cases e : n = b
  · simp [e] at hn
  · rw [if_neg e] at hn
    cases hy : hget s.heap n with
    | none => rw [hy] at hn; cases hn
    | some y =>
      rw [hy] at hn
      cases y with
      | box p0 c0 =>
        simp only [Option.map_some, Blk.sub, Option.some.injEq, Blk.box.injEq] at hn
        obtain ⟨_, rfl⟩ := hn
        exact ⟨p0, c0, rfl, fun x hx => names_subs x hx⟩
      | row _ _ _ _ => cases hn
      | deep _ _ _ => cases hn
      | obj _ _ => cases hn
theorem thaw_boxLe {b e : Nat} {t : Ty} {l : List t.T} : BoxLe s (s.thaw b (.row e t l) (innD t l)) := fun n pin cs hn => by
  change hget (thawHeap b _ _ s.heap) n = _ at hn
  rw [hget_thawHeap] at hn
  by_cases e : n = b
  · simp [e] at hn
  · rw [if_neg e] at hn
    cases hy : hget s.heap n with
    | none => rw [hy] at hn; cases hn
    | some y =>
      rw [hy] at hn
      cases y with
      | box p0 c0 =>
        simp only [Option.map_some, Blk.thaw, Option.some.injEq, Blk.box.injEq] at hn
        obtain ⟨_, rfl⟩ := hn
        exact ⟨p0, c0, rfl, fun x hx => names_thaw x hx⟩
      | row _ _ _ _ => cases hn
      | deep _ _ _ => cases hn
      | obj _ _ => cases hn
theorem unbox_boxLe {b : Nat} {cs' : List AV} : BoxLe s ⟨unboxEnv b cs' s.env, unboxHeap b cs' s.heap⟩ := fun n pin cs hn => by
  change hget (unboxHeap b _ s.heap) n = _ at hn
  rw [hget_unboxHeap] at hn
  by_cases e : n = b
  · simp [e] at hn
  · rw [if_neg e] at hn
    cases hy : hget s.heap n with
    | none => rw [hy] at hn; cases hn
    | some y =>
      rw [hy] at hn
      cases y with
      | box p0 c0 =>
        simp only [Option.map_some, Blk.unbox, Option.some.injEq, Blk.box.injEq] at hn
        obtain ⟨_, rfl⟩ := hn
        exact ⟨p0, c0, rfl, fun x hx => names_unbox x hx⟩
      | row _ _ _ _ => cases hn
      | deep _ _ _ => cases hn
      | obj _ _ => cases hn
theorem frz_boxLe : ∀ {l : List Nat} {s s1 : St}, frzNames s l = some s1 → BoxLe s s1
  | [], s, s1, h => by cases h; exact .refl
  | b :: l, s, s1, h => by
    simp only [frzNames] at h
    split at h
    · exact kill_boxLe.trans (frz_boxLe h)
    · exact thaw_boxLe.trans (frz_boxLe h)
    · exact frz_boxLe h
    · cases h
theorem frzB_boxLe : ∀ {l : List Nat} {s s1 : St}, frzBoxes s l = some s1 → BoxLe s s1
  | [], s, s1, h => by cases h; exact .refl
  | b :: l, s, s1, h => by
    simp only [frzBoxes] at h
    split at h
    · exact unbox_boxLe.trans (frzB_boxLe (cond_some h).2)
    · exact frzB_boxLe h
    · cases h
/-- What boxes hold comes from elder boxes, or is new. -/
def BoxNew (s : St) (g : Gh) (s' : St) : Prop := ∀ n pin cs, hget s'.heap n = some (.box pin cs) → ∃ pin0 cs0, hget s.heap n = some (.box pin0 cs0) ∧ ∀ x ∈ names cs, x ∈ names cs0 ∨ ¬ g.live x
theorem nilName_back {n e : Nat} {t : Ty} {s' : St} (he : nilName s n e t = some s') : hget s.heap n = none ∧ ∀ m pin cs, hget s'.heap m = some (.box pin cs) → hget s.heap m = some (.box pin cs) := by
  unfold nilName at he
  split at he
  · rename_i hd
    cases he
    refine ⟨hd, fun m pin cs hm => ?_⟩
    rw [hget_cons] at hm
    split at hm
    · cases hm
    · exact hm
  · cases he
theorem nilCells_back : ∀ {cs : List CK} {n : Nat} {as : List AV} {s s' : St} {as' : List AV}, nilCells s n cs as = some (s', as') → (∀ m pin c, hget s'.heap m = some (.box pin c) → hget s.heap m = some (.box pin c)) ∧ (∀ m x, hget s.heap m = some x → hget s'.heap m = some x) ∧ ∀ x ∈ names as', x ∈ names as ∨ hget s.heap x = none := by
  intro cs
  induction cs with
  | nil =>
    intro n as s s' as' he
    have : nilCells s n [] as = some (s, as) := by cases as <;> rfl
    rw [this] at he; cases he
    exact ⟨fun _ _ _ h => h, fun _ _ h => h, fun _ h => .inl h⟩
  | cons c cs ih =>
    intro n as s s' as' he
    cases as with
    | nil =>
      have : nilCells s n (c :: cs) [] = some (s, []) := by cases c <;> rfl
      rw [this] at he; cases he
      exact ⟨fun _ _ _ h => h, fun _ _ h => h, fun _ h => .inl h⟩
    | cons v as =>
      have other : (match nilCells s (n + 1) cs as with
        | some (s, as) => some (s, v :: as)
        | none => none) = some (s', as') → (∀ m pin c, hget s'.heap m = some (.box pin c) → hget s.heap m = some (.box pin c)) ∧ (∀ m x, hget s.heap m = some x → hget s'.heap m = some x) ∧ ∀ x ∈ names as', x ∈ names (v :: as) ∨ hget s.heap x = none := fun he => by
        split at he
        · rename_i s1 as1 e1
          cases he
          obtain ⟨h1, h2, h3⟩ := ih e1
          refine ⟨h1, h2, fun x hx => ?_⟩
          rcases List.mem_append.1 hx with hx | hx
          · exact .inl (List.mem_append_left _ hx)
          · exact (h3 x hx).imp_left (List.mem_append_right _)
        · cases he
      have fresh : ∀ (e : Nat) (t : Ty), (match nilName s n e t with
        | some s => match nilCells s (n + 1) cs as with
          | some (s, as) => some (s, AV.own n :: as)
          | none => none
        | none => none) = some (s', as') → (∀ m pin c, hget s'.heap m = some (.box pin c) → hget s.heap m = some (.box pin c)) ∧ (∀ m x, hget s.heap m = some x → hget s'.heap m = some x) ∧ ∀ x ∈ names as', x ∈ names (.nilS :: as) ∨ hget s.heap x = none := fun e t he => by
        split at he
        · rename_i s1 e1
          obtain ⟨n1, n2⟩ := nilName_back e1
          have n3 : ∀ m x, hget s.heap m = some x → hget s1.heap m = some x := fun m x hm => by
            unfold nilName at e1
            rw [n1] at e1
            cases e1
            rw [hget_cons, if_neg (fun e => by rw [e, n1] at hm; cases hm)]; exact hm
          split at he
          · rename_i s2 as2 e2
            cases he
            obtain ⟨h1, h2, h3⟩ := ih e2
            refine ⟨fun m pin c hm => n2 m pin c (h1 m pin c hm), fun m x hm => h2 m x (n3 m x hm), fun x hx => ?_⟩
            rcases List.mem_append.1 hx with hx | hx
            · obtain rfl : x = n := by simpa [argNames, nameOf] using hx
              exact .inr n1
            · rcases h3 x hx with h | h
              · exact .inl (List.mem_append_right _ h)
              · right
                cases hq : hget s.heap x with
                | none => rfl
                | some y => rw [n3 x y hq] at h; cases h
          · cases he
        · cases he
      cases c with
      | v t => exact other (by cases v <;> exact he)
      | own e t => cases v <;> first | exact other he | exact fresh e t he
      | pin e t => cases v <;> first | exact other he | exact fresh e t he
      | self i ns => exact other (by cases v <;> exact he)
      | clo i cs' => exact other (by cases v <;> exact he)
theorem nilBoxes_ok : ∀ {l : List (List CK × Nat)} {n : Nat} {s s' : St} {g : Gh}, Sim X s a w g → nilBoxes s n l = some s' → ∃ g', Sim X s' a w g' ∧ Ext g g' ∧ BoxNew s g s'
  | [], n, s, s', g, h, he => by cases he; exact ⟨g, h, Ext.refl g, fun _ _ cs hn => ⟨_, cs, hn, fun _ h => .inl h⟩⟩
  | q :: l, n, s, s', g, h, he => by
    simp only [nilBoxes] at he
    split at he
    · rename_i pin as hb
      obtain ⟨hn, he⟩ := chk_some he
      have hn := Nat.le_of_ble_eq_true hn
      split at he
      · rename_i s1 as1 e1
        obtain ⟨k, cells, e, q1, q2, q3, q4⟩ := h.blk q.2 _ hb
        obtain ⟨g1, h1, h2, h3, h4, h5⟩ := nilCells_ok h q4 (.inr hn) e1
        obtain ⟨b1, b2, b3⟩ := nilCells_back e1
        have hb1 := h5 _ _ hb
        have hl : g.live q.2 := (h.live _).2 (by rw [hb]; rfl)
        have hs := h1.rebox (as1 := as1) hb1 ⟨k, cells, e, by rw [(h2.live q.2 hl).2.1]; exact q1, q2, q3, h3⟩
        obtain ⟨g2, h6, h7, h8⟩ := nilBoxes_ok (l := l) hs he
        refine ⟨g2, h6, h2.trans h7, fun m p c hm => ?_⟩
        obtain ⟨p0, c0, h9, h10⟩ := h8 m p c hm
        have new : ∀ x, ¬ g1.live x → ¬ g.live x := fun x hx hl => hx (h2.live x hl).1
        change hget ((q.2, .box pin as1) :: hdel s1.heap q.2) m = _ at h9
        rw [hget_set] at h9
        by_cases e : m = q.2
        · subst e
          rw [if_pos rfl] at h9
          cases h9
          refine ⟨pin, as, hb, fun x hx => ?_⟩
          rcases h10 x hx with h | h
          · exact (b3 x h).imp_right fun hq hl => not_live ‹Sim X s a w g› hq hl
          · exact .inr (new x h)
        · rw [if_neg e] at h9
          exact ⟨p0, c0, b1 m p0 c0 h9, fun x hx => (h10 x hx).imp_right (new x)⟩
      · cases he
    · cases he
theorem Chg.ext {d : Nat} {T T2 : List Nat} {g2 : Gh} (e : Ext g g2) (hT : ∀ x ∈ T2, x ∈ T ∨ ¬ g.live x) (hn : ∀ n, n < RB → g2.live n → g.live n) (c : Chg d T2 w g2 w' g') : Chg d T w g w' g' :=
  ⟨e.okMv.trans c.ok, fun n h1 h2 hl => by
    obtain ⟨a1, a2, a3⟩ := c.nm n h1 h2 hl
    have hl0 := hn n h1 a1
    obtain ⟨_, b2, b3⟩ := e.live n hl0
    exact ⟨hl0, a2.trans b2, fun hT' => (a3 fun hm => (hT n hm).elim hT' fun h => h hl0).trans b3⟩, fun n k hT' hl hk => by
    obtain ⟨b1, b2, b3⟩ := e.live n hl
    exact c.un n k (fun hm => (hT n hm).elim hT' fun h => h hl) b1 ((has_same b2 b3).2 hk)⟩
theorem nilCells_low : ∀ {cs : List CK} {n : Nat} {as : List AV} {s s' : St} {as' : List AV}, nilCells s n cs as = some (s', as') → RB ≤ n → ∀ m, m < RB → (hget s'.heap m).isSome = true → (hget s.heap m).isSome = true := by
  intro cs
  induction cs with
  | nil =>
    intro n as s s' as' he _ m _ h
    have : nilCells s n [] as = some (s, as) := by cases as <;> rfl
    rw [this] at he; cases he; exact h
  | cons c cs ih =>
    intro n as s s' as' he hn m hm h
    cases as with
    | nil =>
      have : nilCells s n (c :: cs) [] = some (s, []) := by cases c <;> rfl
      rw [this] at he; cases he; exact h
    | cons v as =>
      have other : (match nilCells s (n + 1) cs as with
        | some (s, as) => some (s, v :: as)
        | none => none) = some (s', as') → (hget s.heap m).isSome = true := fun he => by
        split at he
        · rename_i s1 as1 e1
          cases he
          exact ih e1 (by omega) m hm h
        · cases he
      have fresh : ∀ (e : Nat) (t : Ty), (match nilName s n e t with
        | some s => match nilCells s (n + 1) cs as with
          | some (s, as) => some (s, AV.own n :: as)
          | none => none
        | none => none) = some (s', as') → (hget s.heap m).isSome = true := fun e t he => by
        split at he
        · rename_i s1 e1
          split at he
          · rename_i s2 as2 e2
            cases he
            have h1 := ih e2 (by omega) m hm h
            unfold nilName at e1
            split at e1
            · cases e1
              rw [hget_cons, if_neg (by omega)] at h1; exact h1
            · cases e1
          · cases he
        · cases he
      cases c with
      | v t => exact other (by cases v <;> exact he)
      | own e t => cases v <;> first | exact other he | exact fresh e t he
      | pin e t => cases v <;> first | exact other he | exact fresh e t he
      | self i ns => exact other (by cases v <;> exact he)
      | clo i cs' => exact other (by cases v <;> exact he)
theorem nilBoxes_low : ∀ {l : List (List CK × Nat)} {n : Nat} {s s' : St}, nilBoxes s n l = some s' → ∀ m, m < RB → (hget s'.heap m).isSome = true → (hget s.heap m).isSome = true
  | [], n, s, s', he, m, hm, h => by cases he; exact h
  | q :: l, n, s, s', he, m, hm, h => by
    simp only [nilBoxes] at he
    split at he
    · rename_i pin as hb
      obtain ⟨hn, he⟩ := chk_some he
      have hn := Nat.le_of_ble_eq_true hn
      split at he
      · rename_i s1 as1 e1
        have h1 := nilBoxes_low he m hm h
        rw [hget_set] at h1
        by_cases e : m = q.2
        · rw [e, hb]; rfl
        · rw [if_neg e] at h1
          exact nilCells_low e1 hn m hm h1
      · cases he
    · cases he
theorem callAs_frzB : ∀ {l : List Nat} {s s1 : St} {f : Operand} {args : List Operand} {i : Nat} {as : List AV}, frzBoxes s l = some s1 → callAs s f args = some (i, as) → ∃ as1, callAs s1 f args = some (i, as1)
  | [], s, s1, f, args, i, as, hz, h1 => by cases hz; exact ⟨as, h1⟩
  | b :: l, s, s1, f, args, i, as, hz, h1 => by
    simp only [frzBoxes] at hz
    split at hz
    · exact callAs_frzB (cond_some hz).2 (callAs_unbox h1)
    · exact callAs_frzB hz h1
    · cases hz
theorem lendPrep_ok (h : Sim X s a w g) {ps : List Sh} {as : List AV} {s1 : St} (he : lendPrep s ps as = some s1) : ∃ g1, Sim X s1 a w g1 ∧ Frz g g1 ∧ BoxLe s s1 ∧ ∀ {f : Operand} {args : List Operand} {i i' : Nat} {as as' : List AV}, callAs s f args = some (i, as) → callAs s1 f args = some (i', as') → ∀ n ∈ names as', n ∈ names as := by
  unfold lendPrep at he
  split at he
  · rename_i s0 hb
    obtain ⟨g0, h0, f0⟩ := frzBoxes_ok h hb
    obtain ⟨g1, h1, f1⟩ := frzNames_ok h0 he
    refine ⟨g1, h1, f0.trans f1, (frzB_boxLe hb).trans (frz_boxLe he), fun c1 c2 n hn => ?_⟩
    obtain ⟨as0, c0⟩ := callAs_frzB hb c1
    exact frzB_names hb c1 c0 n (frz_names he c0 c2 n hn)
  · cases he
theorem callT_ok {T : List Con} (X : Cx) (hT : TableOk P T X.G) : CallerOk P X (callT T) := by
  intro s a w g d c α K xx h hdp he hcal N hN o ho
  obtain ⟨f, hcf⟩ := hcal
  unfold callT at he
  rw [hcf] at he
  simp only at he
  split at he
  · rename_i i as hca
    split at he
    · rename_i con hfc
      obtain ⟨hmem, hi⟩ := findCon_mem hfc
      have hsound := hT con hmem
      have hct : callTouch s c = allNames s as := by simp only [callTouch, hcf, hca]
      obtain ⟨⟨fn, hfn, hname, hbody⟩, _⟩ := hT con hmem
      -- the operation enters
      have enter : ∀ (caps : List Value), a.eval f = .func (.func i) #[] caps.toArray → Calls P con.f (c.args.toList.map a.eval ++ caps).toArray w (fun e w' => ∃ v, e = .returned v ∧ N v w') → Gives P a w o N := by
        intro caps hv hcalls
        have hrun : (execOp a.eval o).run P w = .ok (.enter i ((c.args.map a.eval) ++ caps.toArray)) w := by
          have hb : fn.body ≠ none := by intro e; rw [e] at hbody; cases hbody
          have hn : ¬ fn.name = "runtime.NumGoroutine" := by simpa using hname
          rw [hi] at hfn
          simp [execOp, ho, resolve, hcf, hv, Deferred.ofValue, invoke, callFunc, hfn, hn, hb]
        unfold Gives
        rw [hrun]
        simp only
        rw [← hi]
        have e : (c.args.map a.eval) ++ caps.toArray = (c.args.toList.map a.eval ++ caps).toArray := by
          apply Array.ext'
          simp
        rw [e]
        exact hcalls
      -- nil slices in lent boxes, then the call
      have go : ∀ {s1 : St} {g1 : Gh} {as1 : List AV}, Sim X s1 a w g1 → Frz g g1 → BoxLe s s1 → (∀ n ∈ names as1, n ∈ names as) → callAs s1 f c.args.toList = some (i, as1) → (match nilBoxes s1 NBC (argCells con.ps as1) with
          | some s2 => callCon con d s2 as1 K
          | none => none) = some xx → Gives P a w o N := by
        intro s1 g1 as1 hs1 f1 hb1 hn1 hca1 he
        obtain ⟨caps, h1, h2⟩ := callAs_ok hs1 hca1
        split at he
        · rename_i s2 hnb
          obtain ⟨g2, hs2, x2, bn⟩ := nilBoxes_ok hs1 hnb
          refine enter caps h1 (callCon_ok hsound hs2 (h2.move x2.mv) he fun s' v cv w' g' e1 e2 e3 e4 => hN s' v cv w' g' e1 e2 e3 ?_)
          rw [hct]
          refine Chg.frz h f1 (Chg.ext x2 (T2 := allNames s2 as1) (fun x hx => ?_) (fun n hn hl => ?_) e4)
          · rcases List.mem_append.1 hx with hx | hx
            · exact .inl (hb1.all hn1 x (List.mem_append_left _ hx))
            · obtain ⟨n, q1, pin, cs, q2, q3⟩ := mem_cellNames.1 hx
              obtain ⟨p0, c0, q4, q5⟩ := bn n pin cs q2
              exact (q5 x q3).imp_left fun h => hb1.all hn1 x (List.mem_append_right _ (mem_cellNames.2 ⟨n, q1, p0, c0, q4, h⟩))
          · exact (hs1.live n).2 (nilBoxes_low hnb n hn ((hs2.live n).1 hl))
        · cases he
      split at he
      · rename_i s0 hfb
        obtain ⟨g0, hs0, f0, hbl, hnm⟩ := lendPrep_ok h hfb
        split at he
        · rename_i i0 as0 hca0
          replace he := cond_some he
          obtain ⟨hi0, he⟩ := he
          have hi0 := Nat.eq_of_beq_eq_true hi0
          subst hi0
          have hn0 := hnm hca hca0
          cases hb : (allFlat con.rs && allMflat (muts PB con.ps)) with
          | true =>
            rw [hb] at he
            exact go hs0 f0 hbl hn0 hca0 he
          | false =>
            rw [hb] at he
            simp only [cond_false] at he
            split at he
            · rename_i s1 hfz
              obtain ⟨g1, hs1, f1⟩ := frzNames_ok hs0 hfz
              split at he
              · rename_i i' as' hca'
                replace he := cond_some he
                obtain ⟨hii, he⟩ := he
                have hii := Nat.eq_of_beq_eq_true hii
                subst hii
                exact go hs1 (f0.trans f1) (hbl.trans (frz_boxLe hfz)) (fun n hn => hn0 n (frz_names hfz hca0 hca' n hn)) hca' he
              · cases he
            · cases he
        · cases he
      · cases he
    · cases he
  · cases he
end
end Go.Proofs.YthgmnlfbgajchaaV

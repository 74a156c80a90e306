/- What is handed over from part to part: each step holds of the model's own run. Conditions: those that each theorem states. -/
/- A checked abstract run of Go functions: what loops, joins, calls and ends hand over. -/
import Derived.Test.YthgmnlfbgajchaaVaiMem
namespace Go.Proofs.YthgmnlfbgajchaaV
set_option linter.unusedVariables false
set_option linter.unusedSimpArgs false
/-! ### Shapes -/
inductive CK where
  | v (t : Ty) | own (e : Nat) (t : Ty)
  | pin (e : Nat) (t : Ty)                  -- an own row that may lie in an elder block
  | self (i : Nat) (ns : List Nat)          -- a function over the boxes of these names
  | clo (i : Nat) (cs : List (List Ty))     -- a function over boxes that no one writes
def TTs : List Ty → Type
  | [] => Unit
  | t :: r => t.T × TTs r
def FTs : List (List Ty) → Type
  | [] => Unit
  | t :: r => TTs t × FTs r
def CK.T : CK → Type
  | .v t => t.T
  | .own _ t => List t.T
  | .pin _ t => List t.T
  | .self _ _ => Unit
  | .clo _ cs => FTs cs
def CTs : List CK → Type
  | [] => Unit
  | c :: r => c.T × CTs r
/-- What a function is closed over: a box that no one writes, or one that may be written. -/
inductive Cap where
  | r (cs : List Ty) | m (pin : Bool) (cs : List CK)
inductive Sh where
  | v (t : Ty)                              -- a value
  | own (pin : Bool) (e : Nat) (t : Ty)     -- an own row
  | box (pin : Bool) (cs : List CK)         -- the address of a box
  | agg (cs : List CK)                      -- a struct that may hold own rows
  | rbox (cs : List Ty)                     -- the address of a box that no one writes
  | fn (f : Nat) (caps : List Cap)          -- a function over boxes
  | deep (e : Nat) (t : Ty)                 -- a row whose inner rows are its own
  | same                                    -- an own row that another slot holds too, by the same name
  | nilI                                    -- an interface value that is nil
  | obj (k : ObK)                           -- a map, an iterator
def Cap.T : Cap → Type
  | .r cs => TTs cs
  | .m _ cs => CTs cs
def CapTs : List Cap → Type
  | [] => Unit
  | t :: r => t.T × CapTs r
def Sh.T : Sh → Type
  | .v t => t.T
  | .own _ _ t => List t.T
  | .box _ cs => CTs cs
  | .agg cs => CTs cs
  | .rbox cs => TTs cs
  | .fn _ caps => CapTs caps
  | .deep _ t => List t.T
  | .same => Unit
  | .nilI => Unit
  | .obj k => k.T
def STs : List Sh → Type
  | [] => Unit
  | c :: r => c.T × STs r
/-- Rows are read without being taken. -/
def lent (s : St) : List AV → List AV
  | [] => []
  | a :: r => pure1 s a :: lent s r
def tyGets : (cs : List Ty) → List AV → Option (TTs cs)
  | [], [] => some ()
  | c :: r, a :: as => match c.all [a], tyGets r as with
    | some x, some y => some (x, y)
    | _, _ => none
  | _, _ => none
/-- The names of boxes, beside what they are to be called. -/
def knot : List Nat → List AV → Option (List (Nat × Nat))
  | [], [] => some []
  | n :: ns, .ptr b 0 :: as => match knot ns as with
    | some p => some ((n, b) :: p)
    | none => none
  | _, _ => none
def ftGets : (cs : List (List Ty)) → List AV → Option (FTs cs)
  | [], [] => some ()
  | c :: r, .rptr vs 0 :: as => match tyGets c vs, ftGets r as with
    | some x, some y => some (x, y)
    | _, _ => none
  | _, _ => none
def CK.get (s : St) (n : Nat) : (c : CK) → AV → Option (c.T × List (Nat × Nat))
  | .v t, a => match t.all [a] with
    | some x => some (x, [])
    | none => none
  | .own e t, .own b => match hget s.heap b with
    | some (.row false e' t' l) => match castL t t' l with
      | some l => bif Nat.beq e' e then some (l, [(n, b)]) else none
      | none => none
    | _ => none
  | .own _ _, _ => none
  | .pin e t, .own b => match hget s.heap b with
    | some (.row _ e' t' l) => match castL t t' l with
      | some l => bif Nat.beq e' e then some (l, [(n, b)]) else none
      | none => none
    | _ => none
  | .pin _ _, _ => none
  | .self i ns, .fn j as => match knot ns as with
    | some p => bif Nat.beq j i then some ((), p) else none
    | none => none
  | .self _ _, _ => none
  | .clo i cs, .fn j as => match ftGets cs as with
    | some x => bif Nat.beq j i then some (x, []) else none
    | none => none
  | .clo _ _, _ => none
def ckGets (s : St) : (n : Nat) → (cs : List CK) → List AV → Option (CTs cs × List (Nat × Nat))
  | _, [], [] => some ((), [])
  | n, c :: r, a :: as => match c.get s n a, ckGets s (n + 1) r as with
    | some (x, p), some (y, q) => some ((x, y), p ++ q)
    | _, _ => none
  | _, _, _ => none
def tyPuts : (cs : List Ty) → TTs cs → List AV
  | [], _ => []
  | c :: r, x => c.av x.1 :: tyPuts r x.2
def ptrs : List Nat → List AV
  | [] => []
  | n :: r => .ptr n 0 :: ptrs r
def ftPuts : (cs : List (List Ty)) → FTs cs → List AV
  | [], _ => []
  | c :: r, x => .rptr (tyPuts c x.1) 0 :: ftPuts r x.2
def CK.put (n : Nat) : (c : CK) → c.T → AV × List (Nat × Blk)
  | .v t, x => (t.av x, [])
  | .own e t, l => (.own n, [(n, .row false e t l)])
  | .pin e t, l => (.own n, [(n, .row true e t l)])
  | .self i ns, _ => (.fn i (ptrs ns), [])
  | .clo i cs, x => (.fn i (ftPuts cs x), [])
def ckPuts : (n : Nat) → (cs : List CK) → CTs cs → List AV × List (Nat × Blk)
  | _, [], _ => ([], [])
  | n, c :: r, x => ((c.put n x.1).1 :: (ckPuts (n + 1) r x.2).1, (c.put n x.1).2 ++ (ckPuts (n + 1) r x.2).2)
def Ty.isPr : Ty → Bool
  | .pr _ _ => true
  | _ => false
def isAgg : AV → Bool
  | .agg _ => true
  | _ => false
def vGet (t : Ty) (a : AV) : Option (t.T × List (Nat × Nat)) := bif isAgg a == t.isPr then (match t.all a.cells with
  | some x => some (x, [])
  | none => none) else none
def ownGet (s : St) (n : Nat) (pin : Bool) (e : Nat) (t : Ty) : AV → Option (List t.T × List (Nat × Nat))
  | .own b => match hget s.heap b with
    | some (.row pin' e' t' l) => match castL t t' l with
      | some l => bif Nat.beq e' e && (pin' == pin) then some (l, [(n, b)]) else none
      | none => none
    | _ => none
  | _ => none
def boxGet (s : St) (n : Nat) (pin : Bool) (cs : List CK) : AV → Option (CTs cs × List (Nat × Nat))
  | .ptr b 0 => match hget s.heap b with
    | some (.box pin' as) => match ckGets s (n + 1) cs as with
      | some (x, p) => bif pin' == pin then some (x, (n, b) :: p) else none
      | none => none
    | _ => none
  | _ => none
def aggGet (s : St) (n : Nat) (cs : List CK) : AV → Option (CTs cs × List (Nat × Nat))
  | .agg as => ckGets s n cs as
  | _ => none
def rboxGet (cs : List Ty) : AV → Option (TTs cs × List (Nat × Nat))
  | .rptr as 0 => match tyGets cs as with
    | some x => some (x, [])
    | none => none
  | _ => none
def Cap.get (s : St) (n : Nat) : (c : Cap) → AV → Option (c.T × List (Nat × Nat))
  | .r cs, a => rboxGet cs a
  | .m pin cs, a => boxGet s n pin cs a
def capGets (s : St) : (n : Nat) → (caps : List Cap) → List AV → Option (CapTs caps × List (Nat × Nat))
  | _, [], [] => some ((), [])
  | n, c :: r, a :: as => match c.get s n a, capGets s (n + 8) r as with
    | some (x, p), some (y, q) => some ((x, y), p ++ q)
    | _, _ => none
  | _, _, _ => none
def fnGet (s : St) (n : Nat) (f : Nat) (caps : List Cap) : AV → Option (CapTs caps × List (Nat × Nat))
  | .fn f' as => match capGets s n caps as with
    | some (x, p) => bif Nat.beq f' f then some (x, p) else none
    | none => none
  | _ => none
def deepGet (s : St) (n : Nat) (e : Nat) (t : Ty) : AV → Option (List t.T × List (Nat × Nat))
  | .own b => match hget s.heap b with
    | some (.deep e' t' l) => match castL t t' l with
      | some l => bif Nat.beq e' e then some (l, [(n, b)]) else none
      | none => none
    | _ => none
  | _ => none
def objGet (s : St) (n : Nat) (k : ObK) : AV → Option (k.T × List (Nat × Nat))
  | .own b => match hget s.heap b with
    | some (.obj k' y) => if h : k' = k then some (h ▸ y, [(n, b)]) else none
    | _ => none
  | _ => none
def Sh.get (s : St) (n : Nat) (h : Sh) (a : AV) : Option (h.T × List (Nat × Nat)) := match h with
  | .v t => vGet t a
  | .own pin e t => ownGet s n pin e t a
  | .box pin cs => boxGet s n pin cs a
  | .agg cs => aggGet s n cs a
  | .rbox cs => rboxGet cs a
  | .fn f caps => fnGet s n f caps a
  | .deep e t => deepGet s n e t a
  | .same => match a with
    | .own b => some ((), [(n, b)])
    | _ => none
  | .nilI => match a with
    | .nilI => some ((), [])
    | _ => none
  | .obj k => objGet s n k a
def Cap.put (n : Nat) : (c : Cap) → c.T → AV × List (Nat × Blk)
  | .r cs, x => (.rptr (tyPuts cs x) 0, [])
  | .m pin cs, x => (.ptr n 0, (n, .box pin (ckPuts (n + 1) cs x).1) :: (ckPuts (n + 1) cs x).2)
def capPuts : (n : Nat) → (cs : List Cap) → CapTs cs → List AV × List (Nat × Blk)
  | _, [], _ => ([], [])
  | n, c :: r, x => ((c.put n x.1).1 :: (capPuts (n + 8) r x.2).1, (c.put n x.1).2 ++ (capPuts (n + 8) r x.2).2)
def Sh.put (n : Nat) : (h : Sh) → h.T → AV × List (Nat × Blk)
  | .v t, x => (t.av x, [])
  | .own pin e t, l => (.own n, [(n, .row pin e t l)])
  | .box pin cs, x => (.ptr n 0, (n, .box pin (ckPuts (n + 1) cs x).1) :: (ckPuts (n + 1) cs x).2)
  | .agg cs, x => (.agg (ckPuts n cs x).1, (ckPuts n cs x).2)
  | .rbox cs, x => (.rptr (tyPuts cs x) 0, [])
  | .fn f caps, x => (.fn f (capPuts n caps x).1, (capPuts n caps x).2)
  | .deep e t, l => (.own n, [(n, .deep e t l)])
  | .same, _ => (.own n, [])
  | .nilI, _ => (.nilI, [])
  | .obj k, y => (.own n, [(n, .obj k y)])
/-! ### .. are sound -/
/-- Elder names under new ones. -/
structure Ren (g g' : Gh) (p : List (Nat × Nat)) : Prop where
  ok : g'.ok = g.ok
  name : ∀ n b, (n, b) ∈ p → g'.live n ∧ g'.val n = g.val b ∧ g'.inn n = g.inn b
section
variable {X : Cx} {s : St} {a : Act} {w : World} {g g' : Gh}
theorem Ren.left {p q : List (Nat × Nat)} (h : Ren g g' (p ++ q)) : Ren g g' p := ⟨h.ok, fun n b hm => h.name n b (List.mem_append_left _ hm)⟩
theorem Ren.right {p q : List (Nat × Nat)} (h : Ren g g' (p ++ q)) : Ren g g' q := ⟨h.ok, fun n b hm => h.name n b (List.mem_append_right _ hm)⟩
/-- What 'get' and 'put' come to. -/
def Passed (X : Cx) (s : St) (w : World) (g g' : Gh) (p : List (Nat × Nat)) (h : List (Nat × Blk)) : Prop :=
  (∀ n y, (n, y) ∈ h → BlkRel X.B w g' n y ∧ ∃ b, (n, b) ∈ p ∧ (y.flat = true → ∀ q, g.inn b q = none)) ∧ ∀ n b, (n, b) ∈ p → g.live b
theorem Passed.nil : Passed X s w g g' [] [] := ⟨fun _ _ h => by simp at h, fun _ _ h => by simp at h⟩
theorem Passed.app {p q : List (Nat × Nat)} {h k : List (Nat × Blk)} (h1 : Passed X s w g g' p h) (h2 : Passed X s w g g' q k) : Passed X s w g g' (p ++ q) (h ++ k) := by
  refine ⟨fun n y hm => ?_, fun n b hm => ?_⟩
  · rcases List.mem_append.1 hm with hm | hm
    · obtain ⟨e1, b, e2, e3⟩ := h1.1 n y hm; exact ⟨e1, b, List.mem_append_left _ e2, e3⟩
    · obtain ⟨e1, b, e2, e3⟩ := h2.1 n y hm; exact ⟨e1, b, List.mem_append_right _ e2, e3⟩
  · rcases List.mem_append.1 hm with hm | hm
    · exact h1.2 n b hm
    · exact h2.2 n b hm
theorem Rep.av {t : Ty} {y : t.T} {cv : Value} (h : Rep w g.ok t y cv.cells.toList) (hc : (∀ a b, t ≠ .pr a b) → cv.oneCell' = true) (ha : (∃ a b, t = .pr a b) → ∃ cs, cv = .agg cs) : RV w g (t.av y) cv := by
  cases t with
  | pr a b =>
    obtain ⟨cs, rfl⟩ := ha ⟨a, b, rfl⟩
    exact ⟨cs.toList, by simp, h.rvs⟩
  | int k =>
    rw [cells_of_one (hc (fun _ _ e => by cases e))] at h
    have h : [cv] = [.int k y] := h
    cases h; rfl
  | bool =>
    rw [cells_of_one (hc (fun _ _ e => by cases e))] at h
    have h : [cv] = [.bool y] := h
    cases h; rfl
  | str =>
    rw [cells_of_one (hc (fun _ _ e => by cases e))] at h
    have h : [cv] = [.string y] := h
    cases h; rfl
  | slc e t =>
    rw [cells_of_one (hc (fun _ _ e => by cases e))] at h
    obtain ⟨v, e1, h⟩ := h
    cases e1; exact h
/-- A value of one cell, known by its kind. -/
theorem one_av {t : Ty} {v : AV} {cv : Value} {y : t.T} (hr : RV w g v cv) (he : t.all [v] = some y) : RV w g (t.av y) cv ∧ ∀ a b, t ≠ .pr a b := by
  have hrep : Rep w g.ok t y [cv] := all_ok (as := [v]) (vs := [cv]) ⟨hr, trivial⟩ he
  have hnp : ∀ a b, t ≠ .pr a b := by
    rintro a b rfl
    have := hrep.len
    have h1 := a.sz_pos
    have h2 := b.sz_pos
    simp only [List.length_singleton, Ty.sz] at this
    omega
  cases t with
  | pr a b => exact absurd rfl (hnp a b)
  | int k => have h : [cv] = [.int k y] := hrep; cases h; exact ⟨rfl, hnp⟩
  | bool => have h : [cv] = [.bool y] := hrep; cases h; exact ⟨rfl, hnp⟩
  | str => have h : [cv] = [.string y] := hrep; cases h; exact ⟨rfl, hnp⟩
  | slc e t => obtain ⟨v', e1, h⟩ := hrep; cases e1; exact ⟨h, hnp⟩
/-- .. which hangs on no name. -/
theorem av_ren {t : Ty} {y : t.T} {cv : Value} {p : List (Nat × Nat)} (r : Ren g g' p) (h : RV w g (t.av y) cv) : RV w g' (t.av y) cv := by
  refine RV.pure (g := g) (w := w) (fun k hk _ => ⟨rfl, by rw [r.ok]; exact hk⟩) ?_ h
  cases t with
  | pr a b =>
    have cells : ∀ (t : Ty) (y : t.T), AV.pures (t.cells y) = true := by
      intro t
      induction t with
      | pr a b iha ihb =>
        intro y
        have app : ∀ as bs : List AV, AV.pures as = true → AV.pures bs = true → AV.pures (as ++ bs) = true := by
          intro as
          induction as with
          | nil => exact fun _ _ h => h
          | cons v as ih =>
            intro bs h1 h2
            simp only [AV.pures, Bool.and_eq_true, List.cons_append] at h1 ⊢
            exact ⟨h1.1, ih bs h1.2 h2⟩
        exact app _ _ (iha y.1) (ihb y.2)
      | _ => intro y; rfl
    exact cells (.pr a b) y
  | _ => rfl
theorem row_ren (h : Sim X s a w g) {n b : Nat} {pin : Bool} {e : Nat} {t : Ty} {l : List t.T} (hb : hget s.heap b = some (.row pin e t l)) (ok : g'.ok = g.ok) (hv : g'.val n = g.val b) : BlkRel X.B w g' n (.row pin e t l) := by
  obtain ⟨inner, ho, hr⟩ := h.blk b _ hb
  exact ⟨inner, by rw [hv]; exact ho, by rw [ok]; exact hr⟩
theorem tys_ok {p : List (Nat × Nat)} (r : Ren g g' p) : ∀ {cs : List Ty} {as : List AV} {vs : List Value} {y : TTs cs}, RVs w g as vs → tyGets cs as = some y → RVs w g' (tyPuts cs y) vs
  | [], [], [], y, _, he => trivial
  | c :: cs, v :: as, u :: vs, y, hr, he => by
    simp only [tyGets] at he
    split at he
    · rename_i x1 x2 e1 e2
      cases he
      exact ⟨av_ren r (one_av hr.1 e1).1, tys_ok r hr.2 e2⟩
    · cases he
  | [], _ :: _, _, _, _, he => by simp [tyGets] at he
  | _ :: _, [], _, _, _, he => by simp [tyGets] at he
  | _, [], _ :: _, _, hr, _ => hr.elim
  | _, _ :: _, [], _, hr, _ => hr.elim
theorem row_true {B n : Nat} {pin : Bool} {e : Nat} {t : Ty} {l : List t.T} (h : BlkRel B w g n (.row pin e t l)) : BlkRel B w g n (.row true e t l) := by
  obtain ⟨inner, ⟨h1, h2⟩, h3⟩ := h
  refine ⟨inner, ⟨h1, ?_⟩, h3⟩
  rcases h2 with h2 | ⟨k, cap, cur, e1, _, e3⟩
  · exact .inl h2
  · exact .inr ⟨k, cap, cur, e1, Nat.zero_le _, e3⟩
theorem knot_ok : ∀ {ns : List Nat} {as : List AV} {vs : List Value} {p : List (Nat × Nat)}, RVs w g as vs → knot ns as = some p → (∀ n b, (n, b) ∈ p → g'.live n ∧ g'.val n = g.val b) → RVs w g' (ptrs ns) vs ∧ ∀ n b, (n, b) ∈ p → g.live b
  | [], [], [], p, _, he, _ => by
    simp only [knot, Option.some.injEq] at he
    subst he
    exact ⟨trivial, fun _ _ hm => by simp at hm⟩
  | n :: ns, v :: as, u :: vs, p, hr, he, r => by
    cases v with
    | ptr b o =>
      cases o with
      | succ o => simp [knot] at he
      | zero =>
        simp only [knot] at he
        split at he
        · rename_i q hq
          cases he
          obtain ⟨h1, h2⟩ := knot_ok hr.2 hq fun n b hm => r n b (List.mem_cons_of_mem _ hm)
          obtain ⟨r1, r2⟩ := r n b (List.mem_cons_self ..)
          obtain ⟨hl, k, hk1, hk2⟩ := hr.1
          refine ⟨⟨⟨r1, k, by rw [r2]; exact hk1, hk2⟩, h1⟩, fun n' b' hm => ?_⟩
          rcases List.mem_cons.1 hm with e | hm
          · cases e; exact hl
          · exact h2 n' b' hm
        · cases he
    | _ => simp [knot] at he
  | [], _ :: _, _, _, _, he, _ => by simp [knot] at he
  | _ :: _, [], _, _, _, he, _ => by simp [knot] at he
  | _, [], _ :: _, _, hr, _, _ => hr.elim
  | _, _ :: _, [], _, hr, _, _ => hr.elim
theorem fts_ok {p : List (Nat × Nat)} (r : Ren g g' p) : ∀ {cs : List (List Ty)} {as : List AV} {vs : List Value} {y : FTs cs}, RVs w g as vs → ftGets cs as = some y → RVs w g' (ftPuts cs y) vs
  | [], [], [], y, _, he => trivial
  | c :: cs, v :: as, u :: vs, y, hr, he => by
    cases v with
    | rptr ws o =>
      cases o with
      | succ o => simp [ftGets] at he
      | zero =>
        simp only [ftGets] at he
        split at he
        · rename_i x1 x2 e1 e2
          cases he
          obtain ⟨k, cells, e, h1, h2, h3, h4⟩ := hr.1
          exact ⟨⟨k, cells, e, by rw [r.ok]; exact h1, h2, tys_ok r h3 e1, h4⟩, fts_ok r hr.2 e2⟩
        · cases he
    | _ => simp [ftGets] at he
  | [], _ :: _, _, _, _, he => by simp [ftGets] at he
  | _ :: _, [], _, _, _, he => by simp [ftGets] at he
  | _, [], _ :: _, _, hr, _ => hr.elim
  | _, _ :: _, [], _, hr, _ => hr.elim
theorem ck_ok (h : Sim X s a w g) {n : Nat} {c : CK} {v : AV} {cv : Value} {y : c.T} {p : List (Nat × Nat)} (hr : RV w g v cv) (he : c.get s n v = some (y, p)) (r : Ren g g' p) : RV w g' (c.put n y).1 cv ∧ Passed X s w g g' p (c.put n y).2 := by
  cases c with
  | v t =>
    simp only [CK.get] at he
    split at he
    · rename_i y' hy
      cases he
      exact ⟨av_ren r (one_av hr hy).1, Passed.nil⟩
    · cases he
  | own e t =>
    cases v with
    | own b =>
      simp only [CK.get] at he
      split at he
      · rename_i e' t' l hb
        split at he
        · rename_i l' hc
          obtain ⟨rfl, hq⟩ := castL_some hc
          cases hq
          replace he := cond_some he
          obtain ⟨h1, he⟩ := he
          have h1 := Nat.eq_of_beq_eq_true h1
          subst h1
          cases he
          obtain ⟨h2, h3, h3'⟩ := r.name n b (by simp)
          refine ⟨⟨h2, by rw [h3]; exact hr.2⟩, fun m z hm => ?_, fun m z hm => ?_⟩
          · simp only [CK.put, List.mem_singleton, Prod.mk.injEq] at hm
            obtain ⟨rfl, rfl⟩ := hm
            exact ⟨row_ren h hb r.ok h3, b, by simp, fun _ => h.flat b _ hb rfl⟩
          · simp only [List.mem_singleton, Prod.mk.injEq] at hm
            obtain ⟨rfl, rfl⟩ := hm
            exact hr.1
        · cases he
      · cases he
    | _ => simp [CK.get] at he
  | pin e t =>
    cases v with
    | own b =>
      simp only [CK.get] at he
      split at he
      · rename_i pin' e' t' l hb
        split at he
        · rename_i l' hc
          obtain ⟨rfl, hq⟩ := castL_some hc
          cases hq
          replace he := cond_some he
          obtain ⟨h1, he⟩ := he
          have h1 := Nat.eq_of_beq_eq_true h1
          subst h1
          cases he
          obtain ⟨h2, h3, h3'⟩ := r.name n b (by simp)
          refine ⟨⟨h2, by rw [h3]; exact hr.2⟩, fun m z hm => ?_, fun m z hm => ?_⟩
          · simp only [CK.put, List.mem_singleton, Prod.mk.injEq] at hm
            obtain ⟨rfl, rfl⟩ := hm
            exact ⟨row_true (row_ren h hb r.ok h3), b, by simp, fun _ => h.flat b _ hb rfl⟩
          · simp only [List.mem_singleton, Prod.mk.injEq] at hm
            obtain ⟨rfl, rfl⟩ := hm
            exact hr.1
        · cases he
      · cases he
    | _ => simp [CK.get] at he
  | self i ns =>
    cases v with
    | fn f' as =>
      simp only [CK.get] at he
      split at he
      · rename_i q hq
        replace he := cond_some he
        obtain ⟨h1, he⟩ := he
        have h1 := Nat.eq_of_beq_eq_true h1
        subst h1
        cases he
        obtain ⟨vs, rfl, hr⟩ := hr
        obtain ⟨h2, h3⟩ := knot_ok hr hq fun n b hm => ⟨(r.name n b hm).1, (r.name n b hm).2.1⟩
        exact ⟨⟨vs, rfl, h2⟩, fun _ _ hm => by simp [CK.put] at hm, h3⟩
      · cases he
    | _ => simp [CK.get] at he
  | clo i cs =>
    cases v with
    | fn f' as =>
      simp only [CK.get] at he
      split at he
      · rename_i x hx
        replace he := cond_some he
        obtain ⟨h1, he⟩ := he
        have h1 := Nat.eq_of_beq_eq_true h1
        subst h1
        cases he
        obtain ⟨vs, rfl, hr⟩ := hr
        exact ⟨⟨vs, rfl, fts_ok r hr hx⟩, Passed.nil⟩
      · cases he
    | _ => simp [CK.get] at he
theorem cks_ok (h : Sim X s a w g) : ∀ {cs : List CK} {n : Nat} {as : List AV} {vs : List Value} {y : CTs cs} {p : List (Nat × Nat)}, RVs w g as vs → ckGets s n cs as = some (y, p) → Ren g g' p → RVs w g' (ckPuts n cs y).1 vs ∧ Passed X s w g g' p (ckPuts n cs y).2
  | [], _, [], [], y, p, _, he, r => by
    simp only [ckGets, Option.some.injEq, Prod.mk.injEq] at he
    obtain ⟨_, rfl⟩ := he
    exact ⟨trivial, Passed.nil⟩
  | c :: cs, n, v :: as, u :: vs, y, p, hr, he, r => by
    simp only [ckGets] at he
    split at he
    · rename_i x1 p1 x2 p2 e1 e2
      cases he
      obtain ⟨h1, h2⟩ := ck_ok h hr.1 e1 r.left
      obtain ⟨h3, h4⟩ := cks_ok h hr.2 e2 r.right
      exact ⟨⟨h1, h3⟩, h2.app h4⟩
    · cases he
  | [], _, _ :: _, _, _, _, _, he, _ => by simp [ckGets] at he
  | _ :: _, _, [], _, _, _, _, he, _ => by simp [ckGets] at he
  | _, _, [], _ :: _, _, _, hr, _, _ => hr.elim
  | _, _, _ :: _, [], _, _, hr, _, _ => hr.elim
theorem box_ok (h : Sim X s a w g) {n : Nat} {pin : Bool} {cs : List CK} {v : AV} {cv : Value} {y : CTs cs} {p : List (Nat × Nat)} (hr : RV w g v cv) (he : boxGet s n pin cs v = some (y, p)) (r : Ren g g' p) : RV w g' (.ptr n 0) cv ∧ Passed X s w g g' p ((n, .box pin (ckPuts (n + 1) cs y).1) :: (ckPuts (n + 1) cs y).2) := by
  cases v with
  | ptr b o =>
    cases o with
    | succ o => simp [boxGet] at he
    | zero =>
      simp only [boxGet] at he
      split at he
      · rename_i pin' as hb
        split at he
        · rename_i y' q hq
          replace he := chk_some he
          obtain ⟨h1, he⟩ := he
          simp only [beq_iff_eq] at h1
          subst h1
          cases he
          obtain ⟨h2, h3, h3'⟩ := r.name n b (by simp)
          obtain ⟨hl, k, hk1, hk2⟩ := hr
          obtain ⟨k', cells, e, q1, q2, q3, q4⟩ := h.blk b _ hb
          rw [hk1] at q1; cases q1
          obtain ⟨h4, h5⟩ := cks_ok h q4 hq (Ren.right (p := [(n, b)]) r)
          refine ⟨⟨h2, k, by rw [h3]; exact hk1, hk2⟩, Passed.app (p := [(n, b)]) (h := [_]) ⟨fun m z hm => ?_, fun m z hm => ?_⟩ h5⟩
          · simp only [List.mem_singleton, Prod.mk.injEq] at hm
            obtain ⟨rfl, rfl⟩ := hm
            exact ⟨⟨k, cells, e, by rw [h3]; exact hk1, q2, q3, h4⟩, b, by simp, fun _ => h.flat b _ hb rfl⟩
          · simp only [List.mem_singleton, Prod.mk.injEq] at hm
            obtain ⟨rfl, rfl⟩ := hm
            exact hl
        · cases he
      · cases he
  | _ => simp [boxGet] at he
theorem rbox_ok {cs : List Ty} {v : AV} {cv : Value} {y : TTs cs} {p : List (Nat × Nat)} (hr : RV w g v cv) (he : rboxGet cs v = some (y, p)) (r : Ren g g' p) : RV w g' (.rptr (tyPuts cs y) 0) cv ∧ p = [] := by
  cases v with
  | rptr as o =>
    cases o with
    | succ o => simp [rboxGet] at he
    | zero =>
      simp only [rboxGet] at he
      split at he
      · rename_i y' hy
        cases he
        obtain ⟨k, cells, e, h1, h2, h3, h4⟩ := hr
        exact ⟨⟨k, cells, e, by rw [r.ok]; exact h1, h2, tys_ok r h3 hy, h4⟩, rfl⟩
      · cases he
  | _ => simp [rboxGet] at he
theorem cap_ok (h : Sim X s a w g) {n : Nat} {c : Cap} {v : AV} {cv : Value} {y : c.T} {p : List (Nat × Nat)} (hr : RV w g v cv) (he : c.get s n v = some (y, p)) (r : Ren g g' p) : RV w g' (c.put n y).1 cv ∧ Passed X s w g g' p (c.put n y).2 := by
  cases c with
  | r cs =>
    obtain ⟨h1, rfl⟩ := rbox_ok hr he r
    exact ⟨h1, Passed.nil⟩
  | m pin cs => exact box_ok h hr he r
theorem caps_ok (h : Sim X s a w g) : ∀ {cs : List Cap} {n : Nat} {as : List AV} {vs : List Value} {y : CapTs cs} {p : List (Nat × Nat)}, RVs w g as vs → capGets s n cs as = some (y, p) → Ren g g' p → RVs w g' (capPuts n cs y).1 vs ∧ Passed X s w g g' p (capPuts n cs y).2
  | [], _, [], [], y, p, _, he, r => by
    simp only [capGets, Option.some.injEq, Prod.mk.injEq] at he
    obtain ⟨_, rfl⟩ := he
    exact ⟨trivial, Passed.nil⟩
  | c :: cs, n, v :: as, u :: vs, y, p, hr, he, r => by
    simp only [capGets] at he
    split at he
    · rename_i x1 p1 x2 p2 e1 e2
      cases he
      obtain ⟨h1, h2⟩ := cap_ok h hr.1 e1 r.left
      obtain ⟨h3, h4⟩ := caps_ok h hr.2 e2 r.right
      exact ⟨⟨h1, h3⟩, h2.app h4⟩
    · cases he
  | [], _, _ :: _, _, _, _, _, he, _ => by simp [capGets] at he
  | _ :: _, _, [], _, _, _, _, he, _ => by simp [capGets] at he
  | _, _, [], _ :: _, _, _, hr, _, _ => hr.elim
  | _, _, _ :: _, [], _, _, hr, _, _ => hr.elim
theorem sh_ok (h : Sim X s a w g) {n : Nat} {c : Sh} {v : AV} {cv : Value} {y : c.T} {p : List (Nat × Nat)} (hr : RV w g v cv) (he : c.get s n v = some (y, p)) (r : Ren g g' p) : RV w g' (c.put n y).1 cv ∧ Passed X s w g g' p (c.put n y).2 := by
  cases c with
  | v t =>
    change vGet t v = some (y, p) at he
    unfold vGet at he
    replace he := cond_some he
    obtain ⟨h0, he⟩ := he
    split at he
    · rename_i y' hy
      cases he
      refine ⟨?_, Passed.nil⟩
      cases v with
      | agg vs =>
        obtain ⟨cs, rfl, hr⟩ := hr
        have hrep := all_ok hr hy
        cases t with
        | pr a b => exact av_ren (t := .pr a b) r ⟨cs, rfl, hrep.rvs⟩
        | _ => cases h0
      | _ => exact av_ren r (one_av hr hy).1
    · cases he
  | own pin e t =>
    change ownGet s n pin e t v = some (y, p) at he
    cases v with
    | own b =>
      simp only [ownGet] at he
      split at he
      · rename_i pin' e' t' l hb
        split at he
        · rename_i l' hc
          obtain ⟨rfl, hq⟩ := castL_some hc
          cases hq
          replace he := cond_some he
          obtain ⟨h1, he⟩ := he
          simp only [Bool.and_eq_true, beq_iff_eq] at h1
          obtain ⟨h1, h0⟩ := h1
          have h1 := Nat.eq_of_beq_eq_true h1
          subst h1; subst h0
          cases he
          obtain ⟨h2, h3, h3'⟩ := r.name n b (by simp)
          refine ⟨⟨h2, by rw [h3]; exact hr.2⟩, fun m z hm => ?_, fun m z hm => ?_⟩
          · simp only [Sh.put, List.mem_singleton, Prod.mk.injEq] at hm
            obtain ⟨rfl, rfl⟩ := hm
            exact ⟨row_ren h hb r.ok h3, b, by simp, fun _ => h.flat b _ hb rfl⟩
          · simp only [List.mem_singleton, Prod.mk.injEq] at hm
            obtain ⟨rfl, rfl⟩ := hm
            exact hr.1
        · cases he
      · cases he
    | _ => simp [ownGet] at he
  | box pin cs => exact box_ok h hr he r
  | agg cs =>
    change aggGet s n cs v = some (y, p) at he
    cases v with
    | agg as =>
      simp only [aggGet] at he
      obtain ⟨vs, rfl, hr⟩ := hr
      obtain ⟨h1, h2⟩ := cks_ok h hr he r
      exact ⟨⟨vs, rfl, h1⟩, h2⟩
    | _ => simp [aggGet] at he
  | rbox cs =>
    obtain ⟨h1, rfl⟩ := rbox_ok hr he r
    exact ⟨h1, Passed.nil⟩
  | obj k =>
    change objGet s n k v = some (y, p) at he
    cases v with
    | own b =>
      simp only [objGet] at he
      split at he
      · rename_i k' y' hb
        split at he
        · rename_i e
          subst e
          cases he
          obtain ⟨h2, h3, _⟩ := r.name n b (by simp)
          refine ⟨⟨h2, by rw [h3]; exact hr.2⟩, fun m z hm => ?_, fun m z hm => ?_⟩
          · simp only [Sh.put, List.mem_singleton, Prod.mk.injEq] at hm
            obtain ⟨rfl, rfl⟩ := hm
            refine ⟨?_, b, by simp, fun _ => h.flat b _ hb rfl⟩
            show ObjAt X.B w (g'.val m) _ _
            rw [h3]; exact h.blk b _ hb
          · simp only [List.mem_singleton, Prod.mk.injEq] at hm
            obtain ⟨rfl, rfl⟩ := hm
            exact hr.1
        · cases he
      · cases he
    | _ => simp [objGet] at he
  | nilI =>
    cases v with
    | nilI =>
      simp only [Sh.get, Option.some.injEq, Prod.mk.injEq] at he
      obtain ⟨_, rfl⟩ := he
      exact ⟨hr, Passed.nil⟩
    | _ => simp [Sh.get] at he
  | same =>
    cases v with
    | own b =>
      simp only [Sh.get, Option.some.injEq, Prod.mk.injEq] at he
      obtain ⟨_, rfl⟩ := he
      obtain ⟨h2, h3, _⟩ := r.name n b (by simp)
      refine ⟨⟨h2, by rw [h3]; exact hr.2⟩, fun m z hm => (by simp [Sh.put] at hm), fun m z hm => ?_⟩
      simp only [List.mem_singleton, Prod.mk.injEq] at hm
      obtain ⟨rfl, rfl⟩ := hm
      exact hr.1
    | _ => simp [Sh.get] at he
  | fn f caps =>
    change fnGet s n f caps v = some (y, p) at he
    cases v with
    | fn f' as =>
      simp only [fnGet] at he
      split at he
      · rename_i y' p' hy
        replace he := cond_some he
        obtain ⟨h1, he⟩ := he
        have h1 := Nat.eq_of_beq_eq_true h1
        subst h1
        cases he
        obtain ⟨vs, rfl, hr⟩ := hr
        obtain ⟨h2, h3⟩ := caps_ok h hr hy r
        exact ⟨⟨vs, rfl, h2⟩, h3⟩
      · cases he
    | _ => simp [fnGet] at he
  | deep e t =>
    change deepGet s n e t v = some (y, p) at he
    cases v with
    | own b =>
      simp only [deepGet] at he
      split at he
      · rename_i e' t' l hb
        split at he
        · rename_i l' hc
          obtain ⟨rfl, hq⟩ := castL_some hc
          cases hq
          replace he := cond_some he
          obtain ⟨h1, he⟩ := he
          have h1 := Nat.eq_of_beq_eq_true h1
          subst h1
          cases he
          obtain ⟨h2, h3, h3'⟩ := r.name n b (by simp)
          refine ⟨⟨h2, by rw [h3]; exact hr.2⟩, fun m z hm => ?_, fun m z hm => ?_⟩
          · simp only [Sh.put, List.mem_singleton, Prod.mk.injEq] at hm
            obtain ⟨rfl, rfl⟩ := hm
            refine ⟨?_, b, by simp, fun hf => by cases hf⟩
            have hd : BlkRel X.B w g b (.deep e' t' l) := h.blk b _ hb
            show DeepAt X.B w (g'.inn m) t' e' l [] (g'.val m) ∧ DeepOk X.B (g'.val m) (g'.inn m)
            rw [h3, h3']; exact hd
          · simp only [List.mem_singleton, Prod.mk.injEq] at hm
            obtain ⟨rfl, rfl⟩ := hm
            exact hr.1
        · cases he
      · cases he
    | _ => simp [deepGet] at he
end
/-! ### Holes: what a loop or a join carries -/
def HT : List (Nat × Nat × Sh) → Type
  | [] => Unit
  | h :: r => h.2.2.T × HT r
def gets (s : St) : (hs : List (Nat × Nat × Sh)) → Option (HT hs × List (Nat × Nat))
  | [] => some ((), [])
  | h :: r => match h.2.2.get s h.2.1 (get s.env h.1), gets s r with
    | some (x, p), some (y, q) => some ((x, y), p ++ q)
    | _, _ => none
def anyOf (n b : Nat) : List (Nat × Nat) → Bool
  | [] => false
  | q :: r => Nat.beq q.1 n || (Nat.beq q.2 b || anyOf n b r)
/-- No name twice, neither elder nor new. -/
def uniq : List (Nat × Nat) → Bool
  | [] => true
  | q :: r => (!anyOf q.1 q.2 r && uniq r) && (!(Nat.ble PB q.1 && (Nat.blt q.1 RB && Nat.beq (q.1 % 8) 0)) || Nat.beq q.1 q.2)
def memP (q : Nat × Nat) : List (Nat × Nat) → Bool
  | [] => false
  | p :: r => (Nat.beq p.1 q.1 && Nat.beq p.2 q.2) || memP q r
/-- Each once. -/
def nub : List (Nat × Nat) → List (Nat × Nat)
  | [] => []
  | q :: r => bif memP q r then nub r else q :: nub r
def covers (heap : List (Nat × Blk)) : List (Nat × Nat) → Bool
  | [] => true
  | q :: r => (match hget heap q.1 with | some _ => true | none => false) && covers heap r
def okP (p : List (Nat × Nat)) (heap : List (Nat × Blk)) : Bool := uniq (nub p) && covers heap p
/-- What is known without a name, of slots that aren't written. -/
def keep (D : Nat → Bool) : List (Nat × AV) → List (Nat × AV)
  | [] => []
  | p :: r => (p.1, bif !D p.1 && p.2.pure then p.2 else .bad) :: keep D r
def fillEnv (env : List (Nat × AV)) : (hs : List (Nat × Nat × Sh)) → HT hs → List (Nat × AV)
  | [], _ => env
  | h :: r, x => (h.1, (h.2.2.put h.2.1 x.1).1) :: fillEnv env r x.2
def fillHeap : (hs : List (Nat × Nat × Sh)) → HT hs → List (Nat × Blk)
  | [], _ => []
  | h :: r, x => (h.2.2.put h.2.1 x.1).2 ++ fillHeap r x.2
def fill (env : List (Nat × AV)) (hs : List (Nat × Nat × Sh)) (x : HT hs) : St := ⟨fillEnv env hs x, fillHeap hs x⟩
/-- From one time to a later one: slots outside 'D' stay, and what no one writes. -/
structure Fut (D : Nat → Bool) (a : Act) (w : World) (g : Gh) (a' : Act) (w' : World) (g' : Gh) : Prop where
  slot : ∀ t, D t = false → a'.tmps.getD t undef = a.tmps.getD t undef
  ok : OkMv w g w' g'
  nm : Nm g g'
theorem Fut.refl (D : Nat → Bool) (a : Act) (w : World) (g : Gh) : Fut D a w g a w g := ⟨fun _ _ => rfl, OkMv.refl w g, Nm.refl g⟩
theorem Fut.trans {D : Nat → Bool} {a a' a'' : Act} {w w' w'' : World} {g g' g'' : Gh} (h : Fut D a w g a' w' g') (h' : Fut D a' w' g' a'' w'' g'') : Fut D a w g a'' w'' g'' :=
  ⟨fun t ht => (h'.slot t ht).trans (h.slot t ht), h.ok.trans h'.ok, h.nm.trans h'.nm⟩
theorem Fut.weak {D D' : Nat → Bool} {a a' : Act} {w w' : World} {g g' : Gh} (h : Fut D a w g a' w' g') (hd : ∀ t, D' t = false → D t = false) : Fut D' a w g a' w' g' := ⟨fun t ht => h.slot t (hd t ht), h.ok, h.nm⟩
section
variable {X : Cx} {s : St} {a : Act} {w : World} {g g' : Gh}
theorem anyOf_not {n b : Nat} : ∀ {p : List (Nat × Nat)}, anyOf n b p = false → ∀ m c, (m, c) ∈ p → m ≠ n ∧ c ≠ b
  | [], _, _, _, hm => by simp at hm
  | q :: r, h, m, c, hm => by
    simp only [anyOf, Bool.or_eq_false_iff] at h
    rcases List.mem_cons.1 hm with rfl | hm
    · exact ⟨fun e => by subst e; simp at h, fun e => by subst e; simp at h⟩
    · exact anyOf_not h.2.2 m c hm
theorem uniq_ok : ∀ {p : List (Nat × Nat)}, uniq p = true → ∀ n b m c, (n, b) ∈ p → (m, c) ∈ p → (n = m ↔ b = c)
  | [], _, _, _, _, _, h, _ => by simp at h
  | q :: r, h, n, b, m, c, h1, h2 => by
    simp only [uniq, Bool.and_eq_true, Bool.not_eq_true'] at h
    replace h := h.1
    rcases List.mem_cons.1 h1 with e1 | q1
    · subst e1
      rcases List.mem_cons.1 h2 with e2 | q2
      · cases e2; simp
      · have := anyOf_not h.1 m c q2
        exact ⟨fun e => absurd e.symm this.1, fun e => absurd e.symm this.2⟩
    · rcases List.mem_cons.1 h2 with e2 | q2
      · subst e2
        have := anyOf_not h.1 n b q1
        exact ⟨fun e => absurd e this.1, fun e => absurd e this.2⟩
      · exact uniq_ok h.2 n b m c q1 q2
theorem uniq_nm : ∀ {p : List (Nat × Nat)}, uniq p = true → ∀ n b, (n, b) ∈ p → PB ≤ n → n < RB → n % 8 = 0 → n = b
  | [], _, _, _, h, _, _, _ => by simp at h
  | q :: r, h, n, b, hm, h1, h2, h8 => by
    simp only [uniq, Bool.and_eq_true] at h
    rcases List.mem_cons.1 hm with e | hm
    · subst e
      have h3 := h.2
      rw [show Nat.ble PB n = true from Nat.ble_eq_true_of_le h1, show Nat.blt n RB = true from by simpa [Nat.blt_eq] using h2, show Nat.beq (n % 8) 0 = true from by rw [h8]; rfl] at h3
      exact Nat.eq_of_beq_eq_true (by simpa using h3)
    · exact uniq_nm h.1.2 n b hm h1 h2 h8
theorem hget_mem : ∀ {h : List (Nat × Blk)} {n : Nat} {y : Blk}, hget h n = some y → (n, y) ∈ h
  | [], _, _, e => by simp [hget] at e
  | (k, v) :: r, n, y, e => by
    simp only [hget] at e
    by_cases hk : k = n
    · subst hk; rw [Nat.beq_refl] at e; cases e; simp
    · rw [beq_ne hk] at e; exact List.mem_cons_of_mem _ (hget_mem e)
theorem hget_some : ∀ {h : List (Nat × Blk)} {n : Nat} {y : Blk}, (n, y) ∈ h → (hget h n).isSome = true
  | (k, v) :: r, n, y, e => by
    simp only [hget]
    by_cases hk : k = n
    · subst hk; rw [Nat.beq_refl]; rfl
    · rw [beq_ne hk]
      rcases List.mem_cons.1 e with e | e
      · cases e; exact absurd rfl hk
      · exact hget_some e
/-- Names for what is handed over. -/
noncomputable def Gh.ren (g : Gh) (p : List (Nat × Nat)) : Gh := ⟨g.ok, fun n => ∃ b, (n, b) ∈ p, fun n => open Classical in if h : ∃ b, (n, b) ∈ p then g.val h.choose else g.val n, fun n => open Classical in if h : ∃ b, (n, b) ∈ p then g.inn h.choose else g.inn n⟩
theorem ren_ok {p : List (Nat × Nat)} (hu : uniq p = true) : Ren g (g.ren p) p := ⟨rfl, fun n b hm => ⟨⟨b, hm⟩, by
  have h : ∃ b, (n, b) ∈ p := ⟨b, hm⟩
  simp only [Gh.ren, dif_pos h]
  rw [(uniq_ok hu n _ n b h.choose_spec hm).1 rfl]
  exact ⟨rfl, rfl⟩⟩⟩
theorem memP_ok {q : Nat × Nat} : ∀ {p : List (Nat × Nat)}, memP q p = true → q ∈ p
  | [], h => by cases h
  | x :: r, h => by
    simp only [memP, Bool.or_eq_true, Bool.and_eq_true] at h
    rcases h with ⟨h1, h2⟩ | h
    · have h1 := Nat.eq_of_beq_eq_true h1
      have h2 := Nat.eq_of_beq_eq_true h2
      exact List.mem_cons.2 (.inl (by cases q; cases x; simp_all))
    · exact List.mem_cons_of_mem _ (memP_ok h)
theorem mem_nub {q : Nat × Nat} : ∀ {p : List (Nat × Nat)}, q ∈ nub p ↔ q ∈ p
  | [] => Iff.rfl
  | x :: r => by
    simp only [nub]
    cases hb : memP x r with
    | true =>
      simp only [cond_true, mem_nub (p := r), List.mem_cons]
      exact ⟨.inr, fun h => h.elim (fun e => by rw [e]; exact memP_ok hb) id⟩
    | false => simp only [cond_false, List.mem_cons, mem_nub (p := r)]
theorem covers_ok {heap : List (Nat × Blk)} : ∀ {p : List (Nat × Nat)}, covers heap p = true → ∀ n b, (n, b) ∈ p → (hget heap n).isSome = true
  | [], _, _, _, hm => by simp at hm
  | q :: r, h, n, b, hm => by
    simp only [covers, Bool.and_eq_true] at h
    rcases List.mem_cons.1 hm with e | hm
    · subst e
      have h1 := h.1
      cases hq : hget heap n with
      | none => rw [hq] at h1; cases h1
      | some y => rfl
    · exact covers_ok h.2 n b hm
theorem ren_nub {p : List (Nat × Nat)} (hu : uniq (nub p) = true) : Ren g (g.ren (nub p)) p := ⟨rfl, fun n b hm => (ren_ok hu).name n b (mem_nub.2 hm)⟩
/-- A state made of what is handed over. -/
theorem Sim.handed (h : Sim X s a w g) {p : List (Nat × Nat)} {env' : List (Nat × AV)} {heap' : List (Nat × Blk)} (hu : okP p heap' = true) {a' : Act} {N : Nat} (hN : a'.tmps.size = N) (hd : a'.defers = [])
    (henv : ∀ t, RV w (g.ren (nub p)) (get env' t) (a'.tmps.getD t undef)) (hp : Passed X s w g (g.ren (nub p)) p heap') : Sim { X with N := N } ⟨env', heap'⟩ a' w (g.ren (nub p)) := by
  simp only [okP, Bool.and_eq_true] at hu
  obtain ⟨hu, hc⟩ := hu
  have r := ren_nub (g := g) hu
  have mn : ∀ n b, (n, b) ∈ nub p → (n, b) ∈ p := fun n b hm => mem_nub.1 hm
  refine ⟨henv, fun n => ⟨fun ⟨b, hb⟩ => covers_ok hc n b (mn n b hb), fun hn => ?_⟩, fun n y hy => (hp.1 n y (hget_mem hy)).1, fun n n' k ⟨b, hb⟩ ⟨b', hb'⟩ hk hk' => ?_, fun n k ⟨b, hb⟩ hk => ?_, fun n y hy hf q => ?_, h.ok, hN, hd, h.kept, h.base, h.glob⟩
  · obtain ⟨y, hy⟩ := Option.isSome_iff_exists.1 hn
    obtain ⟨_, b, hb, _⟩ := hp.1 n y (hget_mem hy)
    exact ⟨b, mem_nub.2 hb⟩
  · have hm := mn n b hb
    have hm' := mn n' b' hb'
    have hk := (has_same (r.name n b hm).2.1 (r.name n b hm).2.2 (k := k)).1 hk
    have hk' := (has_same (r.name n' b' hm').2.1 (r.name n' b' hm').2.2 (k := k)).1 hk'
    exact (uniq_ok hu n b n' b' hb hb').2 (h.disj b b' k (hp.2 n b hm) (hp.2 n' b' hm') hk hk')
  · have hm := mn n b hb
    have hk := (has_same (r.name n b hm).2.1 (r.name n b hm).2.2 (k := k)).1 hk
    exact h.own b k (hp.2 n b hm) hk
  · obtain ⟨_, b, hb, hfl⟩ := hp.1 n y (hget_mem hy)
    rw [(r.name n b hb).2.2]
    exact hfl hf q
theorem holes_ok (h : Sim X s a w g) : ∀ {hs : List (Nat × Nat × Sh)} {x : HT hs} {p : List (Nat × Nat)} {env : List (Nat × AV)}, gets s hs = some (x, p) → Ren g g' p → (∀ t, RV w g' (get env t) (a.tmps.getD t undef)) →
    (∀ t, RV w g' (get (fillEnv env hs x) t) (a.tmps.getD t undef)) ∧ Passed X s w g g' p (fillHeap hs x)
  | [], x, p, env, he, r, henv => by
    simp only [gets, Option.some.injEq, Prod.mk.injEq] at he
    obtain ⟨_, rfl⟩ := he
    exact ⟨henv, Passed.nil⟩
  | c :: hs, x, p, env, he, r, henv => by
    simp only [gets] at he
    split at he
    · rename_i x1 p1 x2 p2 e1 e2
      cases he
      obtain ⟨h1, h2⟩ := sh_ok h (h.env c.1) e1 r.left
      obtain ⟨h3, h4⟩ := holes_ok h e2 r.right henv
      refine ⟨fun t => ?_, h2.app h4⟩
      simp only [fillEnv, get]
      by_cases e : c.1 = t
      · subst e; rw [Nat.beq_refl]; exact h1
      · rw [beq_ne e]; exact h3 t
    · cases he
theorem keep_ok {D : Nat → Bool} {a' : Act} {w' : World} {t : Nat} (hok : ∀ k, g.ok k → k < w.heap.size → w'.heap[k]? = w.heap[k]? ∧ g'.ok k) (hslot : D t = false → a'.tmps.getD t undef = a.tmps.getD t undef) :
    ∀ {env : List (Nat × AV)}, RV w g (get env t) (a.tmps.getD t undef) → RV w' g' (get (keep D env) t) (a'.tmps.getD t undef)
  | [], _ => trivial
  | (k, v) :: r, h => by
    simp only [keep, get] at h ⊢
    by_cases e : k = t
    · subst e
      rw [Nat.beq_refl] at h ⊢
      simp only [cond_true] at h ⊢
      cases hb : (!D k && v.pure) with
      | false => trivial
      | true =>
        simp only [Bool.and_eq_true, Bool.not_eq_true'] at hb
        rw [hslot hb.1]
        exact RV.pure hok hb.2 h
    · rw [beq_ne e] at h ⊢
      exact keep_ok hok hslot h
/-- The state at a loop's head, or behind a join: made of what the holes hold now, and of what is known without a name since an elder time. -/
theorem Sim.fill {s0 : St} {a0 : Act} {w0 : World} {g0 : Gh} (h0 : Sim X s0 a0 w0 g0) {D : Nat → Bool} (f : Fut D a0 w0 g0 a w g) (h : Sim X s a w g) {hs : List (Nat × Nat × Sh)} {x : HT hs} {p : List (Nat × Nat)} (he : gets s hs = some (x, p)) (hu : okP p (fillHeap hs x) = true) :
    ∃ g', Sim X (YthgmnlfbgajchaaV.fill (keep D s0.env) hs x) a w g' ∧ Fut D a w g a w g' := by
  have hu' := hu
  simp only [okP, Bool.and_eq_true] at hu'
  have r := ren_nub (g := g) hu'.1
  have hk : ∀ t, RV w (g.ren (nub p)) (get (keep D s0.env) t) (a.tmps.getD t undef) := fun t => keep_ok (w := w0) (g := g0) (g' := g.ren (nub p)) (a := a0) (fun k hk hlt => f.ok k hk hlt) (f.slot t) (h0.env t)
  obtain ⟨h1, h2⟩ := holes_ok h he r hk
  exact ⟨g.ren (nub p), h.handed hu h.size h.defers h1 h2, ⟨fun _ _ => rfl, fun k hk _ => ⟨rfl, hk⟩, fun n h3 h4 h8 ⟨b, hb⟩ => by
    have e := uniq_nm hu'.1 n b hb h3 h4 h8
    subst e
    exact ⟨h2.2 n n (mem_nub.1 hb), (r.name n n (mem_nub.1 hb)).2.1⟩⟩⟩
end
/-! ### What is done before things are handed over -/
/-- Own rows among cells. -/
def ownsOf : List AV → List Nat
  | [] => []
  | .own b :: r => b :: ownsOf r
  | .dp b _ :: r => b :: ownsOf r
  | _ :: r => ownsOf r
def ckWants : List CK → List AV → List Nat
  | .v _ :: cs, .own b :: as => b :: ckWants cs as
  | _ :: cs, _ :: as => ckWants cs as
  | _, _ => []
/-- Own rows that are to be values. -/
def shWants (s : St) : Sh → AV → List Nat
  | .v _, a => ownsOf a.cells
  | .box _ cs, .ptr b 0 => match hget s.heap b with
    | some (.box _ as) => ckWants cs as
    | _ => []
  | .agg cs, .agg as => ckWants cs as
  | _, _ => []
def frzNames (s : St) : List Nat → Option St
  | [] => some s
  | b :: r => match hget s.heap b with
    | some (.row false e t l) => frzNames (s.kill b (.row e t l)) r
    | some (.deep e t l) => frzNames (s.thaw b (.row e t l) (innD t l)) r
    | none => frzNames s r
    | _ => none
/-- A nil slice gets a name. -/
def nilName (s : St) (n e : Nat) (t : Ty) : Option St := match hget s.heap n with
  | none => some ⟨s.env, (n, .row false e t []) :: s.heap⟩
  | some _ => none
def nilCells (s : St) : Nat → List CK → List AV → Option (St × List AV)
  | n, .own e t :: cs, .nilS :: as => match nilName s n e t with
    | some s => match nilCells s (n + 1) cs as with
      | some (s, as) => some (s, .own n :: as)
      | none => none
    | none => none
  | n, .pin e t :: cs, .nilS :: as => match nilName s n e t with
    | some s => match nilCells s (n + 1) cs as with
      | some (s, as) => some (s, .own n :: as)
      | none => none
    | none => none
  | n, _ :: cs, a :: as => match nilCells s (n + 1) cs as with
    | some (s, as) => some (s, a :: as)
    | none => none
  | _, _, as => some (s, as)
def nilSh (s : St) (n t : Nat) : Sh → Option St
  | .own false e ty => match get s.env t with
    | .nilS => match nilName s n e ty with
      | some s => some ⟨(t, .own n) :: s.env, s.heap⟩
      | none => none
    | _ => some s
  | .agg cs => match get s.env t with
    | .agg as => match nilCells s n cs as with
      | some (s, as) => some ⟨(t, .agg as) :: s.env, s.heap⟩
      | none => none
    | _ => some s
  | .box _ cs => match get s.env t with
    | .ptr b 0 => match hget s.heap b with
      | some (.box pin as) => match nilCells s n cs as with
        | some (s, as) => some ⟨s.env, (b, .box pin as) :: hdel s.heap b⟩
        | none => none
      | _ => some s
    | _ => some s
  | _ => some s
/-- Boxes that are to be written no more. -/
def capBoxes : List Cap → List AV → List Nat
  | .r _ :: cs, .ptr b 0 :: as => b :: capBoxes cs as
  | _ :: cs, _ :: as => capBoxes cs as
  | _, _ => []
def shBoxes : Sh → AV → List Nat
  | .fn _ caps, .fn _ as => capBoxes caps as
  | .rbox _, .ptr b 0 => [b]
  | _, _ => []
def holesBoxes (s : St) : List (Nat × Nat × Sh) → List Nat
  | [] => []
  | h :: r => shBoxes h.2.2 (get s.env h.1) ++ holesBoxes s r
def NB : Nat := 2000000
def shShort : Sh → Bool
  | .box _ cs => Nat.ble cs.length 64
  | .agg cs => Nat.ble cs.length 64
  | _ => true
def nilHoles (s : St) : Nat → List (Nat × Nat × Sh) → Option St
  | _, [] => some s
  | n, h :: r => chk (Nat.ble (n + 64) PB && shShort h.2.2) (match nilSh s n h.1 h.2.2 with
    | some s => nilHoles s (n + 64) r
    | none => none)
def holesWants (s : St) : List (Nat × Nat × Sh) → List Nat
  | [] => []
  | h :: r => shWants s h.2.2 (get s.env h.1) ++ holesWants s r
/-- Rows that are to be values are given away; nil slices that are to be own rows get names. -/
def prep (s : St) (hs : List (Nat × Nat × Sh)) : Option St := match frzNames s (holesWants s hs) with
  | some s => match frzBoxes s (holesBoxes s hs) with
    | some s => nilHoles s NB hs
    | none => none
  | none => none
section
variable {X : Cx} {s : St} {a : Act} {w : World} {g g' : Gh}
theorem frzNames_ok : ∀ {l : List Nat} {s s' : St} {g : Gh}, Sim X s a w g → frzNames s l = some s' → ∃ g', Sim X s' a w g' ∧ Frz g g'
  | [], s, s', g, h, he => by cases he; exact ⟨g, h, Frz.refl g⟩
  | b :: l, s, s', g, h, he => by
    simp only [frzNames] at he
    split at he
    · rename_i e t y hb
      obtain ⟨g1, h1, _, _, l1⟩ := h.freeze hb
      obtain ⟨g2, h5, l2⟩ := frzNames_ok h1 he
      exact ⟨g2, h5, l1.trans l2⟩
    · rename_i e t y hb
      obtain ⟨g1, h1, _, _, l1⟩ := h.freezeD hb
      obtain ⟨g2, h5, l2⟩ := frzNames_ok h1 he
      exact ⟨g2, h5, l1.trans l2⟩
    · exact frzNames_ok h he
    · cases he
mutual
theorem RV.unbox {b : Nat} {cs : List AV} (m : Mv w g (· = b) w g') (hr : g.live b → ∃ (k : Nat) (cells : List Value) (e : TypeId), g.val b = .pointer (some ⟨k, 0, none⟩) ∧ g'.ok k ∧ w.heap[k]? = some (.cells cells.toArray e (0, 0)) ∧ RVs w g' cs cells) :
    ∀ {a : AV} {v : Value}, RV w g a v → RV w g' (AV.unbox b cs a) v
  | .bad, _, _ => trivial
  | .undef, _, h => h
  | .int _ _, _, h => h
  | .bool _, _, h => h
  | .str _, _, h => h
  | .row _ t _, _, h => RowAt.move t.sz_pos (fun _ _ h => h.len) (fun _ _ h => Rep.move m.blk h) m.blk h
  | .own b', v, h => by
    unfold AV.unbox
    by_cases e : b' = b
    · subst e; rw [Nat.beq_refl]; trivial
    · rw [beq_ne e]
      exact ⟨(m.name b' e h.1).1, h.2.trans (m.name b' e h.1).2.1.symm⟩
  | .nilS, _, h => h
  | .agg _, _, ⟨cs, e, h⟩ => ⟨cs, e, RVs.unbox m hr h⟩
  | .tup _, _, ⟨cs, e, h⟩ => ⟨cs, e, RVs.unbox m hr h⟩
  | .ptr b' o, v, h => by
    unfold AV.unbox
    by_cases e : b' = b
    · subst e; rw [Nat.beq_refl]
      obtain ⟨hl, k, h1, h2⟩ := h
      obtain ⟨k', cells, e, q1, q2, q3, q4⟩ := hr hl
      rw [h1] at q1; cases q1
      exact ⟨k, cells, e, q2, q3, q4, h2⟩
    · rw [beq_ne e]
      obtain ⟨hl, k, h1, h2⟩ := h
      exact ⟨(m.name b' e hl).1, k, (m.name b' e hl).2.1.trans h1, h2⟩
  | .elt b' i sz o, v, h => by
    unfold AV.unbox
    by_cases e : b' = b
    · subst e; rw [Nat.beq_refl]; trivial
    · rw [beq_ne e]
      obtain ⟨hl, k, n, c, h1, h2⟩ := h
      exact ⟨(m.name b' e hl).1, k, n, c, (m.name b' e hl).2.1.trans h1, h2⟩
  | .relt _ t _ _ _, _, ⟨h0, h1, a, c, h, e⟩ => ⟨h0, h1, a, c, RowAt.move t.sz_pos (fun _ _ h => h.len) (fun _ _ h => Rep.move m.blk h) m.blk h, e⟩
  | .nilP, _, h => h
  | .nilI, _, h => h
  | .nxt _ _ _, _, h => h
  | .dp b' p, v, ⟨hl, h1⟩ => by
    unfold AV.unbox
    by_cases e : b' = b
    · subst e; rw [Nat.beq_refl]; trivial
    · rw [beq_ne e]
      exact ⟨(m.name b' e hl).1, by rw [(m.name b' e hl).2.2]; exact h1⟩
  | .de b' p sz o, v, ⟨hl, q, i, k, n, c, h1, h2, h3⟩ => by
    unfold AV.unbox
    by_cases e : b' = b
    · subst e; rw [Nat.beq_refl]; trivial
    · rw [beq_ne e]
      exact ⟨(m.name b' e hl).1, q, i, k, n, c, h1, by rw [Gh.at_eq (m.name b' e hl).2.1 (m.name b' e hl).2.2]; exact h2, h3⟩
  | .rptr _ _, _, ⟨k, cs, e, h1, h2, h3, h4⟩ => ⟨k, cs, e, (m.blk k h1 (by
      rcases Nat.lt_or_ge k w.heap.size with h | h
      · exact h
      · rw [Array.getElem?_eq_none h] at h2; cases h2)).2, h2, RVs.unbox m hr h3, h4⟩
  | .fn _ _, _, ⟨cs, e, h⟩ => ⟨cs, e, RVs.unbox m hr h⟩
theorem RVs.unbox {b : Nat} {cs : List AV} (m : Mv w g (· = b) w g') (hr : g.live b → ∃ (k : Nat) (cells : List Value) (e : TypeId), g.val b = .pointer (some ⟨k, 0, none⟩) ∧ g'.ok k ∧ w.heap[k]? = some (.cells cells.toArray e (0, 0)) ∧ RVs w g' cs cells) :
    ∀ {as : List AV} {vs : List Value}, RVs w g as vs → RVs w g' (AV.unboxs b cs as) vs
  | [], [], _ => trivial
  | _ :: _, _ :: _, h => ⟨RV.unbox m hr h.1, RVs.unbox m hr h.2⟩
  | [], _ :: _, h => h.elim
  | _ :: _, [], h => h.elim
end
theorem get_unboxEnv (b : Nat) (cs : List AV) (t : Nat) : ∀ x : List (Nat × AV), get (unboxEnv b cs x) t = AV.unbox b cs (get x t)
  | [] => rfl
  | (k, v) :: x => by
    simp only [unboxEnv, get]
    cases Nat.beq k t with
    | true => rfl
    | false => exact get_unboxEnv b cs t x
theorem hget_unboxHeap (b : Nat) (cs : List AV) (t : Nat) : ∀ x : List (Nat × Blk), hget (unboxHeap b cs x) t = if t = b then none else (hget x t).map (Blk.unbox b cs)
  | [] => by simp [unboxHeap, hget]
  | (k, v) :: x => by
    simp only [unboxHeap]
    by_cases e : k = b
    · subst e
      rw [Nat.beq_refl]
      simp only [cond_true, hget_unboxHeap k cs t x]
      by_cases h : t = k
      · simp [h]
      · rw [if_neg h, if_neg h]; simp only [hget]; rw [beq_ne (Ne.symm h)]; rfl
    · rw [beq_ne e]
      simp only [cond_false, hget]
      by_cases h : k = t
      · subst h; simp [e]
      · rw [beq_ne h]; exact hget_unboxHeap b cs t x
theorem Sim.frzBox (h : Sim X s a w g) {b : Nat} {cs : List AV} (hb : hget s.heap b = some (.box false cs)) (hp : AV.pures cs = true) : ∃ g', Sim X ⟨unboxEnv b cs s.env, unboxHeap b cs s.heap⟩ a w g' ∧ Frz g g' := by
  have hl : g.live b := (h.live b).2 (by rw [hb]; rfl)
  obtain ⟨k, cells, e, q1, q2, q3, q4⟩ := h.blk b _ hb
  let ok : Nat → Prop := fun k => g.ok k ∨ g.has b k
  have m : Mv w g (· = b) w (g.kill b ok) := ⟨fun k hk _ => ⟨rfl, .inl hk⟩, fun n hn hl => ⟨⟨hl, hn⟩, rfl, rfl⟩⟩
  have hr : g.live b → ∃ (k : Nat) (cells : List Value) (e : TypeId), g.val b = .pointer (some ⟨k, 0, none⟩) ∧ (g.kill b ok).ok k ∧ w.heap[k]? = some (.cells cells.toArray e (0, 0)) ∧ RVs w (g.kill b ok) cs cells := fun _ =>
    ⟨k, cells, e, q1, .inr (.inl (by rw [q1]; rfl)), q3, RVs.pure (g := g) (w := w) (fun k hk _ => ⟨rfl, Or.inl hk⟩) hp q4⟩
  have hnew : ∀ k', ok k' → g.ok k' ∨ (g.has b k' ∧ X.B ≤ k') := fun k' hk => by
    rcases hk with hk | hk
    · exact .inl hk
    · have h1 := flat_has h hb rfl hk
      rw [q1] at h1
      cases h1
      exact .inr ⟨hk, q2⟩
  refine ⟨g.kill b ok, ⟨fun t => ?_, fun n => ?_, fun n x hx => ?_, fun n n' k hn hn' => h.disj n n' k hn.1 hn'.1, fun n k' hn hk => ?_, fun n x hx hf => ?_, fun k' hk => ?_, h.size, h.defers, h.kept, h.base, h.glob.move m.blk⟩, fun _ hk => .inl hk, fun n hn => ⟨hn.1, rfl, rfl⟩, fun n k' hln hk => ?_⟩
  · show RV w _ (get (unboxEnv b cs s.env) t) _
    rw [get_unboxEnv]; exact (h.env t).unbox m hr
  · show g.live n ∧ n ≠ b ↔ (hget (unboxHeap b cs s.heap) n).isSome = true
    rw [hget_unboxHeap, h.live n]
    by_cases e : n = b
    · simp [e]
    · simp [e]
  · change hget (unboxHeap b cs s.heap) n = some x at hx
    rw [hget_unboxHeap] at hx
    by_cases e : n = b
    · simp [e] at hx
    · rw [if_neg e] at hx
      cases hy : hget s.heap n with
      | none => rw [hy] at hx; cases hx
      | some y =>
        rw [hy] at hx
        simp only [Option.map_some, Option.some.injEq] at hx
        subst hx
        have hbl := h.blk n y hy
        cases y with
        | row pin e' t l => exact hbl.sub (r := .bad) m (fun _ => trivial) rfl rfl (fun _ _ => rfl)
        | deep e' t l => exact hbl.sub (r := .bad) m (fun _ => trivial) rfl rfl (fun _ _ => rfl)
        | obj k' y' => exact hbl.sub (r := .bad) m (fun _ => trivial) rfl rfl (fun _ _ => rfl)
        | box pin vs =>
          obtain ⟨k2, cells2, e2, p1, p2, p3, p4⟩ := hbl
          exact ⟨k2, cells2, e2, p1, p2, p3, p4.unbox m hr⟩
  · obtain ⟨h1, h2, h3⟩ := h.own n k' hn.1 hk
    refine ⟨h1, h2, fun ho => ?_⟩
    rcases hnew k' ho with h4 | ⟨h4, _⟩
    · exact h3 h4
    · exact hn.2 (h.disj n b k' hn.1 hl hk h4)
  · change hget (unboxHeap b cs s.heap) n = some x at hx
    rw [hget_unboxHeap] at hx
    by_cases e : n = b
    · simp [e] at hx
    · rw [if_neg e] at hx
      cases hy : hget s.heap n with
      | none => rw [hy] at hx; cases hx
      | some y =>
        rw [hy] at hx
        simp only [Option.map_some, Option.some.injEq] at hx
        subst hx
        exact h.flat n y hy (by cases y <;> exact hf)
  · rcases hnew k' hk with h4 | ⟨h4, h5⟩
    · exact h.ok k' h4
    · exact ⟨(h.own b k' hl h4).1, fun hlt => absurd hlt (by omega)⟩
  · by_cases e : n = b
    · subst e; exact .inl (.inr hk)
    · exact .inr ⟨hln, e⟩
theorem frzBoxes_ok : ∀ {l : List Nat} {s s' : St} {g : Gh}, Sim X s a w g → frzBoxes s l = some s' → ∃ g', Sim X s' a w g' ∧ Frz g g'
  | [], s, s', g, h, he => by cases he; exact ⟨g, h, Frz.refl g⟩
  | b :: l, s, s', g, h, he => by
    simp only [frzBoxes] at he
    split at he
    · rename_i cs hb
      replace he := cond_some he
      obtain ⟨hp, he⟩ := he
      obtain ⟨g1, h1, l1⟩ := h.frzBox hb hp
      obtain ⟨g2, h5, l2⟩ := frzBoxes_ok h1 he
      exact ⟨g2, h5, l1.trans l2⟩
    · exact frzBoxes_ok h he
    · cases he
/-- Names come up, and none dies: the world stays. -/
structure Ext (g g1 : Gh) : Prop where
  ok : g1.ok = g.ok
  live : ∀ n, g.live n → g1.live n ∧ g1.val n = g.val n ∧ g1.inn n = g.inn n
  nm : ∀ n, PB ≤ n → n < RB → g1.live n → g.live n
theorem Ext.refl (g : Gh) : Ext g g := ⟨rfl, fun _ h => ⟨h, rfl, rfl⟩, fun _ _ _ h => h⟩
theorem Ext.trans {g g1 g2 : Gh} (h : Ext g g1) (h' : Ext g1 g2) : Ext g g2 := ⟨h'.ok.trans h.ok, fun n hn => by
  obtain ⟨a1, a2, a3⟩ := h.live n hn
  obtain ⟨b1, b2, b3⟩ := h'.live n a1
  exact ⟨b1, b2.trans a2, b3.trans a3⟩, fun n h1 h2 hl => h.nm n h1 h2 (h'.nm n h1 h2 hl)⟩
theorem Ext.mv {g g1 : Gh} (h : Ext g g1) : Mv w g (fun _ => False) w g1 := ⟨fun k hk _ => ⟨rfl, by rw [h.ok]; exact hk⟩, fun n _ hl => h.live n hl⟩
theorem Ext.okMv {g g1 : Gh} (h : Ext g g1) : OkMv w g w g1 := fun k hk _ => ⟨rfl, by rw [h.ok]; exact hk⟩
theorem Ext.nms {g g1 : Gh} (h : Ext g g1) : Nm g g1 := fun n h1 h2 _ hl => ⟨h.nm n h1 h2 hl, (h.live n (h.nm n h1 h2 hl)).2.1⟩
theorem grown_refl : w.grownBy w none := ⟨rfl, rfl, rfl, Nat.le_refl _, fun _ _ _ => rfl⟩
theorem nilName_ok (h : Sim X s a w g) {n e : Nat} {t : Ty} (hn : n < PB ∨ RB ≤ n) {s' : St} (he : nilName s n e t = some s') : ∃ g', Sim X s' a w g' ∧ Ext g g' ∧ s'.env = s.env ∧ g'.live n ∧ g'.val n = .slice none 0 0 ∧ ∀ b x, hget s.heap b = some x → hget s'.heap b = some x := by
  unfold nilName at he
  split at he
  · rename_i hd
    cases he
    refine ⟨g.set n (.slice none 0 0), h.fresh hd (x := .row false e t []) grown_refl (fun k hk => by cases hk) (own_set (by simpa using World.ownsRow_nil w X.B e t.sz) rfl), ⟨rfl, fun m hm => ?_, fun m h1 _ hl => ?_⟩, rfl, .inr rfl, if_pos rfl, fun b x hb => ?_⟩
    · have hne : m ≠ n := fun e => not_live h hd (by rw [← e]; exact hm)
      exact ⟨.inl hm, if_neg hne, if_neg hne⟩
    · exact hl.resolve_right (by omega)
    · rw [hget_cons, if_neg]
      · exact hb
      · intro e; subst e; rw [hd] at hb; cases hb
  · cases he
theorem nilCells_ok : ∀ {cs : List CK} {n : Nat} {as : List AV} {vs : List Value} {s : St} {g : Gh} {s' : St} {as' : List AV}, Sim X s a w g → RVs w g as vs → (n + cs.length ≤ PB ∨ RB ≤ n) → nilCells s n cs as = some (s', as') →
    ∃ g', Sim X s' a w g' ∧ Ext g g' ∧ RVs w g' as' vs ∧ s'.env = s.env ∧ ∀ b x, hget s.heap b = some x → hget s'.heap b = some x := by
  intro cs
  induction cs with
  | nil =>
    intro n as vs s g s' as' h hr _ he
    have : nilCells s n [] as = some (s, as) := by cases as <;> rfl
    rw [this] at he; cases he
    exact ⟨g, h, Ext.refl g, hr, rfl, fun _ _ hb => hb⟩
  | cons c cs ih =>
    intro n as vs s g s' as' h hr hn he
    rw [List.length_cons] at hn
    cases as with
    | nil =>
      have : nilCells s n (c :: cs) [] = some (s, []) := by cases c <;> rfl
      rw [this] at he; cases he
      exact ⟨g, h, Ext.refl g, hr, rfl, fun _ _ hb => hb⟩
    | cons v as =>
      cases vs with
      | nil => exact hr.elim
      | cons u vs =>
        have other : (match nilCells s (n + 1) cs as with
          | some (s, as) => some (s, v :: as)
          | none => none) = some (s', as') → ∃ g', Sim X s' a w g' ∧ Ext g g' ∧ RVs w g' as' (u :: vs) ∧ s'.env = s.env ∧ ∀ b x, hget s.heap b = some x → hget s'.heap b = some x := fun he => by
          split at he
          · rename_i s1 as1 e1
            cases he
            obtain ⟨g1, h1, h2, h3, h4, h5⟩ := ih h hr.2 (by omega) e1
            exact ⟨g1, h1, h2, ⟨hr.1.move h2.mv, h3⟩, h4, h5⟩
          · cases he
        cases c with
        | v t => exact other (by cases v <;> exact he)
        | own e t =>
          cases v <;> first | exact other he | skip
          simp only [nilCells] at he
          split at he
          · rename_i s1 e1
            obtain ⟨g1, h1, h2, h3, h4, h5, h6⟩ := nilName_ok h (by omega) e1
            split at he
            · rename_i s2 as2 e2
              cases he
              obtain ⟨g2, q1, q2, q3, q4, q5⟩ := ih h1 (hr.2.move h2.mv) (by omega) e2
              refine ⟨g2, q1, h2.trans q2, ⟨⟨(q2.live n h4).1, ?_⟩, q3⟩, q4.trans h3, fun b x hb => q5 b x (h6 b x hb)⟩
              rw [(q2.live n h4).2.1, h5]
              exact hr.1
            · cases he
          · cases he
        | pin e t =>
          cases v <;> first | exact other he | skip
          simp only [nilCells] at he
          split at he
          · rename_i s1 e1
            obtain ⟨g1, h1, h2, h3, h4, h5, h6⟩ := nilName_ok h (by omega) e1
            split at he
            · rename_i s2 as2 e2
              cases he
              obtain ⟨g2, q1, q2, q3, q4, q5⟩ := ih h1 (hr.2.move h2.mv) (by omega) e2
              refine ⟨g2, q1, h2.trans q2, ⟨⟨(q2.live n h4).1, ?_⟩, q3⟩, q4.trans h3, fun b x hb => q5 b x (h6 b x hb)⟩
              rw [(q2.live n h4).2.1, h5]
              exact hr.1
            · cases he
          · cases he
        | self i ns => exact other (by cases v <;> exact he)
        | clo i cs' => exact other (by cases v <;> exact he)
theorem Sim.reput (h : Sim X s a w g) {t : Nat} {v : AV} (hv : RV w g v (a.tmps.getD t undef)) : Sim X (s.put (some t) v) a w g := by
  refine ⟨fun u => ?_, h.live, h.blk, h.disj, h.own, h.flat, h.ok, h.size, h.defers, h.kept, h.base, h.glob⟩
  rw [get_put]
  by_cases e : t = u
  · subst e; rw [if_pos rfl]; exact hv
  · rw [if_neg (by simpa using e)]; exact h.env u
theorem Sim.rebox (h : Sim X s a w g) {b : Nat} {pin : Bool} {as as1 : List AV} (hb : hget s.heap b = some (.box pin as)) (hx : BlkRel X.B w g b (.box pin as1)) : Sim X ⟨s.env, (b, .box pin as1) :: hdel s.heap b⟩ a w g := by
  refine ⟨h.env, fun n => ?_, fun n y hy => ?_, h.disj, h.own, fun n y hy hf => ?_, h.ok, h.size, h.defers, h.kept, h.base, h.glob⟩
  · rw [h.live n]
    show _ ↔ (hget ((b, .box pin as1) :: hdel s.heap b) n).isSome = true
    rw [hget_set]
    by_cases e : n = b
    · subst e; rw [if_pos rfl, hb]; simp
    · rw [if_neg e]
  · change hget ((b, .box pin as1) :: hdel s.heap b) n = some y at hy
    rw [hget_set] at hy
    by_cases e : n = b
    · subst e; rw [if_pos rfl] at hy; cases hy; exact hx
    · rw [if_neg e] at hy; exact h.blk n y hy
  · change hget ((b, .box pin as1) :: hdel s.heap b) n = some y at hy
    rw [hget_set] at hy
    by_cases e : n = b
    · subst e; exact h.flat n _ hb rfl
    · rw [if_neg e] at hy; exact h.flat n y hy hf
theorem nilSh_ok (h : Sim X s a w g) {n t : Nat} {c : Sh} (hn : n + 64 ≤ PB) (hc : ∀ cs pin, c = .box pin cs ∨ c = .agg cs → cs.length ≤ 64) {s' : St} (he : nilSh s n t c = some s') : ∃ g', Sim X s' a w g' ∧ Ext g g' := by
  have stay : some s = some s' → ∃ g', Sim X s' a w g' ∧ Ext g g' := fun e => by cases e; exact ⟨g, h, Ext.refl g⟩
  cases c with
  | own pin e ty =>
    cases pin with
    | true => exact stay he
    | false =>
      simp only [nilSh] at he
      split at he
      · rename_i hv
        split at he
        · rename_i s1 e1
          cases he
          obtain ⟨g1, h1, h2, h3, h4, h5, _⟩ := nilName_ok h (by omega) e1
          have hv' := h.env t
          rw [hv] at hv'
          exact ⟨g1, h1.reput (t := t) (v := .own n) ⟨h4, by rw [h5]; exact hv'⟩, h2⟩
        · cases he
      · exact stay he
  | agg cs =>
    simp only [nilSh] at he
    split at he
    · rename_i as hv
      split at he
      · rename_i s1 as1 e1
        cases he
        have hv' := h.env t
        rw [hv] at hv'
        obtain ⟨vs, hvs, hr⟩ := hv'
        obtain ⟨g1, h1, h2, h3, h4, _⟩ := nilCells_ok h hr (.inl (by have := hc cs true (.inr rfl); omega)) e1
        exact ⟨g1, h1.reput (t := t) (v := .agg as1) ⟨vs, hvs, h3⟩, h2⟩
      · cases he
    · exact stay he
  | box pin cs =>
    simp only [nilSh] at he
    split at he
    · rename_i b hv
      split at he
      · rename_i pin' as hb
        split at he
        · rename_i s1 as1 e1
          cases he
          obtain ⟨k, cells, e, q1, q2, q3, q4⟩ := h.blk b _ hb
          obtain ⟨g1, h1, h2, h3, h4, h5⟩ := nilCells_ok h q4 (.inl (by have := hc cs pin (.inl rfl); omega)) e1
          have hb1 := h5 b _ hb
          have hl : g.live b := (h.live b).2 (by rw [hb]; rfl)
          exact ⟨g1, h1.rebox hb1 ⟨k, cells, e, by rw [(h2.live b hl).2.1]; exact q1, q2, q3, h3⟩, h2⟩
        · cases he
      · exact stay he
    · exact stay he
  | _ => exact stay he
theorem nilHoles_ok : ∀ {hs : List (Nat × Nat × Sh)} {n : Nat} {s s' : St} {g : Gh}, Sim X s a w g → nilHoles s n hs = some s' → ∃ g', Sim X s' a w g' ∧ Ext g g'
  | [], _, _, _, g, h, he => by cases he; exact ⟨g, h, Ext.refl g⟩
  | c :: hs, n, s, s', g, h, he => by
    simp only [nilHoles] at he
    obtain ⟨h0, he⟩ := chk_some he
    simp only [Bool.and_eq_true] at h0
    split at he
    · rename_i s1 e1
      obtain ⟨g1, h1, h2⟩ := nilSh_ok h (Nat.le_of_ble_eq_true h0.1) (fun cs pin hc => by
        have h3 := h0.2
        rcases hc with hc | hc <;> rw [hc] at h3 <;> exact Nat.le_of_ble_eq_true h3) e1
      obtain ⟨g2, h3, h4⟩ := nilHoles_ok h1 he
      exact ⟨g2, h3, h2.trans h4⟩
    · cases he
theorem prep_ok (h : Sim X s a w g) {hs : List (Nat × Nat × Sh)} {s' : St} (he : prep s hs = some s') : ∃ g', Sim X s' a w g' ∧ OkMv w g w g' ∧ Nm g g' := by
  unfold prep at he
  split at he
  · rename_i s1 e1
    obtain ⟨g1, h1, h2⟩ := frzNames_ok h e1
    split at he
    · rename_i s2 e2
      obtain ⟨g2, h3, h4⟩ := frzBoxes_ok h1 e2
      obtain ⟨g3, h5, h6⟩ := nilHoles_ok h3 he
      exact ⟨g3, h5, h2.okMv.trans (h4.okMv.trans h6.okMv), h2.nm.trans (h4.nm.trans h6.nms)⟩
    · cases he
  · cases he
end
end Go.Proofs.YthgmnlfbgajchaaV

/- slices.DeleteFunc as a rule of a run: each step holds of the model's own run. Conditions: those that each theorem states. -/
/- A checked abstract run of Go functions: slices.DeleteFunc of an own row of whole numbers as a rule of a run. -/
import Derived.Test.YtobeolfihkhlgaaVaiSort
namespace Go.Proofs.YtobeolfihkhlgaaV
set_option linter.unusedVariables false
set_option linter.unusedSimpArgs false
open Go.Sort
def keepI (p : Int → Bool) (l : List Int) : List Int := l.filter fun x => !p x
def delRule (f f1 : Nat) (p : Int → Bool) : Rule := ⟨f, fun d s avs _ K => match avs with
  | [.own b, .fn g1 []] => bif Nat.beq g1 f1 then (match hget s.heap b with
    | some (.row pin e t l) => match castL (.int .i64) t l with
      | some l => chk (decide (1 ≤ List.length l)) (chk (decide (List.length l ≤ 1000000000)) (match hget (s.kill b .bad).heap d with
        | none => K ⟨(s.kill b .bad).env, (d, .row pin e (.int .i64) (keepI p l)) :: (s.kill b .bad).heap⟩ (.own d)
        | some _ => none))
      | none => none
    | _ => none) else none
  | _ => none⟩
section
variable {P : Program} {X : Cx} {s : St} {a : Act} {w w' : World} {g g' : Gh}
theorem put_grown0 (n blk off : Nat) (d : Array Int) : w.grownBy (putRow (Value.int .i64) (Sort.ahead w n) blk off d) (some blk) := by
  refine ⟨rfl, rfl, rfl, by simp [putRow, mapBlock], fun k hk hne => ?_⟩
  have hne : k ≠ blk := fun e => hne (by rw [e])
  simp only [putRow, mapBlock, heap_ahead, Array.getElem?_modify]
  rw [if_neg (fun e => hne e.symm)]
theorem put_cells0 {blk : Nat} {cur : Array Value} {e : Nat} {fr : Nat × Nat} (n : Nat) (d : Array Int) (hb : w.heap[blk]? = some (.cells cur e fr)) : (putRow (Value.int .i64) (Sort.ahead w n) blk 0 d).heap[blk]? = some (.cells (putCells (Value.int .i64) 0 d cur) e fr) := by
  simp only [putRow, mapBlock, heap_ahead, Array.getElem?_modify, hb]
  simp [onCells]
theorem del_step {f f1 : Nat} {p : Int → Bool}
    (hc : ∀ (blk cap : Nat) (zs : List Int) (w : World), Holds (Value.int .i64) w blk 0 zs.toArray → zs.length ≤ cap → zs.length ≤ 1000000000 →
      Calls P f #[.slice (some ⟨blk, 0, none⟩) zs.length cap, .func (.func f1) #[] #[]] w fun e w' => e = .returned (.slice (some ⟨blk, 0, none⟩) (keepI p zs).length cap) ∧ ∃ q, w' = putRow (Value.int .i64) (Sort.ahead w q) blk 0 (keepI p zs ++ List.replicate (zs.length - (keepI p zs).length) 0).toArray)
    (h : Sim X s a w g) {b d : Nat} {pin : Bool} {e : Nat} (l : List Int) (hb : hget s.heap b = some (.row pin e (.int .i64) l)) (h1 : 1 ≤ l.length) (h9 : l.length ≤ 1000000000) (hd : hget (s.kill b .bad).heap d = none) {T : List Nat} (hT : b ∈ T) {N : Value → World → Prop}
    (hN : ∀ w' g' cv, Sim X ⟨(s.kill b .bad).env, (d, .row pin e (.int .i64) (keepI p l)) :: (s.kill b .bad).heap⟩ a w' g' → RV w' g' (.own d) cv → Chg d T w g w' g' → N cv w') :
    Calls P f #[g.val b, .func (.func f1) #[] #[]] w fun e w' => ∃ v, e = .returned v ∧ N v w' := by
  have hl : g.live b := (h.live b).2 (by rw [hb]; rfl)
  obtain ⟨inner, ⟨q1, q2⟩, q3⟩ := h.blk b _ hb
  have hin := reps_int q3
  rcases q2 with ⟨q2, q4⟩ | ⟨k, cap, cur, q2, q4, q5, q6, q7, q8, q9⟩
  · have q4 : l.length = 0 := q4
    omega
  · have q2 : g.val b = .slice (some ⟨k, 0, none⟩) l.length cap := q2
    have q6 : l.length ≤ cap := q6
    have q8 : cur.size = cap * 1 := q8
    have q9 : cur.toList.take (l.length * 1) = inner := q9
    have hin : inner = l.map (Value.int .i64 ·) := hin
    rw [Nat.mul_one] at q8 q9
    rw [q2]
    have htake : cur.toList.take l.length = l.map (Value.int .i64 ·) := by rw [← hin, ← q9]
    have hH : Holds (Value.int .i64) w k 0 l.toArray := fun j hj => by
      have hj' : j < l.length := by simpa using hj
      constructor
      · have : (cur.toList.take l.length)[j]? = (l.map (Value.int .i64 ·))[j]? := by rw [htake]
        rw [List.getElem?_take, if_pos hj', List.getElem?_map, List.getElem?_eq_getElem hj'] at this
        simp only [World.cell?, q5, Nat.zero_add]
        rw [if_neg (by simp), ← Array.getElem?_toList, this]
        simp [hj']
      · simp [World.frozen?, q5]
    refine (hc k cap l w hH q6 h9).mono ?_
    rintro e' w' ⟨rfl, n, rfl⟩
    have hkl : (keepI p l).length ≤ l.length := List.length_filter_le _ _
    have hall : (keepI p l ++ List.replicate (l.length - (keepI p l).length) (0 : Int)).length = l.length := by rw [List.length_append, List.length_replicate]; omega
    have hg : w.grownBy (putRow (Value.int .i64) (Sort.ahead w n) k 0 (keepI p l ++ List.replicate (l.length - (keepI p l).length) 0).toArray) (some k) := put_grown0 n k 0 _
    have hkb : g.has b k := .inl (by rw [q2]; rfl)
    have hkill := h.kill b g.ok (fun _ hk => hk) .bad (fun k hk => .inl hk) (fun _ => trivial)
    have hlt : k < w.heap.size := (Array.getElem?_eq_some_iff.1 q5).1
    have hrow : ∀ k', some k = some k' → ¬ g.ok k' ∧ (∀ n, n ≠ d → (g.kill b g.ok).live n → ¬ (g.kill b g.ok).has n k') ∧ (k' < X.B → X.M k') := fun k' e => by
      cases e
      have := h.own b k hl hkb
      exact ⟨this.2.2, fun n _ hn e1 => hn.2 (h.disj n b k hn.1 hl e1 hkb), this.2.1⟩
    have hok : OkMv w g (putRow (Value.int .i64) (Sort.ahead w n) k 0 (keepI p l ++ List.replicate (l.length - (keepI p l).length) 0).toArray) ((g.kill b g.ok).set d (.slice (some ⟨k, 0, none⟩) (keepI p l).length cap)) := fun k' hk' hlt' => ⟨hg.block k' hlt' (fun e1 => (hrow k' e1.symm).1 hk'), hk'⟩
    have hnl := not_live hkill hd
    have ho : (putRow (Value.int .i64) (Sort.ahead w n) k 0 (keepI p l ++ List.replicate (l.length - (keepI p l).length) 0).toArray).ownsRow (bif pin then 0 else X.B) e (Ty.int .i64).sz (.slice (some ⟨k, 0, none⟩) (keepI p l).length cap) (keepI p l).length ((keepI p l).map (Value.int .i64 ·)) := by
      refine ⟨?_, .inr ⟨k, cap, _, rfl, q4, put_cells0 n _ q5, ?_, q7, ?_, ?_⟩⟩
      · show ((keepI p l).map (Value.int .i64 ·)).length = (keepI p l).length * 1
        simp
      · show (keepI p l).length ≤ cap
        omega
      · show (putCells _ _ _ _).size = cap * 1
        simpa [putCells] using q8
      · show List.take ((keepI p l).length * 1) _ = _
        rw [put_list _ (by rw [hall]; omega), Nat.mul_one, List.map_append, List.append_assoc, List.take_append_of_le_length (by simp), List.take_of_length_le (by simp)]
    have hs := hkill.upd d (.row pin e (.int .i64) (keepI p l)) (.slice (some ⟨k, 0, none⟩) (keepI p l).length cap) ((d, .row pin e (.int .i64) (keepI p l)) :: (s.kill b .bad).heap) (some k) (fun n => hget_cons d n _ _) hg hrow (fun hl' => absurd hl' hnl) (fun k' hk' => by
      cases hk'
      exact ⟨Nat.lt_of_lt_of_le hlt hg.size, .inl rfl⟩) (own_set ho int_reps)
    refine ⟨_, rfl, hN _ _ _ hs ⟨.inr rfl, (if_pos rfl).symm⟩ ⟨hok, fun n _ hn hl => ?_, fun n k' hn hln hkn => ⟨?_, ?_⟩⟩⟩
    · have hl : (g.live n ∧ n ≠ b) ∨ n = d := hl
      exact ⟨(hl.resolve_right hn).1, if_neg hn, fun _ => if_neg hn⟩
    · refine hg.block k' (h.own n k' hln hkn).1 fun e => hn ?_
      cases e
      rw [h.disj n b k hln hl hkn hkb]; exact hT
    · refine .inr (.inl ⟨hln, fun e => hn ?_⟩)
      rw [e]; exact hT
theorem delRule_ok {f f1 : Nat} {p : Int → Bool} (hfn : ∃ fn, P.funcs[f]? = some fn ∧ (fn.name == "runtime.NumGoroutine") = false ∧ fn.body.isSome = true)
    (hc : ∀ (blk cap : Nat) (zs : List Int) (w : World), Holds (Value.int .i64) w blk 0 zs.toArray → zs.length ≤ cap → zs.length ≤ 1000000000 →
      Calls P f #[.slice (some ⟨blk, 0, none⟩) zs.length cap, .func (.func f1) #[] #[]] w fun e w' => e = .returned (.slice (some ⟨blk, 0, none⟩) (keepI p zs).length cap) ∧ ∃ q, w' = putRow (Value.int .i64) (Sort.ahead w q) blk 0 (keepI p zs ++ List.replicate (zs.length - (keepI p zs).length) 0).toArray) : RuleOk P (delRule f f1 p) := by
  refine ⟨hfn, fun X s a w g d avs vs α K xx h hdp hr he N hN => ?_⟩
  unfold delRule at he
  simp only at he
  split at he
  · rename_i b g1
    obtain ⟨v, u, rfl, hv, hu⟩ : ∃ v u, vs = [v, u] ∧ RV w g (.own b) v ∧ RV w g (.fn g1 []) u := by
      match vs, hr with
      | [v, u], hr => exact ⟨v, u, rfl, hr.1, hr.2.1⟩
    cases hbq : Nat.beq g1 f1 with
    | false => rw [hbq] at he; cases he
    | true =>
      rw [hbq, cond_true] at he
      obtain rfl := Nat.eq_of_beq_eq_true hbq
      obtain ⟨cs, rfl, hcs⟩ := hu
      have hcs0 : cs = [] := by
        cases cs with
        | nil => rfl
        | cons x r => exact hcs.elim
      subst hcs0
      split at he
      · rename_i pin e t l hb
        split at he
        · rename_i l0 hcl
          obtain ⟨e0, hq⟩ := castL_some hcl
          cases e0
          obtain rfl := eq_of_heq hq
          obtain ⟨h1, he⟩ := chk_some he
          obtain ⟨h9, he⟩ := chk_some he
          split at he
          · rename_i hd
            obtain ⟨hl, rfl⟩ := hv
            exact del_step hc h (d := d) l0 hb (of_decide_eq_true h1) (of_decide_eq_true h9) hd (T := names [.own b, .fn g1 []]) (by simp [names, argNames, nameOf]) fun w' g' cv e1 e2 e3 => hN _ _ _ _ _ he e1 e2 e3
          · cases he
        · cases he
      · cases he
  · cases he
end
end Go.Proofs.YtobeolfihkhlgaaV

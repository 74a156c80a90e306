/- A run of Go code over known values: what is known, and the run itself: each step holds of the model's own run. Conditions: those that each theorem states. -/
/- A checked abstract run of Go functions: values stand for memory. The definitions. -/
import Derived.Calls
import Derived.Laws.BytesArg
namespace Go.Proofs.YthgmnlfbgajchaaV
set_option linter.unusedVariables false
set_option linter.unusedSimpArgs false
/-! ### Kinds of values -/
inductive Ty where
  | int (k : IntKind) | bool | str | slc (e : Nat) (t : Ty) | pr (a b : Ty)
  deriving DecidableEq
def Ty.T : Ty → Type
  | .int _ => Int
  | .bool => Bool
  | .str => ByteArray
  | .slc _ t => List t.T
  | .pr a b => a.T × b.T
def Ty.sz : Ty → Nat
  | .pr a b => a.sz + b.sz
  | _ => 1
def Ty.zero : (t : Ty) → t.T
  | .int _ => (0 : Int)
  | .bool => false
  | .str => ByteArray.empty
  | .slc _ _ => []
  | .pr a b => (a.zero, b.zero)
/-- The zero value's cells. -/
def Ty.zcells : Ty → List Value
  | .int k => [.int k 0]
  | .bool => [.bool false]
  | .str => [.string ByteArray.empty]
  | .slc _ _ => [.slice none 0 0]
  | .pr a b => a.zcells ++ b.zcells
/-- What is known of a value. -/
inductive AV where
  | bad
  | undef                                                           -- what an operation that isn't wanted leaves
  | int (k : IntKind) (n : Int)
  | bool (b : Bool)
  | str (s : ByteArray)
  | row (e : Nat) (t : Ty) (l : List t.T)                          -- a row that no one writes
  | own (b : Nat)                                                   -- the slice of an own row
  | nilS
  | agg (vs : List AV)
  | tup (vs : List AV)
  | ptr (b o : Nat)                                                 -- a cell of a box
  | elt (b : Nat) (i : Int) (sz o : Nat)                            -- a cell of an own row's element
  | relt (e : Nat) (t : Ty) (l : List t.T) (i : Int) (o : Nat)      -- a cell of an element of a row that no one writes
  | nilP
  | nilI                                     -- an interface value that is nil
  | dp (b : Nat) (p : List Int)                                     -- the slice of a deep row's inner row
  | de (b : Nat) (p : List Int) (sz o : Nat)                           -- a cell of an inner row's element
  | rptr (cs : List AV) (o : Nat)                                  -- a cell of a box that no one writes
  | fn (f : Nat) (caps : List AV)
  | nxt (ok : Bool) (i c : Int)              -- what a string's iterator answers
/-- Objects of the machine: a map from whole numbers, a string's iterator. -/
inductive ObK where
  | map (t : Ty) | iter
  deriving DecidableEq
def ObK.T : ObK → Type
  | .map t => List (Int × t.T)
  | .iter => ByteArray × Nat
inductive Blk where
  | row (pin : Bool) (e : Nat) (t : Ty) (l : List t.T)
  | box (pin : Bool) (cs : List AV)
  | deep (e : Nat) (t : Ty) (l : List t.T)                          -- its inner rows are its own, too
  | obj (k : ObK) (x : k.T)
def Blk.flat : Blk → Bool
  | .deep _ _ _ => false
  | _ => true
structure St where
  env : List (Nat × AV)
  heap : List (Nat × Blk)
def get : List (Nat × AV) → Nat → AV
  | [], _ => .bad
  | (k, v) :: r, t => bif Nat.beq k t then v else get r t
def hget : List (Nat × Blk) → Nat → Option Blk
  | [], _ => none
  | (k, v) :: r, t => bif Nat.beq k t then some v else hget r t
def hdel : List (Nat × Blk) → Nat → List (Nat × Blk)
  | [], _ => []
  | (k, v) :: r, t => bif Nat.beq k t then hdel r t else (k, v) :: hdel r t
def St.put (s : St) (t : Option Nat) (v : AV) : St := match t with
  | some t => ⟨(t, v) :: s.env, s.heap⟩
  | none => s
/-- A new block; none may stand under its name. -/
def St.fresh (s : St) (b : Nat) (x : Blk) : Option St := match hget s.heap b with
  | none => some ⟨s.env, (b, x) :: s.heap⟩
  | some _ => none
def St.hset (s : St) (b : Nat) (x : Blk) : St := ⟨s.env, (b, x) :: hdel s.heap b⟩
def ofVal : Value → AV
  | .int k n => .int k n
  | .bool b => .bool b
  | .string s => .str s
  | .slice none 0 0 => .nilS
  | .pointer none => .nilP
  | _ => .bad
def opd (s : St) : Operand → AV
  | .tmp t => get s.env t
  | .const v => ofVal v
  | .func f => .fn f []
  | .global _ => .bad
def chk {α : Type} (b : Bool) (x : Option α) : Option α := bif b then x else none
/-- An element's cells. -/
def Ty.cells : (t : Ty) → t.T → List AV
  | .int k, n => [.int k n]
  | .bool, b => [.bool b]
  | .str, s => [.str s]
  | .slc e t, l => [.row e t l]
  | .pr a b, p => a.cells p.1 ++ b.cells p.2
def Ty.av : (t : Ty) → t.T → AV
  | .int k, n => .int k n
  | .bool, b => .bool b
  | .str, s => .str s
  | .slc e t, l => .row e t l
  | .pr a b, p => .agg ((Ty.pr a b).cells p)
/-- A value out of cells. -/
def Ty.take : (t : Ty) → List AV → Option (t.T × List AV)
  | .int k, .int k' n :: r => if k = k' then some (n, r) else none
  | .bool, .bool b :: r => some (b, r)
  | .str, .str s :: r => some (s, r)
  | .slc e t, .row e' t' l :: r => if h : t' = t then (bif Nat.beq e' e then some (h ▸ l, r) else none) else none
  | .slc _ _, .nilS :: r => some ([], r)
  | .pr a b, r => match a.take r with
    | some (x, r) => match b.take r with
      | some (y, r) => some ((x, y), r)
      | none => none
    | none => none
  | _, _ => none
def Ty.all (t : Ty) (cs : List AV) : Option t.T := match t.take cs with
  | some (x, []) => some x
  | _ => none
def rdT (t : Ty) (l : List t.T) (i : Int) : t.T := l.getD i.toNat t.zero
def nth {α : Type} : List α → Nat → Option α
  | [], _ => none
  | x :: _, 0 => some x
  | _ :: r, n + 1 => nth r n
/-- Cells of a value. -/
def AV.cells : AV → List AV
  | .agg vs => vs
  | v => [v]
/-- A value of cells: a struct's, or the one. -/
def ofCells (agg : Bool) (cs : List AV) : Option AV := bif agg then some (.agg cs) else match cs with
  | [v] => some v
  | _ => none
mutual
/-- Wherever the own row 'b' is named, 'r' stands instead. -/
def AV.sub (b : Nat) (r : AV) : AV → AV
  | .own b' => bif Nat.beq b' b then r else .own b'
  | .elt b' i sz o => bif Nat.beq b' b then .bad else .elt b' i sz o
  | .ptr b' o => bif Nat.beq b' b then .bad else .ptr b' o
  | .dp b' p => bif Nat.beq b' b then .bad else .dp b' p
  | .de b' p sz o => bif Nat.beq b' b then .bad else .de b' p sz o
  | .agg vs => .agg (AV.subs b r vs)
  | .tup vs => .tup (AV.subs b r vs)
  | .rptr cs o => .rptr (AV.subs b r cs) o
  | .fn f caps => .fn f (AV.subs b r caps)
  | v => v
def AV.subs (b : Nat) (r : AV) : List AV → List AV
  | [] => []
  | a :: as => AV.sub b r a :: AV.subs b r as
end
mutual
/-- What leads into the deep row 'b' is forgotten. -/
def AV.inv (b : Nat) : AV → AV
  | .dp b' p => bif Nat.beq b' b then .bad else .dp b' p
  | .de b' p sz o => bif Nat.beq b' b then .bad else .de b' p sz o
  | .agg vs => .agg (AV.invs b vs)
  | .tup vs => .tup (AV.invs b vs)
  | .rptr cs o => .rptr (AV.invs b cs) o
  | .fn f caps => .fn f (AV.invs b caps)
  | v => v
def AV.invs (b : Nat) : List AV → List AV
  | [] => []
  | a :: as => AV.inv b a :: AV.invs b as
end
def Blk.inv (b : Nat) : Blk → Blk
  | .box pin cs => .box pin (AV.invs b cs)
  | x => x
def invEnv (b : Nat) : List (Nat × AV) → List (Nat × AV)
  | [] => []
  | (k, v) :: x => (k, AV.inv b v) :: invEnv b x
def invHeap (b : Nat) : List (Nat × Blk) → List (Nat × Blk)
  | [] => []
  | (k, v) :: x => (k, Blk.inv b v) :: invHeap b x
def Blk.sub (b : Nat) (r : AV) : Blk → Blk
  | .box pin cs => .box pin (AV.subs b r cs)
  | x => x
def subEnv (b : Nat) (r : AV) : List (Nat × AV) → List (Nat × AV)
  | [] => []
  | (k, v) :: x => (k, AV.sub b r v) :: subEnv b r x
def subHeap (b : Nat) (r : AV) : List (Nat × Blk) → List (Nat × Blk)
  | [] => []
  | (k, v) :: x => bif Nat.beq k b then subHeap b r x else (k, Blk.sub b r v) :: subHeap b r x
/-- The own row 'b' is no longer; where it was named stands 'r'. -/
def St.kill (s : St) (b : Nat) (r : AV) : St := ⟨subEnv b r s.env, subHeap b r s.heap⟩
/-- A deep row's element, at a place. -/
def rdD : (t : Ty) → List t.T → List Int → Option ((t' : Ty) × t'.T)
  | t, l, [i] => some ⟨t, l.getD i.toNat t.zero⟩
  | .slc _ t, l, i :: p => rdD t (List.getD (α := List t.T) l i.toNat []) p
  | _, _, _ => none
/-- An inner row, as a row that no one writes. -/
def innD (t : Ty) (l : List t.T) (p : List Int) : AV := match rdD t l p with
  | some ⟨.slc e t', x⟩ => .row e t' x
  | _ => .bad
mutual
/-- The deep row 'b' is given away: 'r' stands for it, 'F' tells its inner rows. -/
def AV.thaw (b : Nat) (r : AV) (F : List Int → AV) : AV → AV
  | .own b' => bif Nat.beq b' b then r else .own b'
  | .elt b' i sz o => bif Nat.beq b' b then .bad else .elt b' i sz o
  | .ptr b' o => bif Nat.beq b' b then .bad else .ptr b' o
  | .dp b' p => bif Nat.beq b' b then F p else .dp b' p
  | .de b' p sz o => bif Nat.beq b' b then .bad else .de b' p sz o
  | .agg vs => .agg (AV.thaws b r F vs)
  | .tup vs => .tup (AV.thaws b r F vs)
  | .rptr cs o => .rptr (AV.thaws b r F cs) o
  | .fn f caps => .fn f (AV.thaws b r F caps)
  | v => v
def AV.thaws (b : Nat) (r : AV) (F : List Int → AV) : List AV → List AV
  | [] => []
  | a :: as => AV.thaw b r F a :: AV.thaws b r F as
end
def Blk.thaw (b : Nat) (r : AV) (F : List Int → AV) : Blk → Blk
  | .box pin cs => .box pin (AV.thaws b r F cs)
  | x => x
def thawEnv (b : Nat) (r : AV) (F : List Int → AV) : List (Nat × AV) → List (Nat × AV)
  | [] => []
  | (k, v) :: x => (k, AV.thaw b r F v) :: thawEnv b r F x
def thawHeap (b : Nat) (r : AV) (F : List Int → AV) : List (Nat × Blk) → List (Nat × Blk)
  | [] => []
  | (k, v) :: x => bif Nat.beq k b then thawHeap b r F x else (k, Blk.thaw b r F v) :: thawHeap b r F x
def St.thaw (s : St) (b : Nat) (r : AV) (F : List Int → AV) : St := ⟨thawEnv b r F s.env, thawHeap b r F s.heap⟩
/-- Whole rows among cells are given away, one after the other. -/
def frzAll (n : Nat) (s : St) (as : List AV) (done : List AV) : Option (St × List AV) := match n, as with
  | _, [] => some (s, done)
  | 0, _ => none
  | n + 1, .own b :: r => match hget s.heap b with
    | some (.row false e t l) => frzAll n (s.kill b (.row e t l)) (AV.subs b (.row e t l) r) (AV.subs b (.row e t l) done ++ [.row e t l])
    | some (.deep e t l) => frzAll n (s.thaw b (.row e t l) (innD t l)) (AV.thaws b (.row e t l) (innD t l) r) (AV.thaws b (.row e t l) (innD t l) done ++ [.row e t l])
    | _ => none
  | n + 1, v :: r => frzAll n s r (done ++ [v])
mutual
/-- Is it known without a name. -/
def AV.pure : AV → Bool
  | .int _ _ | .bool _ | .str _ | .row _ _ _ | .nilS | .nilP | .nilI | .nxt _ _ _ | .relt _ _ _ _ _ | .undef => true
  | .agg vs | .tup vs | .rptr vs _ | .fn _ vs => AV.pures vs
  | _ => false
def AV.pures : List AV → Bool
  | [] => true
  | a :: as => a.pure && AV.pures as
end
mutual
/-- The box 'b' is written no more: it holds 'cs'. -/
def AV.unbox (b : Nat) (cs : List AV) : AV → AV
  | .ptr b' o => bif Nat.beq b' b then .rptr cs o else .ptr b' o
  | .own b' => bif Nat.beq b' b then .bad else .own b'
  | .elt b' i sz o => bif Nat.beq b' b then .bad else .elt b' i sz o
  | .dp b' p => bif Nat.beq b' b then .bad else .dp b' p
  | .de b' p sz o => bif Nat.beq b' b then .bad else .de b' p sz o
  | .agg vs => .agg (AV.unboxs b cs vs)
  | .tup vs => .tup (AV.unboxs b cs vs)
  | .rptr vs o => .rptr (AV.unboxs b cs vs) o
  | .fn f caps => .fn f (AV.unboxs b cs caps)
  | v => v
def AV.unboxs (b : Nat) (cs : List AV) : List AV → List AV
  | [] => []
  | a :: as => AV.unbox b cs a :: AV.unboxs b cs as
end
def Blk.unbox (b : Nat) (cs : List AV) : Blk → Blk
  | .box pin vs => .box pin (AV.unboxs b cs vs)
  | x => x
def unboxEnv (b : Nat) (cs : List AV) : List (Nat × AV) → List (Nat × AV)
  | [] => []
  | (k, v) :: x => (k, AV.unbox b cs v) :: unboxEnv b cs x
def unboxHeap (b : Nat) (cs : List AV) : List (Nat × Blk) → List (Nat × Blk)
  | [] => []
  | (k, v) :: x => bif Nat.beq k b then unboxHeap b cs x else (k, Blk.unbox b cs v) :: unboxHeap b cs x
/-- Boxes that are written no more. -/
def frzBoxes (s : St) : List Nat → Option St
  | [] => some s
  | b :: r => match hget s.heap b with
    | some (.box false cs) => bif AV.pures cs then frzBoxes ⟨unboxEnv b cs s.env, unboxHeap b cs s.heap⟩ r else none
    | none => frzBoxes s r
    | _ => none
/-- Is it the value of one cell. -/
def AV.one : AV → Bool
  | .bad | .undef | .agg _ | .tup _ | .dp _ _ | .nxt _ _ _ => false
  | _ => true
def ones : List AV → Bool
  | [] => true
  | a :: as => a.one && ones as
/-! ### Memory -/
def upD : (t : Ty) → List t.T → List Int → (t' : Ty) → t'.T → Option (List t.T)
  | t, l, [i], t', x => if h : t' = t then some (l.set i.toNat (h ▸ x)) else none
  | .slc _ t, l, i :: p, t', x => match upD t (List.getD (α := List t.T) l i.toNat []) p t' x with
    | some l' => some (List.set (α := List t.T) l i.toNat l')
    | none => none
  | _, _, _, _, _ => none
def Ty.isSlc : Ty → Bool
  | .slc _ _ => true
  | _ => false
/-- Does it hang on no block. -/
def Ty.flat : Ty → Bool
  | .slc _ _ => false
  | .pr a b => a.flat && b.flat
  | _ => true
/-- The cells from an address on, as far as its thing goes. -/
def cellsAt (s : St) : AV → Option (List AV)
  | .ptr b o => match hget s.heap b with
    | some (.box _ cs) => some (cs.drop o)
    | _ => none
  | .elt b i sz o => match hget s.heap b with
    | some (.row _ _ t l) => bif Nat.beq sz t.sz then some ((t.cells (rdT t l i)).drop o) else none
    | _ => none
  | .relt _ t l i o => some ((t.cells (rdT t l i)).drop o)
  | .rptr cs o => some (cs.drop o)
  | .de b p sz o => match hget s.heap b with
    | some (.deep _ t l) => match rdD t l p with
      | some ⟨.slc _ _, _⟩ => bif Nat.beq o 0 && Nat.beq sz 1 then some [.dp b p] else none
      | some ⟨t', x⟩ => bif Nat.beq sz t'.sz then some ((t'.cells x).drop o) else none
      | none => none
    | _ => none
  | _ => none
def isStruct (P : Program) (t : TypeId) : Option Bool := match P.underlying t with
  | some (.struct _) => some true
  | some (.array _ _) => none
  | some _ => some false
  | none => none
def Ty.leafOk : Ty → Bool
  | .slc _ t => t.leafOk
  | t => t.flat
/-- A row that is to stand in a deep one. -/
def rowD (s : St) (e : Nat) (t : Ty) (b : Nat) : Option (List t.T) := match hget s.heap b with
  | some (.row false e' t' l) => bif Nat.beq e' e && t'.flat then (if h : t' = t then some (h ▸ l) else none) else none
  | some (.deep e' t' l) => bif Nat.beq e' e then (if h : t' = t then some (h ▸ l) else none) else none
  | _ => none
section
variable {α : Type}
def loadX (P : Program) (s : St) (t : TypeId) (a : AV) (K : AV → Option α) : Option α := match isStruct P t, P.info? t, cellsAt s a with
  | some true, some i, some cs => chk (Nat.ble i.size cs.length) (K (.agg (cs.take i.size)))
  | some false, some _, some (c :: _) => K c
  | _, _, _ => none
def storeX (P : Program) (s : St) (t : TypeId) (a v : AV) (K : St → Option α) : Option α := match P.info? t with
  | some i => chk (Nat.beq v.cells.length i.size && ones v.cells) (match a with
    | .ptr b o => match hget s.heap b with
      | some (.box pin cs) => chk (Nat.ble (o + i.size) cs.length) (K ⟨s.env, (b, .box pin (cs.take o ++ v.cells ++ cs.drop (o + i.size))) :: hdel s.heap b⟩)
      | _ => none
    | .elt b j sz o => match frzAll (v.cells.length + 1) s v.cells [] with
      | some (s, vs) => match hget s.heap b with
        | some (.row pin e ty l) => chk (Nat.ble (o + i.size) ty.sz && Nat.beq sz ty.sz) (match ty.all ((ty.cells (rdT ty l j)).take o ++ vs ++ (ty.cells (rdT ty l j)).drop (o + i.size)) with
          | some x => K ⟨s.env, (b, .row pin e ty (l.set j.toNat x)) :: hdel s.heap b⟩
          | none => none)
        | _ => none
      | none => none
    | .de b p sz o => match hget s.heap b with
      | some (.deep e t l) => match rdD t l p with
        | some ⟨.slc e2 t2, _⟩ => chk (Nat.beq o 0 && (Nat.beq i.size 1 && Nat.beq sz 1)) (match v with
          | .own b2 => chk (!Nat.beq b2 b) (match rowD s e2 t2 b2 with
            | some y => match upD t l p (.slc e2 t2) y with
              | some l' => K ⟨invEnv b (subEnv b2 .bad s.env), (b, .deep e t l') :: hdel (invHeap b (subHeap b2 .bad s.heap)) b⟩
              | none => none
            | none => none)
          | _ => none)
        | some ⟨t', x⟩ => chk (t'.flat && (Nat.ble (o + i.size) t'.sz && Nat.beq sz t'.sz)) (match t'.all ((t'.cells x).take o ++ v.cells ++ (t'.cells x).drop (o + i.size)) with
          | some x' => match upD t l p t' x' with
            | some l' => K ⟨s.env, (b, .deep e t l') :: hdel s.heap b⟩
            | none => none
          | none => none)
        | none => none
      | _ => none
    | _ => none)
  | none => none
def fieldX (P : Program) (t : TypeId) (f : Nat) (K : Nat → TypeId → Nat → Option α) : Option α := match P.underlying t with
  | some (.struct fs) => match fs.toList[f]? with
    | some g => match P.info? g.type with
      | some i => chk (!Nat.beq i.size 0) (K g.offset g.type i.size)
      | none => none
    | none => none
  | _ => none
/-- Zero cells, as they are known. -/
def ofVals : List Value → List AV
  | [] => []
  | v :: r => ofVal v :: ofVals r
/-- Parts of a struct written over its zero cells. -/
def fillX (s : St) (ps : List (Nat × Nat)) : List (Nat × Operand) → List AV → Option (List AV)
  | [], cs => some cs
  | (i, x) :: r, cs => match nth ps i with
    | some p => bif Nat.beq (opd s x).cells.length p.2 && ones (opd s x).cells && Nat.ble (p.1 + p.2) cs.length then fillX s ps r (cs.take p.1 ++ (opd s x).cells ++ cs.drop (p.1 + p.2)) else none
    | none => none
end
/-! ### Operations on values -/
section
variable {α : Type}
def binI (op : BinOp) (k : IntKind) (x y : Int) (K : AV → Option α) : Option α :=
  match op with
  | .add => K (.int k (k.wrap (x + y)))
  | .sub => K (.int k (k.wrap (x - y)))
  | .mul => K (.int k (k.wrap (x * y)))
  | .quo => chk (!(y == 0)) (K (.int k (k.wrap (x.tdiv y))))
  | .rem => chk (!(y == 0)) (K (.int k (x.tmod y)))
  | .and => K (.int k (k.wrap (BitVec.ofInt k.bits x &&& BitVec.ofInt k.bits y).toNat))
  | .or => K (.int k (k.wrap (BitVec.ofInt k.bits x ||| BitVec.ofInt k.bits y).toNat))
  | .eql => K (.bool (x == y))
  | .neq => K (.bool (x != y))
  | .lss => K (.bool (decide (x < y)))
  | .leq => K (.bool (decide (x ≤ y)))
  | .gtr => K (.bool (decide (x > y)))
  | .geq => K (.bool (decide (x ≥ y)))
  | _ => none
def binS (op : BinOp) (x y : ByteArray) (K : AV → Option α) : Option α :=
  match op with
  | .add => chk (decide (x.size + y.size ≤ 9223372036854775807)) (K (.str (x ++ y)))
  | .eql => K (.bool (x.toList == y.toList))
  | .neq => K (.bool (!(x.toList == y.toList)))
  | _ => none
def eqK (a b : IntKind) : Bool := match a, b with
  | .i8, .i8 | .i16, .i16 | .i32, .i32 | .i64, .i64 | .u8, .u8 | .u16, .u16 | .u32, .u32 | .u64, .u64 => true
  | _, _ => false
def binX (op : BinOp) (x y : AV) (K : AV → Option α) : Option α := match x, y with
  | .int k x, .int k' y => match op with
    | .shl => chk (decide (0 ≤ y)) (K (.int k (k.wrap (x * 2 ^ (min y.toNat k.bits)))))
    | .shr => chk (decide (0 ≤ y)) (K (.int k (x.fdiv (2 ^ (min y.toNat k.bits)))))
    | op => bif eqK k k' then binI op k x y K else none
  | .str x, .str y => binS op x y K
  | _, _ => none
/-- Are all fields the same. -/
def eqF (P : Program) (xs ys : List AV) : List Field → Option Bool
  | [] => some true
  | f :: r => match P.underlying f.type, nth xs f.offset, nth ys f.offset, eqF P xs ys r with
    | some (.int _), some (.int k a), some (.int k' b), some q => bif eqK k k' && !(f.name == "_") then some ((a == b) && q) else none
    | some .bool, some (.bool a), some (.bool b), some q => bif !(f.name == "_") then some ((a == b) && q) else none
    | some .string, some (.str a), some (.str b), some q => bif !(f.name == "_") then some ((a.toList == b.toList) && q) else none
    | _, _, _, _ => none
def eqX (P : Program) (op : BinOp) (t : TypeId) (xs ys : List AV) (K : AV → Option α) : Option α := match P.underlying t with
  | some (.struct fs) => chk (!P.eqGuardType P.depth t && !P.stoodInHeld t) (match eqF P xs ys fs.toList, op with
    | some b, .eql => K (.bool b)
    | some b, .neq => K (.bool (!b))
    | _, _ => none)
  | _ => none
/-- Both, if they are the same. -/
noncomputable def andX (p q : Option α) : Option α := open Classical in if p = q then p else none
/-- Is a row known to be empty. -/
def emptyOf (s : St) : AV → Option Bool
  | .row _ _ l => some l.isEmpty
  | .own b => match hget s.heap b with
    | some (.row _ _ _ l) => some l.isEmpty
    | some (.deep _ _ l) => some l.isEmpty
    | _ => none
  | _ => none
/-- A row compared with nil: an empty one may be nil. -/
noncomputable def nilX (e neg : Bool) (K : AV → Option α) : Option α := cond e (andX (K (.bool (!neg))) (K (.bool neg))) (K (.bool neg))
noncomputable def bin2X (P : Program) (s : St) (op : BinOp) (t : TypeId) (x y : AV) (K : AV → Option α) : Option α := match x, y with
  | .nilS, .nilS => match P.underlying t, op with
    | some (.slice _), .eql => K (.bool true)
    | some (.slice _), .neq => K (.bool false)
    | _, _ => none
  | x, .nilS => match P.underlying t, emptyOf s x, op with
    | some (.slice _), some e, .eql => nilX e false K
    | some (.slice _), some e, .neq => nilX e true K
    | _, _, _ => none
  | .agg xs, .agg ys => eqX P op t xs ys K
  | .bool a, .bool b => match P.underlying t, op with
    | some .bool, .eql => K (.bool (a == b))
    | some .bool, .neq => K (.bool (!(a == b)))
    | _, _ => none
  | x, y => binX op x y K
/-- An interface value compared with the nil that is written there. -/
def nilIX (P : Program) (op : BinOp) (t : TypeId) (x : AV) (K : AV → Option α) : Option α := match P.underlying t, x, op with
  | some (.interface _), .nilI, .eql => K (.bool true)
  | some (.interface _), .nilI, .neq => K (.bool false)
  | _, _, _ => none
def isNilI : Operand → Bool
  | .const .nilIface => true
  | _ => false
def unX (op : UnOp) (x : AV) (K : AV → Option α) : Option α := match op, x with
  | .not, .bool b => K (.bool !b)
  | .neg, .int k n => K (.int k (k.wrap (0 - n)))
  | _, _ => none
def pure1 (s : St) : AV → AV
  | .own b => match hget s.heap b with
    | some (.row _ e t l) => .row e t l
    | some (.deep e t l) => .row e t l
    | _ => .bad
  | v => v
/-- A row's numbers, an own one's too. -/
def rowAs (s : St) : AV → AV
  | .own b => match hget s.heap b with
    | some (.row _ e t l) => .row e t l
    | _ => .bad
  | v => v
def convX (P : Program) (s : St) (src d : TypeId) (x : AV) (K : AV → Option α) : Option α := match P.underlying src, P.underlying d, x with
  | some _, some (.int k), .int _ n => K (.int k (k.wrap n))
  | some (.string), some (.string), .str y => K (.str y)
  | some (.slice e), some (.string), x => match P.underlying e, rowAs s x with
    | some (.int .u8), .row _ (.int .u8) l => K (.str (strOfNums l))
    | _, _ => none
  | _, _, _ => none
/-- The inner row at a place. -/
def rowAtD (s : St) (b : Nat) (p : List Int) : Option ((t : Ty) × List t.T) := match hget s.heap b with
  | some (.deep _ t l) => match rdD t l p with
    | some ⟨.slc _ t', x⟩ => some ⟨t', x⟩
    | _ => none
  | _ => none
/-- What a map holds at a key. -/
def mfind {β : Type} : List (Int × β) → Int → Option β
  | [], _ => none
  | x :: r, i => bif i == x.1 then some x.2 else mfind r i
def mget {β : Type} (z : β) (l : List (Int × β)) (i : Int) : β := (mfind l i).getD z
def mhas {β : Type} (l : List (Int × β)) (i : Int) : Bool := (mfind l i).isSome
def mput {β : Type} : List (Int × β) → Int → β → List (Int × β)
  | [], i, v => [(i, v)]
  | x :: r, i, v => bif i == x.1 then (i, v) :: r else x :: mput r i v
/-- The kind of a map's values: keys are whole numbers. -/
def mapTy (P : Program) (t : TypeId) : Option Ty := match P.underlying t with
  | some (.map k e) => match P.underlying k, P.underlying e, P.info? e with
    | some (.int .i64), some (.int q), some i => match i.zero with
      | some (.int q' z) => if q' = q ∧ z = 0 then some (.int q) else none
      | _ => none
    | some (.int .i64), some .bool, some i => match i.zero with
      | some (.bool false) => some .bool
      | _ => none
    | _, _, _ => none
  | _ => none
def mapAt (s : St) (b : Nat) (ty : Ty) : Option (List (Int × ty.T)) := match hget s.heap b with
  | some (.obj (.map ty') l) => if h : ty' = ty then some (h ▸ l) else none
  | _ => none
def lookX (P : Program) (s : St) (t : TypeId) (x i : AV) (ok : Bool) (K : AV → Option α) : Option α := match mapTy P t, x, i with
  | some ty, .own b, .int .i64 i => match mapAt s b ty with
    | some l => bif ok then K (.tup [ty.av (mget ty.zero l i), .bool (mhas l i)]) else K (ty.av (mget ty.zero l i))
    | none => none
  | _, _, _ => none
def lenMX (P : Program) (s : St) (t : TypeId) (x : AV) (K : AV → Option α) : Option α := match P.underlying t, x with
  | some (.map _ _), .own b => match hget s.heap b with
    | some (.obj (.map _) l) => K (.int .i64 l.length)
    | _ => none
  | _, _ => none
def lenX (P : Program) (s : St) (t : TypeId) (x : AV) (K : AV → Option α) : Option α := match P.underlying t, pure1 s x with
  | some (.slice _), .dp b p => match rowAtD s b p with
    | some ⟨_, l⟩ => K (.int .i64 l.length)
    | none => none
  | some (.slice _), .row _ _ l => K (.int .i64 l.length)
  | some (.slice _), .nilS => K (.int .i64 0)
  | some .string, .str x => K (.int .i64 x.size)
  | _, _ => none
def min2X (x y : AV) (K : AV → Option α) : Option α := match x, y with
  | .int k x, .int _ y => K (.int k (if y < x then y else x))
  | _, _ => none
def min3X (x y z : AV) (K : AV → Option α) : Option α := match x, y, z with
  | .int k x, .int _ y, .int _ z => K (.int k (if z < (if y < x then y else x) then z else (if y < x then y else x)))
  | _, _, _ => none
def max2X (x y : AV) (K : AV → Option α) : Option α := match x, y with
  | .int k x, .int _ y => K (.int k (if y > x then y else x))
  | _, _ => none
def getX (P : Program) (t : TypeId) (x : AV) (f : Nat) (K : AV → Option α) : Option α := match x with
  | .agg vs => fieldX P t f fun off ty n => match isStruct P ty with
    | some true => K (.agg ((vs.drop off).take n))
    | some false => match nth vs off with
      | some v => K v
      | none => none
    | none => none
  | _ => none
def faX (P : Program) (t : TypeId) (x : AV) (f : Nat) (K : AV → Option α) : Option α := fieldX P t f fun off _ _ => match x with
  | .ptr b o => K (.ptr b (o + off))
  | .rptr cs o => K (.rptr cs (o + off))
  | .elt b i sz o => K (.elt b i sz (o + off))
  | .de b p sz o => K (.de b p sz (o + off))
  | .relt e t l i o => K (.relt e t l i (o + off))
  | _ => none
def iaX (P : Program) (s : St) (t : TypeId) (x i : AV) (K : AV → Option α) : Option α := match P.underlying t with
  | some (.slice e) => match P.info? e, x, i with
    | some f, .own b, .int _ i => match hget s.heap b with
      | some (.row _ _ ty l) => chk (Nat.beq f.size ty.sz) (chk (decide (0 ≤ i)) (chk (decide (i < l.length)) (K (.elt b i ty.sz 0))))
      | some (.deep _ ty l) => chk (Nat.beq f.size ty.sz) (chk (decide (0 ≤ i)) (chk (decide (i < l.length)) (K (.de b [i] ty.sz 0))))
      | _ => none
    | some f, .dp b p, .int _ i => match rowAtD s b p with
      | some ⟨ty, l⟩ => chk (Nat.beq f.size ty.sz) (chk (decide (0 ≤ i)) (chk (decide (i < l.length)) (K (.de b (p ++ [i]) ty.sz 0))))
      | none => none
    | some f, .row e' ty l, .int _ i => chk (Nat.beq f.size ty.sz) (chk (decide (0 ≤ i)) (chk (decide (i < l.length)) (K (.relt e' ty l i 0))))
    | _, _, _ => none
  | _ => none
def byteAt (s : ByteArray) (i : Int) : Int := ((s.data.toList.getD i.toNat 0).toNat : Int)
def ixX (P : Program) (t : TypeId) (x i : AV) (K : AV → Option α) : Option α := match P.underlying t, x, i with
  | some .string, .str x, .int _ i => chk (decide (0 ≤ i)) (chk (decide (i < x.size)) (K (.int .u8 (byteAt x i))))
  | _, _, _ => none
def opdO (s : St) : Option Operand → Option AV
  | none => none
  | some x => some (opd s x)
def slX (P : Program) (t : TypeId) (x : AV) (lo hi mx : Option AV) (K : AV → Option α) : Option α := match P.underlying t, x, lo, hi, mx with
  | some .string, .str x, none, some (.int _ h), none => chk (decide (0 ≤ h)) (chk (decide (h ≤ x.size)) (K (.str (x.extract 0 h.toNat))))
  | some .string, .str x, some (.int _ l), none, none => chk (decide (0 ≤ l)) (chk (decide (l ≤ x.size)) (K (.str (x.extract l.toNat x.size))))
  | some .string, .str x, some (.int _ l), some (.int _ h), none => chk (decide (0 ≤ h)) (chk (decide (h ≤ x.size)) (chk (decide (0 ≤ l)) (chk (decide (l ≤ h)) (K (.str (x.extract l.toNat h.toNat))))))
  | some (.slice e), .row e' ty y, lo, hi, none => match P.info? e with
    | some f => chk (Nat.beq f.size ty.sz) (match lo, hi with
      | none, some (.int _ h) => chk (decide (0 ≤ h)) (chk (decide (h ≤ y.length)) (K (.row e' ty (y.take h.toNat))))
      | some (.int _ l), none => chk (decide (0 ≤ l)) (chk (decide (l ≤ y.length)) (K (.row e' ty (y.drop l.toNat))))
      | some (.int _ l), some (.int _ h) => chk (decide (0 ≤ h)) (chk (decide (h ≤ y.length)) (chk (decide (0 ≤ l)) (chk (decide (l ≤ h)) (K (.row e' ty ((y.take h.toNat).drop l.toNat))))))
      | _, _ => none)
    | none => none
  | _, _, _, _, _ => none
def buildX (P : Program) (s : St) (t : TypeId) (parts : List (Nat × Operand)) (K : AV → Option α) : Option α := match P.underlying t, P.info? t with
  | some (.struct fs), some i => match i.zero with
    | some z => match fs.toList.mapM (fun f => (P.info? f.type).map fun i => (f.offset, i.size)) with
      | some ps => match fillX s ps parts (ofVals z.cells.toList) with
        | some cs => K (.agg cs)
        | none => none
      | none => none
    | none => none
  | _, _ => none
def opds (s : St) : List Operand → List AV
  | [] => []
  | x :: r => opd s x :: opds s r
/-- An operation that touches no memory, or reads it. -/
noncomputable def valX (P : Program) (s : St) (op : Op) (K : AV → Option α) : Option α :=
  match op with
  | .move x | .assign x => K (opd s x)
  | .pick c a b => match opd s c with
    | .bool c => cond c (K (opd s a)) (K (opd s b))
    | _ => none
  | .binOp op t x y _ => bif isNilI y then nilIX P op t (opd s x) K else bin2X P s op t (opd s x) (opd s y) K
  | .unOp op _ x => unX op (opd s x) K
  | .convert src d x => convX P s src d (opd s x) K
  | .extract x i => match opd s x with
    | .tup vs => match nth vs i with
      | some v => K v
      | none => none
    | .nxt ok n c => match i with
      | 0 => K (.bool ok)
      | 1 => chk ok (K (.int .i64 n))
      | 2 => chk ok (K (.int .i32 c))
      | _ => none
    | _ => none
  | .nilCheck x => match opd s x with
    | .ptr b o => K (.ptr b o)
    | .rptr cs o => K (.rptr cs o)
    | _ => none
  | .field t x f => getX P t (opd s x) f K
  | .fieldAddr t x f => faX P t (opd s x) f K
  | .indexAddr t x i => iaX P s t (opd s x) (opd s i) K
  | .index t x i => ixX P t (opd s x) (opd s i) K
  | .load t a => loadX P s t (opd s a) K
  | .lookup t x i ok => lookX P s t (opd s x) (opd s i) ok K
  | .slice t x lo hi mx => slX P t (opd s x) (opdO s lo) (opdO s hi) (opdO s mx) K
  | .build t parts => buildX P s t parts.toList K
  | .makeFunc (.func f) first caps => match first.toList with
    | [] => K (.fn f (opds s caps.toList))
    | _ => none
  | .call c => match c.callee, c.args.toList, c.argTypes.toList with
    | .builtin .len, [x], [t] => match P.underlying t with
      | some (.map _ _) => lenMX P s t (opd s x) K
      | _ => lenX P s t (opd s x) K
    | .builtin .min, [x, y], _ => min2X (opd s x) (opd s y) K
    | .builtin .max, [x, y], _ => max2X (opd s x) (opd s y) K
    | .builtin .min, [x, y, z], _ => min3X (opd s x) (opd s y) (opd s z) K
    | _, _, _ => none
  | _ => none
end
/-! ### Operations on memory -/
def combine : List (Option Ty) → Option Ty
  | [] => none
  | [x] => x
  | x :: r => match x, combine r with
    | some a, some b => some (.pr a b)
    | _, _ => none
/-- A type's kind. -/
def tyOf (P : Program) : Nat → TypeId → Option Ty
  | 0, _ => none
  | n + 1, t => match P.underlying t with
    | some (.int k) => some (.int k)
    | some .bool => some .bool
    | some .string => some .str
    | some (.slice e) => match tyOf P n e with
      | some t => some (.slc e t)
      | none => none
    | some (.struct fs) => combine (fs.toList.map fun f => tyOf P n f.type)
    | _ => none
/-- An element's row: its type's number, its table's row, its kind, its zero cells. -/
def elemX {α : Type} (P : Program) (t : TypeId) (K : TypeId → TypeInfo → (ty : Ty) → Value → Option α) : Option α := match P.underlying t with
  | some (.slice e) => match P.info? e, tyOf P 6 e with
    | some i, some ty => match i.zero with
      | some z => chk (Nat.beq i.size ty.sz && Nat.beq z.cells.size i.size) (K e i ty z)
      | none => none
    | _, _ => none
  | _ => none
def castL (t t' : Ty) (l : List t'.T) : Option (List t.T) := if h : t' = t then some (h ▸ l) else none
def rowOf (s : St) (ty : Ty) (y : AV) : Option (List ty.T) := match y with
  | .own b => match hget s.heap b with
    | some (.row _ _ t' l) => castL ty t' l
    | _ => none
  | .row _ t' l => castL ty t' l
  | .nilS => some []
  | _ => none
/-- How many elements a row may have. -/
def most (i : TypeInfo) : Nat := 140737488355328 / (i.bytes + 1)
def sameOp : Operand → Operand → Bool
  | .tmp a, .tmp b => Nat.beq a b
  | .const (.int _ m), .const (.int _ n) => decide (m = n)
  | _, _ => false
/-- Cells, taken apart into elements. -/
def Ty.alls (t : Ty) : Nat → List AV → Option (List t.T)
  | 0, [] => some []
  | n + 1, cs => match t.take cs with
    | some (x, r) => match t.alls n r with
      | some l => some (x :: l)
      | none => none
    | none => none
  | _, _ => none
def places (size : Nat) : Nat → Nat → List (Nat × Nat)
  | _, 0 => []
  | i, n + 1 => (i * size, size) :: places size (i + 1) n
def repl {β : Type} (l : List β) : Nat → List β
  | 0 => []
  | n + 1 => l ++ repl l n
section
variable {α : Type}
def appX (P : Program) (d : Nat) (s : St) (t : TypeId) (x y : AV) (K : St → AV → Option α) : Option α := elemX P t fun e i ty _ => match rowOf s ty y with
  | some l' => match x with
    | .nilS => chk (decide (l'.length ≤ most i)) (match hget s.heap d with
      | none => K ⟨s.env, (d, .row false e ty l') :: s.heap⟩ (.own d)
      | some _ => none)
    | .own b => match hget s.heap b with
      | some (.row pin e' ty' l) => match castL ty ty' l with
        | some l => chk (Nat.beq e' e) (chk (decide (l.length + l'.length ≤ most i)) (match hget (s.kill b .bad).heap d with
          | none => K ⟨(s.kill b .bad).env, (d, .row pin e ty (l ++ l')) :: (s.kill b .bad).heap⟩ (.own d)
          | some _ => none))
        | none => none
      | _ => none
    | _ => none
  | none => none
def makeX (P : Program) (d : Nat) (s : St) (t : TypeId) (l c : Operand) (K : St → AV → Option α) : Option α := elemX P t fun e i ty z => match ty.all (ofVals z.cells.toList), l, opd s c with
  | some _, .const (.int _ 0), .int _ n => chk (decide (0 ≤ n)) (chk (decide (n ≤ ((most i : Nat) : Int))) (match hget s.heap d with
    | none => K ⟨s.env, (d, .row false e ty []) :: s.heap⟩ (.own d)
    | some _ => none))
  | some x, l, .int _ n => chk (sameOp l c) (chk (decide (0 ≤ n)) (chk (decide (n ≤ ((most i : Nat) : Int))) (match hget s.heap d with
    | none => K ⟨s.env, (d, bif ty.isSlc && ty.leafOk then .deep e ty (List.replicate n.toNat x) else .row false e ty (List.replicate n.toNat x)) :: s.heap⟩ (.own d)
    | some _ => none)))
  | _, _, _ => none
def litX (P : Program) (d : Nat) (s : St) (t : TypeId) (n : Nat) (parts : List (Nat × Operand)) (K : St → AV → Option α) : Option α := elemX P t fun e i ty z =>
  chk (Nat.ble (n * i.size) 16777216) (match fillX s (places i.size 0 n) parts (repl (ofVals z.cells.toList) n) with
    | some cs => match frzAll (cs.length + 1) s cs [] with
      | some (s, cs) => match ty.alls n cs with
        | some l => match hget s.heap d with
          | none => K ⟨s.env, (d, .row false e ty l) :: s.heap⟩ (.own d)
          | some _ => none
        | none => none
      | none => none
    | none => none)
def makeMX (P : Program) (d : Nat) (s : St) (t : TypeId) (K : St → AV → Option α) : Option α := match mapTy P t, hget s.heap d with
  | some ty, none => K ⟨s.env, (d, .obj (.map ty) []) :: s.heap⟩ (.own d)
  | _, _ => none
def putX (P : Program) (s : St) (t : TypeId) (m i v : AV) (K : St → AV → Option α) : Option α := match mapTy P t, m, i with
  | some ty, .own b, .int .i64 i => match mapAt s b ty, ty.all [v] with
    | some l, some y => K ⟨s.env, (b, .obj (.map ty) (mput l i y)) :: hdel s.heap b⟩ .bad
    | _, _ => none
  | _, _, _ => none
/-- A string's iterator is made; it goes on. -/
def rangeX (P : Program) (d : Nat) (s : St) (t : TypeId) (x : AV) (K : St → AV → Option α) : Option α := match P.underlying t, x, hget s.heap d with
  | some .string, .str y, none => K ⟨s.env, (d, .obj .iter (y, 0)) :: s.heap⟩ (.own d)
  | _, _, _ => none
def runeAt (s : ByteArray) (n : Nat) : Int := ((Utf8.decode s n).1 : Int)
def runeTo (s : ByteArray) (n : Nat) : Nat := if n < s.size then n + (Utf8.decode s n).2 else n
def nextX (s : St) (x : AV) (isS : Bool) (K : St → AV → Option α) : Option α := match isS, x with
  | true, .own b => match hget s.heap b with
    | some (.obj .iter y) => K ⟨s.env, (b, .obj .iter (y.1, runeTo y.1 y.2)) :: hdel s.heap b⟩ (.nxt (decide (y.2 < y.1.size)) (y.2 : Int) (runeAt y.1 y.2))
    | _ => none
  | _, _ => none
def boxX (d : Nat) (s : St) (cs : List AV) (K : St → AV → Option α) : Option α := match hget s.heap d with
  | none => K ⟨s.env, (d, .box false cs) :: s.heap⟩ (.ptr d 0)
  | some _ => none
/-- An operation that makes or writes. -/
def memX (P : Program) (d : Nat) (s : St) (op : Op) (K : St → AV → Option α) : Option α := match op with
  | .alloc t => match P.info? t with
    | some i => match i.zero with
      | some z => boxX d s (ofVals z.cells.toList) K
      | none => none
    | none => none
  | .box _ x => chk (ones (opd s x).cells) (boxX d s (opd s x).cells K)
  | .makeSlice t l c => makeX P d s t l c K
  | .buildSlice t n parts => litX P d s t n parts.toList K
  | .makeMap t none => makeMX P d s t K
  | .mapUpdate t m i v => putX P s t (opd s m) (opd s i) (opd s v) K
  | .range t x => rangeX P d s t (opd s x) K
  | .next x isS => nextX s (opd s x) isS K
  | .store t a v => storeX P s t (opd s a) (opd s v) fun s => K s .bad
  | .call c => match c.callee, c.args.toList, c.argTypes.toList with
    | .builtin .append, [x, y], [t, t'] => chk (Nat.beq t t') (appX P d s t (opd s x) (opd s y) K)
    | _, _, _ => none
  | _ => none
end
end Go.Proofs.YthgmnlfbgajchaaV

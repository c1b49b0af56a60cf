/-
An abstract machine over values as trees, for the proofs of this seat: its values, its heap, its interpreter (a predicate transformer).
-/
import Derived.Calls
import Derived.Below
import Derived.Laws.Entries
import Derived.Maps.AppendAt
import Derived.Orders
namespace Go.Abs
open Go

/-- Values as trees. -/
inductive AV where
  | any
  | bool (b : Bool)
  | int (k : IntKind) (n : Int)
  | str (s : ByteArray)
  | nilptr
  | ptr (b off : Nat)
  | rptr (b i c : Nat)
  | eptr (cs : List AV)
  | zslice
  | slice (es : List (List AV))
  | row (b : Nat)
  | srow (b off len : Nat)
  | vsl (b off len : Nat)
  | nilmap
  | map (b : Nat)
  | nilfunc
  | func (fn : Fn) (first captured : List AV)
  | nilIface
  | iface (t : TypeId) (v : AV)
  | agg (cs : List AV)
  | tuple (vs : List AV)
  deriving Inhabited

/-- Objects. -/
inductive HO where
  | dead
  | var (cs : List AV)
  | row (wr : Bool) (e sz : Nat) (es : List (List AV))
  | iter (s : ByteArray) (pos : Nat)
  deriving Inhabited

abbrev Heap := List HO

/-- What a call comes to. -/
inductive AOut where
  | ret (v : AV)
  | pan (v : AV)
  deriving Inhabited

/-- How code is left. -/
inductive AExit where
  | normal
  | exit (id : Nat)
  | ret
  | pan (v : AV)
  deriving Inhabited

abbrev Tab := FuncId → List AV → Heap → (AOut → Heap → Prop) → Prop

mutual
/-- A constant's tree. -/
def ofConst : Value → AV
  | .bool b => .bool b
  | .int k n => .int k n
  | .string s => .str s
  | .pointer none => .nilptr
  | .slice none 0 0 => .zslice
  | .map none => .nilmap
  | .nilFunc => .nilfunc
  | .nilIface => .nilIface
  | .agg ⟨cs⟩ => .agg (ofConsts cs)
  | .tuple ⟨cs⟩ => .tuple (ofConsts cs)
  | _ => .any
def ofConsts : List Value → List AV
  | [] => []
  | v :: r => ofConst v :: ofConsts r
end

def aeval (a : List AV) : Operand → AV
  | .tmp t => a.getD t .any
  | .const v => ofConst v
  | .global _ => .any
  | .func f => .func (.func f) [] []

def aput (a : List AV) (dst : Option Tmp) (v : AV) : List AV :=
  match dst with
  | some d => a.set d v
  | none => a

/-- May a variable's cell hold it? -/
def okCell : AV → Bool
  | .any | .agg _ | .tuple _ => false
  | _ => true

def acells : AV → List AV
  | .agg cs => cs
  | v => [v]

/-- A type: is it a struct or an array, and how many cells has it? -/
def tyOf (P : Program) (t : TypeId) : Option (Bool × Nat) :=
  match P.underlying t, P.info? t with
  | some d, some i => some (match d with | .struct _ | .array _ _ => true | _ => false, i.size)
  | _, _ => none

def zeroA (P : Program) (t : TypeId) : Option AV :=
  match P.info? t with
  | some i => i.zero.map ofConst
  | none => none

/-- Has the zero value as many cells as the type says? -/
def zsz (P : Program) (t : TypeId) : Bool :=
  match P.info? t with
  | some i => match i.zero with
    | some z => z.cells.size == i.size
    | none => false
  | none => false

/-- The cells from a pointer on. -/
def cellsAt (H : Heap) : AV → Option (List AV)
  | .ptr b o => match H[b]? with
    | some (.var cs) => some (cs.drop o)
    | _ => none
  | .eptr cs => some cs
  | .rptr b i c => match H[b]? with
    | some (.row _ _ _ es) => (es[i]?).map (·.drop c)
    | _ => none
  | _ => none

/-- Cells put over others. -/
def over0 : List AV → List AV → List AV
  | cs, [] => cs
  | [], _ :: _ => []
  | _ :: cs, x :: r => x :: over0 cs r
def overAt : List AV → Nat → List AV → List AV
  | cs, 0, xs => over0 cs xs
  | [], _ + 1, _ => []
  | c :: cs, o + 1, xs => c :: overAt cs o xs

/-- A cell that goes into a row, or out to a callee: rows are frozen. -/
def frz (H : Heap) : AV → AV × Heap
  | .row b => match H[b]? with
    | some (.row _ e sz es) => (.slice es, H.set b (.row false e sz es))
    | _ => (.any, H)
  | .srow b o n => match H[b]? with
    | some (.row _ e sz es) => (.slice ((es.drop o).take n), H.set b (.row false e sz es))
    | _ => (.any, H)
  | .zslice => (.slice [], H)
  | .bool b => (.bool b, H)
  | .int k n => (.int k n, H)
  | .str s => (.str s, H)
  | .nilptr => (.nilptr, H)
  | .eptr cs => (.eptr cs, H)
  | .slice es => (.slice es, H)
  | .nilmap => (.nilmap, H)
  | .nilfunc => (.nilfunc, H)
  | .nilIface => (.nilIface, H)
  | _ => (.any, H)

def frzs (H : Heap) : List AV → List AV × Heap
  | [] => ([], H)
  | x :: r =>
    let (y, H1) := frz H x
    let (s, H2) := frzs H1 r
    (y :: s, H2)

/-- A constant's cell, in a row. -/
def tcell : AV → AV
  | .zslice => .slice []
  | .bool b => .bool b
  | .int k n => .int k n
  | .str s => .str s
  | .nilptr => .nilptr
  | .nilmap => .nilmap
  | .nilfunc => .nilfunc
  | .nilIface => .nilIface
  | _ => .any

/-- A whole argument. -/
def frzA (H : Heap) : AV → AV × Heap
  | .agg cs => let (r, H') := frzs H cs; (.agg r, H')
  | v => frz H v

def frzAs (H : Heap) : List AV → List AV × Heap
  | [] => ([], H)
  | x :: r =>
    let (y, H1) := frzA H x
    let (s, H2) := frzAs H1 r
    (y :: s, H2)

/-- The elements of a slice that is read. -/
def elems (H : Heap) : AV → Option (List (List AV))
  | .zslice => some []
  | .slice es => some es
  | .row b => match H[b]? with
    | some (.row _ _ _ es) => some es
    | _ => none
  | .srow b o n => match H[b]? with
    | some (.row _ _ _ es) => some ((es.drop o).take n)
    | _ => none
  | _ => none

def abin (op : BinOp) : AV → AV → Option AV
  | .int k a, .int k' b =>
    match op with
    | .shl => if 0 ≤ b then some (.int k (k.wrap (a * 2 ^ (min b.toNat k.bits)))) else none
    | .shr => if 0 ≤ b then some (.int k (a.fdiv (2 ^ (min b.toNat k.bits)))) else none
    | .add => if k = k' then some (.int k (k.wrap (a + b))) else none
    | .sub => if k = k' then some (.int k (k.wrap (a - b))) else none
    | .mul => if k = k' then some (.int k (k.wrap (a * b))) else none
    | .and => if k = k' then some (.int k (bits .and k a b)) else none
    | .or => if k = k' then some (.int k (bits .or k a b)) else none
    | .xor => if k = k' then some (.int k (bits .xor k a b)) else none
    | .eql => if k = k' then some (.bool (a == b)) else none
    | .neq => if k = k' then some (.bool (a != b)) else none
    | .lss => if k = k' then some (.bool (a < b)) else none
    | .leq => if k = k' then some (.bool (a ≤ b)) else none
    | .gtr => if k = k' then some (.bool (a > b)) else none
    | .geq => if k = k' then some (.bool (a ≥ b)) else none
    | _ => none
  | .str a, .str b =>
    match op with
    | .eql => some (.bool (a.toList == b.toList))
    | .neq => some (.bool (!(a.toList == b.toList)))
    | .lss => some (.bool (Op.bytesLess a.toList b.toList))
    | .geq => some (.bool (!(Op.bytesLess a.toList b.toList)))
    | _ => none
  | _, _ => none

/-- Division: the divisor isn't 0. -/
def adiv (op : BinOp) (k : IntKind) (a b : Int) : Option AV :=
  match op with
  | .quo => some (.int k (k.wrap (a.tdiv b)))
  | .rem => some (.int k (a.tmod b))
  | _ => none

/-- Cells that are compared: numbers, bools, texts. -/
def eqCells : List AV → List AV → Option Bool
  | [], [] => some true
  | .int k a :: r, .int k' b :: s => if k = k' then (eqCells r s).map fun c => (a == b) && c else none
  | _, _ => none


/-- A struct's fields: where each lies, how many cells it has. -/
def places (P : Program) : List Field → Option (List (Nat × Nat))
  | [] => some []
  | f :: r => match P.info? f.type, places P r with
    | some i, some s => some ((f.offset, i.size) :: s)
    | _, _ => none

def afill (pl : List (Nat × Nat)) (cs : List AV) : List (Nat × AV) → Option (List AV)
  | [] => some cs
  | (i, v) :: r => match pl[i]? with
    | none => none
    | some (off, size) =>
      if (acells v).length = size ∧ off + size ≤ cs.length then afill pl (overAt cs off (acells v)) r else none

def afillS (sz : Nat) (es : List (List AV)) : List (Nat × List AV) → Option (List (List AV))
  | [] => some es
  | (i, c) :: r => if c.length = sz ∧ i < es.length then afillS sz (es.set i c) r else none

/-- Parts whose rows are frozen. -/
def frzParts (H : Heap) : List (Nat × AV) → List (Nat × List AV) × Heap
  | [] => ([], H)
  | (i, v) :: r =>
    let (c, H1) := frzs H (acells v)
    let (s, H2) := frzParts H1 r
    ((i, c) :: s, H2)

def bytesA (s : ByteArray) : List (List AV) := s.data.toList.map fun b => [.int .u8 b.toNat]

/-- Is it an address that surely is one? -/
def live (H : Heap) : AV → Bool
  | .ptr b _ => match H[b]? with
    | some (.var _) => true
    | _ => false
  | .rptr b _ _ => match H[b]? with
    | some (.row ..) => true
    | _ => false
  | .eptr _ => true
  | _ => false

def cutList {α : Type} (es : List α) : Option Nat → Option Nat → List α
  | none, none => es
  | some l, none => es.drop l
  | none, some h => es.take h
  | some l, some h => (es.drop l).take (h - l)

/-- A bound of a slice expression: none, or a whole number from 0 on. -/
def bound : Option AV → Option (Option Int)
  | none => some none
  | some (.int _ n) => some (some n)
  | _ => none

def boundsOk (len : Nat) : Option Int → Option Int → Prop
  | none, none => True
  | some l, none => 0 ≤ l ∧ l ≤ len
  | none, some h => 0 ≤ h ∧ h ≤ len
  | some l, some h => 0 ≤ l ∧ l ≤ h ∧ h ≤ len

mutual
/-- The same, worked out. -/
def forceV : AV → (AV → Prop) → Prop
  | .any, K => K .any
  | .bool b, K => K (.bool b)
  | .int k n, K => K (.int k n)
  | .str s, K => K (.str s)
  | .nilptr, K => K .nilptr
  | .ptr b o, K => K (.ptr b o)
  | .rptr b i c, K => K (.rptr b i c)
  | .eptr cs, K => K (.eptr cs)
  | .zslice, K => K .zslice
  | .slice es, K => K (.slice es)
  | .row b, K => K (.row b)
  | .srow b o n, K => K (.srow b o n)
  | .vsl b o n, K => K (.vsl b o n)
  | .nilmap, K => K .nilmap
  | .map b, K => K (.map b)
  | .nilfunc, K => K .nilfunc
  | .func fn f c, K => forceL f fun f' => forceL c fun c' => K (.func fn f' c')
  | .nilIface, K => K .nilIface
  | .iface t v, K => forceV v fun v' => K (.iface t v')
  | .agg cs, K => forceL cs fun cs' => K (.agg cs')
  | .tuple vs, K => forceL vs fun vs' => K (.tuple vs')
def forceL : List AV → (List AV → Prop) → Prop
  | [], K => K []
  | v :: r, K => forceV v fun v' => forceL r fun r' => K (v' :: r')
end
mutual
theorem forceV_eq : ∀ (v : AV) (K : AV → Prop), forceV v K = K v
  | .func fn f c, K => by simp only [forceV, forceL_eq]
  | .iface t v, K => by simp only [forceV, forceV_eq v]
  | .agg cs, K => by simp only [forceV, forceL_eq]
  | .tuple vs, K => by simp only [forceV, forceL_eq]
  | .any, K | .bool _, K | .int .., K | .str _, K | .nilptr, K | .ptr .., K | .rptr .., K | .eptr _, K | .zslice, K | .slice _, K | .row _, K | .srow .., K | .vsl .., K | .nilmap, K | .map _, K | .nilfunc, K | .nilIface, K => by simp only [forceV]
theorem forceL_eq : ∀ (l : List AV) (K : List AV → Prop), forceL l K = K l
  | [], K => by simp only [forceL]
  | v :: r, K => by simp only [forceL, forceV_eq v, forceL_eq r]
end
/-- The spine alone. -/
def forceS {α : Type} : List α → (List α → Prop) → Prop
  | [], K => K []
  | x :: r, K => forceS r fun r' => K (x :: r')
theorem forceS_eq {α : Type} : ∀ (l : List α) (K : List α → Prop), forceS l K = K l
  | [], K => by simp only [forceS]
  | x :: r, K => by simp only [forceS, forceS_eq r]
/-- Numbers, worked out. -/
def forceN : List Nat → (List Nat → Prop) → Prop
  | [], K => K []
  | 0 :: r, K => forceN r fun r' => K (0 :: r')
  | (n + 1) :: r, K => forceN r fun r' => K ((n + 1) :: r')
theorem forceN_eq : ∀ (l : List Nat) (K : List Nat → Prop), forceN l K = K l
  | [], K => by simp only [forceN]
  | 0 :: r, K | (n + 1) :: r, K => by simp only [forceN, forceN_eq r]
/-- Objects: their heads, and the spines of variables. -/
def forceH : Heap → (Heap → Prop) → Prop
  | [], K => K []
  | .dead :: r, K => forceH r fun r' => K (.dead :: r')
  | .var cs :: r, K => forceL cs fun cs' => forceH r fun r' => K (.var cs' :: r')
  | .row wr e sz es :: r, K => forceH r fun r' => K (.row wr e sz es :: r')
  | .iter s p :: r, K => forceH r fun r' => K (.iter s p :: r')
theorem forceH_eq : ∀ (l : Heap) (K : Heap → Prop), forceH l K = K l
  | [], K => by simp only [forceH]
  | .dead :: r, K | .row .. :: r, K | .iter .. :: r, K => by simp only [forceH, forceH_eq r]
  | .var cs :: r, K => by simp only [forceH, forceL_eq, forceH_eq r]

/-- Is it no literal nil of a slice's type? -/
def angY : Operand → Bool
  | .const (.slice none 0 0) => false
  | _ => true
/-- A slice is compared with the literal nil: of an empty one nothing is known. -/
def anil (P : Program) (op : BinOp) (t : TypeId) (x : AV) (H : Heap) (K : AV → Heap → Prop) : Prop :=
  match P.underlying t with
  | some (.slice _) =>
    match op, x with
    | .eql, .slice (_ :: _) => K (.bool false) H
    | .neq, .slice (_ :: _) => K (.bool true) H
    | .eql, .slice [] | .neq, .slice [] | .eql, .zslice | .neq, .zslice => ∀ b, K (.bool b) H
    | _, _ => False
  | _ => False

/-- Elements that may be appended onto n. -/
def FitsA (ys : List (List AV)) (sz bytes n : Nat) : Prop := (∀ el ∈ ys, el.length = sz) ∧ (n + ys.length) * bytes ≤ 140737488355328 ∧ n + ys.length ≤ 140737488355328

/-- A struct of two numbers, that are compared. -/
structure Eq2 (P : Program) (t : TypeId) : Prop where
  held : P.stoodInHeld t = false
  guard : P.eqGuardType P.depth t = false
  fields : ∃ f g k k', P.underlying t = some (.struct #[f, g]) ∧ f.name ≠ "_" ∧ g.name ≠ "_" ∧ f.offset = 0 ∧ g.offset = 1 ∧ P.underlying f.type = some (.int k) ∧ P.underlying g.type = some (.int k')

/-- Parts filled in, worked out. -/
def afillK (pl : List (Nat × Nat)) : List (Nat × AV) → List AV → (List AV → Prop) → Prop
  | [], cs, K => K cs
  | (i, v) :: r, cs, K => match pl[i]? with
    | none => False
    | some (off, size) => cond (Nat.beq (acells v).length size && Nat.ble (off + size) cs.length) (forceS (overAt cs off (acells v)) fun cs' => afillK pl r cs' K) False
theorem afillK_inv (pl : List (Nat × Nat)) : ∀ (ps : List (Nat × AV)) (cs : List AV) (K : List AV → Prop), afillK pl ps cs K → ∃ cs', afill pl cs ps = some cs' ∧ K cs'
  | [], cs, K, h => ⟨cs, rfl, h⟩
  | (i, v) :: r, cs, K, h => by
    unfold afillK at h
    unfold afill
    split at h
    · exact h.elim
    · rename_i off size hp
      cases hb : (Nat.beq (acells v).length size && Nat.ble (off + size) cs.length) with
      | false => rw [hb] at h; exact h.elim
      | true =>
        rw [hb, cond_true, forceS_eq] at h
        simp only [Bool.and_eq_true] at hb
        rw [if_pos ⟨Nat.eq_of_beq_eq_true hb.1, Nat.le_of_ble_eq_true hb.2⟩]
        exact afillK_inv pl r _ K h
theorem afillK_mono (pl : List (Nat × Nat)) : ∀ (ps : List (Nat × AV)) (cs cs' : List AV) (K K' : List AV → Prop), afillK pl ps cs K → afill pl cs ps = some cs' → K' cs' → afillK pl ps cs K'
  | [], cs, cs', K, K', _, e, h => by
    unfold afill at e
    cases e
    exact h
  | (i, v) :: r, cs, cs', K, K', hk, e, h => by
    unfold afillK at hk ⊢
    unfold afill at e
    split at hk
    · exact hk.elim
    · rename_i off size hp
      rw [hp] at e
      dsimp only at e
      cases hb : (Nat.beq (acells v).length size && Nat.ble (off + size) cs.length) with
      | false => rw [hb] at hk; exact hk.elim
      | true =>
        rw [hb, cond_true, forceS_eq] at hk
        rw [cond_true, forceS_eq]
        simp only [Bool.and_eq_true] at hb
        rw [if_pos ⟨Nat.eq_of_beq_eq_true hb.1, Nat.le_of_ble_eq_true hb.2⟩] at e
        exact afillK_mono pl r _ cs' K K' hk e h

/-- The cell at a place. -/
def nthK : List AV → Nat → (AV → Prop) → Prop
  | [], _, _ => False
  | c :: _, 0, K => K c
  | _ :: r, o + 1, K => nthK r o K
theorem nth_at : ∀ {cs : List AV} {o : Nat} {c : AV} {K : AV → Prop}, cs[o]? = some c → K c → nthK cs o K
  | [], _, _, _, h, _ => by simp at h
  | c :: _, 0, _, _, h, hk => by simp at h; subst h; exact hk
  | _ :: r, o + 1, _, _, h, hk => nth_at (cs := r) (o := o) (by simpa using h) hk
theorem nth_inv : ∀ {cs : List AV} {o : Nat} {K : AV → Prop}, nthK cs o K → ∃ c, cs[o]? = some c ∧ K c
  | [], _, _, h => h.elim
  | c :: _, 0, _, h => ⟨c, rfl, h⟩
  | _ :: r, o + 1, _, h => by
    obtain ⟨c, h1, h2⟩ := nth_inv (cs := r) (o := o) h
    exact ⟨c, by simpa using h1, h2⟩

/-- One operation. -/
def aop (P : Program) (T : Tab) (o : Oper) (a : List AV) (H : Heap) (K : AV → Heap → Prop) (E : AV → Heap → Prop) : Prop :=
  match o.op with
  | .move x | .assign x => K (aeval a x) H
  | .pick c x y =>
    match aeval a c with
    | .bool b =>
      match aeval a x, aeval a y with
      | .bool x', .bool y' => K (.bool (cond b x' y')) H
      | x', y' => cond b (K x' H) (K y' H)
    | _ => False
  | .alloc t =>
    match zeroA P t with
    | some z => cond ((acells z).all okCell) (K (.ptr H.length 0) (H ++ [.var (acells z)])) False
    | none => False
  | .box _ x => cond ((acells (aeval a x)).all okCell) (K (.ptr H.length 0) (H ++ [.var (acells (aeval a x))])) False
  | .build t parts =>
    match P.underlying t, zeroA P t with
    | some (.struct fs), some z =>
      match places P fs.toList with
      | some pl =>
        match afill pl (acells z) (parts.toList.map fun p => (p.1, aeval a p.2)) with
        | some cs => cond ((parts.toList.all fun p => (acells (aeval a p.2)).all okCell) && (acells z).all okCell) (K (.agg cs) H) False
        | none => False
      | none => False
    | some (.array n e), some z =>
      match P.info? e with
      | some i =>
        cond ((parts.toList.all fun p => (acells (aeval a p.2)).all okCell) && (acells z).all okCell)
          (forceS (acells z) fun z' => afillK ((List.range n).map fun j => (j * i.size, i.size)) (parts.toList.map fun p => (p.1, aeval a p.2)) z' fun cs => K (.agg cs) H) False
      | none => False
    | _, _ => False
  | .buildSlice t len parts =>
    match P.underlying t with
    | some (.slice e) =>
      match P.info? e, zeroA P e with
      | some i, some z =>
        if len = 0 then (if parts.size = 0 then K .zslice H else False) else
        if 0 < i.size ∧ len * i.size ≤ 2 ^ 24 ∧ zsz P e = true ∧ (acells z).all okCell = true ∧ (parts.toList.all fun p => (acells (aeval a p.2)).all okCell) = true then
          match afillS i.size (List.replicate len ((acells z).map tcell)) (frzParts H (parts.toList.map fun p => (p.1, aeval a p.2))).1 with
          | some es => cond (es.all fun el => el.all okCell)
              (K (.row (frzParts H (parts.toList.map fun p => (p.1, aeval a p.2))).2.length) ((frzParts H (parts.toList.map fun p => (p.1, aeval a p.2))).2 ++ [.row true e i.size es])) False
          | none => False
        else False
      | _, _ => False
    | _ => False
  | .load t x =>
    match aeval a x with
    | .rptr b i c =>
      match H[b]?, tyOf P t with
      | some (.row _ _ _ es), some (true, n) => ∃ el, es[i]? = some el ∧ c + n ≤ el.length ∧ K (.agg ((el.drop c).take n)) H
      | some (.row _ _ _ es), some (false, _) => ∃ el x r, es[i]? = some el ∧ el.drop c = x :: r ∧ K x H
      | _, _ => False
    | x' =>
      match tyOf P t with
      | some (true, n) => match cellsAt H x' with
        | some cs => if n ≤ cs.length then K (.agg (cs.take n)) H else False
        | none => False
      | some (false, _) => match x' with
        | .ptr b o => match H[b]? with
          | some (.var cs) => nthK cs o fun c => K c H
          | _ => False
        | .eptr (c :: _) => K c H
        | _ => False
      | none => False
  | .store t x v =>
    match aeval a x, tyOf P t with
    | .ptr b o, some (_, n) =>
      match H[b]? with
      | some (.var cs) =>
        if (acells (aeval a v)).all okCell = true ∧ (acells (aeval a v)).length = n ∧ o + n ≤ cs.length then K (.tuple []) (H.set b (.var (overAt cs o (acells (aeval a v))))) else False
      | _ => False
    | .rptr b i c, some (_, n) =>
      match (frzs H (acells (aeval a v))).2[b]? with
      | some (.row true e sz es) =>
        if (acells (aeval a v)).all okCell = true ∧ (frzs H (acells (aeval a v))).1.all okCell = true ∧ (frzs H (acells (aeval a v))).1.length = n then
          ∃ el, es[i]? = some el ∧ c + n ≤ el.length ∧ K (.tuple []) ((frzs H (acells (aeval a v))).2.set b (.row true e sz (es.set i (overAt el c (frzs H (acells (aeval a v))).1)))) else False
      | _ => False
    | _, _ => False
  | .nilCheck x =>
    match aeval a x with
    | .func (.func g) f c => K (.func (.func g) f c) H
    | x' => cond (live H x') (K x' H) False
  | .binOp op t x y _ =>
    match op, aeval a x, aeval a y with
    | .quo, .int k p, .int k' q => cond (decide (k = k') && decide (q ≠ 0)) (K (.int k (k.wrap (p.tdiv q))) H) False
    | .rem, .int k p, .int k' q => cond (decide (k = k') && decide (q ≠ 0)) (K (.int k (p.tmod q)) H) False
    | .shl, .int k p, .int _ q => cond (decide (0 ≤ q)) (K (.int k (k.wrap (p * 2 ^ (min q.toNat k.bits)))) H) False
    | .shr, .int k p, .int _ q => cond (decide (0 ≤ q)) (K (.int k (p.fdiv (2 ^ (min q.toNat k.bits)))) H) False
    | .eql, .bool p, .bool q => match P.underlying t with
      | some .bool => K (.bool (p == q)) H
      | _ => False
    | .neq, .bool p, .bool q => match P.underlying t with
      | some .bool => K (.bool (!(p == q))) H
      | _ => False
    | .eql, .agg [.int k a, .int k' b], .agg [.int j c, .int j' d] => Eq2 P t ∧ k = j ∧ k' = j' ∧ K (.bool ((a == c) && (b == d))) H
    | .neq, .agg [.int k a, .int k' b], .agg [.int j c, .int j' d] => Eq2 P t ∧ k = j ∧ k' = j' ∧ K (.bool (!((a == c) && (b == d)))) H
    | .eql, .iface _ _, .nilIface => match P.underlying t with
      | some (.interface _) => K (.bool false) H
      | _ => False
    | .neq, .iface _ _, .nilIface => match P.underlying t with
      | some (.interface _) => K (.bool true) H
      | _ => False
    | .eql, .nilIface, .nilIface => match P.underlying t, y with
      | some (.interface _), .const _ => K (.bool true) H
      | _, _ => False
    | .neq, .nilIface, .nilIface => match P.underlying t, y with
      | some (.interface _), .const _ => K (.bool false) H
      | _, _ => False
    | .eql, .nilptr, .nilptr => match P.underlying t with
      | some (.pointer _) => K (.bool true) H
      | _ => False
    | .neq, .nilptr, .nilptr => match P.underlying t with
      | some (.pointer _) => K (.bool false) H
      | _ => False
    | .eql, .eptr _, .nilptr => match P.underlying t with
      | some (.pointer _) => K (.bool false) H
      | _ => False
    | .neq, .eptr _, .nilptr => match P.underlying t with
      | some (.pointer _) => K (.bool true) H
      | _ => False
    | op, x', y' =>
      match abin op x' y' with
      | some v => K v H
      | none => cond (angY y) False (anil P op t x' H K)
  | .unOp op _ x =>
    match op, aeval a x with
    | .not, .bool b => K (.bool (!b)) H
    | .neg, .int k n => K (.int k (k.wrap (0 - n))) H
    | .xor, .int k n => K (.int k (bits .xor k (if k.signed then -1 else k.max) n)) H
    | _, _ => False
  | .convert src dst x =>
    match P.underlying src, P.underlying dst, aeval a x with
    | some _, some (.int k), .int _ n => K (.int k (k.wrap n)) H
    | some .string, some (.slice e), .str s => match P.underlying e with
      | some (.int .u8) => K (.slice (bytesA s)) H
      | _ => False
    | some (.slice e), some (.slice _), .row b => cond (Nat.beq src dst) (match P.underlying e, H[b]? with
      | some (.int .u8), some (.row _ _ _ (x :: r)) => K (.slice (x :: r)) (H.set b .dead)
      | _, _ => False) False
    | some (.slice e), some .string, x' =>
      match elems H x' with
      | some es => match P.underlying e with
        | some (.int .u8) => ∃ s : ByteArray, es = bytesA s ∧ K (.str s) H
        | _ => False
      | none => False
    | _, _, _ => False
  | .makeInterface t x =>
    match P.underlying t with
    | some (.interface _) => False
    | some _ => K (.iface t (aeval a x)) H
    | none => False
  | .typeAssert x _ dst ok =>
    match ok, aeval a x, P.underlying dst with
    | false, .iface _ _, some (.interface _) => False
    | false, .iface t v, some _ => cond (Nat.beq t dst) (K v H) False
    | _, _, _ => False
  | .makeFunc fn f c => K (.func fn (f.toList.map (aeval a)) (c.toList.map (aeval a))) H
  | .makeSlice t l c =>
    match P.underlying t, aeval a l, aeval a c with
    | some (.slice e), .int _ n, .int _ m =>
      match P.info? e, zeroA P e with
      | some i, some z =>
        0 < i.size ∧ zsz P e = true ∧ (acells z).all okCell = true ∧ n = m ∧ 0 ≤ n ∧ n < 9223372036854775808 ∧ (i.bytes : Int) * n ≤ 281474976710656 ∧
          K (.row H.length) (H ++ [.row true e i.size (List.replicate n.toNat ((acells z).map tcell))])
      | _, _ => False
    | _, _, _ => False
  | .slice t x lo hi mx =>
    match mx, bound (lo.map (aeval a)), bound (hi.map (aeval a)) with
    | none, some l, some h =>
      match P.underlying t, aeval a x with
      | some .string, .str s => boundsOk s.size l h ∧ K (.str (s.extract ((l.map Int.toNat).getD 0) ((h.map Int.toNat).getD s.size))) H
      | some (.slice e), x' =>
        match P.info? e, x' with
        | some _, .zslice => boundsOk 0 l h ∧ K .zslice H
        | some i, .slice es => (∀ el ∈ es, el.length = i.size) ∧ boundsOk es.length l h ∧ K (.slice (cutList es (l.map Int.toNat) (h.map Int.toNat))) H
        | some i, .row b =>
          match H[b]? with
          | some (.row _ _ sz es) => sz = i.size ∧ boundsOk es.length l h ∧ K (.srow b ((l.map Int.toNat).getD 0) ((h.map Int.toNat).getD es.length - (l.map Int.toNat).getD 0)) H
          | _ => False
        | some i, .srow b o n =>
          match H[b]? with
          | some (.row _ _ sz _) => sz = i.size ∧ boundsOk n l h ∧ K (.srow b (o + (l.map Int.toNat).getD 0) ((h.map Int.toNat).getD n - (l.map Int.toNat).getD 0)) H
          | _ => False
        | _, _ => False
      | some (.array n e), .ptr b o =>
        match P.info? e, H[b]? with
        | some i, some (.var cs) => cond (Nat.beq i.size 1 && Nat.ble (o + n) cs.length) (boundsOk n l h ∧ K (.vsl b (o + (l.map Int.toNat).getD 0) ((h.map Int.toNat).getD n - (l.map Int.toNat).getD 0)) H) False
        | _, _ => False
      | _, _ => False
    | _, _, _ => False
  | .fieldAddr s x f =>
    match P.underlying s with
    | some (.struct fs) =>
      match fs[f]? with
      | some fd =>
        match P.info? fd.type with
        | some i =>
          if i.size = 0 then False else
          match aeval a x with
          | .ptr b o => cond (live H (.ptr b o)) (K (.ptr b (o + fd.offset)) H) False
          | .rptr b j c => cond (live H (.rptr b j c)) (K (.rptr b j (c + fd.offset)) H) False
          | .eptr cs => K (.eptr (cs.drop fd.offset)) H
          | _ => False
        | none => False
      | none => False
    | _ => False
  | .field t x f =>
    match P.underlying t, aeval a x with
    | some (.struct fs), .agg cs =>
      match fs[f]? with
      | some fd =>
        match tyOf P fd.type with
        | some (true, n) => if fd.offset + n ≤ cs.length then K (.agg ((cs.drop fd.offset).take n)) H else False
        | some (false, _) => match cs.drop fd.offset with
          | c :: _ => K c H
          | [] => False
        | none => False
      | none => False
    | _, _ => False
  | .indexAddr t x ix =>
    match P.underlying t, aeval a x, aeval a ix with
    | some (.array n e), .ptr b o, .int _ i =>
      match P.info? e with
      | some inf => 0 ≤ i ∧ i < n ∧ cond (live H (.ptr b o)) (K (.ptr b (o + i.toNat * inf.size)) H) False
      | none => False
    | some (.array n e), .eptr cs, .int _ i =>
      match P.info? e with
      | some inf => 0 ≤ i ∧ i < n ∧ K (.eptr (cs.drop (i.toNat * inf.size))) H
      | none => False
    | some (.slice e), .slice es, .int _ i =>
      match P.info? e with
      | some inf => 0 ≤ i ∧ i < es.length ∧ ∃ el, es[i.toNat]? = some el ∧ el.length = inf.size ∧ K (.eptr el) H
      | none => False
    | some (.slice e), .row b, .int _ i =>
      match P.info? e, H[b]? with
      | some inf, some (.row _ _ sz es) => inf.size = sz ∧ 0 ≤ i ∧ i < es.length ∧ K (.rptr b i.toNat 0) H
      | _, _ => False
    | some (.slice e), .srow b o n, .int _ i =>
      match P.info? e, H[b]? with
      | some inf, some (.row _ _ sz _) => inf.size = sz ∧ 0 ≤ i ∧ i < n ∧ K (.rptr b (o + i.toNat) 0) H
      | _, _ => False
    | _, _, _ => False
  | .index t x ix =>
    match P.underlying t, aeval a x, aeval a ix with
    | some .string, .str s, .int _ i => ∃ b : UInt8, 0 ≤ i ∧ s[i.toNat]? = some b ∧ K (.int .u8 b.toNat) H
    | some (.array n e), .agg cs, .int _ i =>
      match tyOf P e with
      | some (true, sz) => 0 ≤ i ∧ i < n ∧ (if i.toNat * sz + sz ≤ cs.length then K (.agg ((cs.drop (i.toNat * sz)).take sz)) H else False)
      | some (false, sz) => 0 ≤ i ∧ i < n ∧ (match cs.drop (i.toNat * sz) with
        | c :: _ => K c H
        | [] => False)
      | none => False
    | _, _, _ => False
  | .range t x =>
    match P.underlying t, aeval a x with
    | some .string, .str s => K (.ptr H.length 0) (H ++ [.iter s 0])
    | _, _ => False
  | .next it isStr =>
    match isStr, aeval a it with
    | true, .ptr b 0 =>
      match H[b]? with
      | some (.iter s pos) =>
        cond (Nat.blt pos s.size) (K (.tuple [.bool true, .int .i64 pos, .int .i32 (Utf8.decode s pos).1]) (H.set b (.iter s (pos + (Utf8.decode s pos).2)))) (K (.tuple [.bool false]) H)
      | _ => False
    | _, _ => False
  | .extract x i =>
    match aeval a x with
    | .tuple vs => match vs[i]? with
      | some v => K v H
      | none => False
    | _ => False
  | .panic x =>
    match aeval a x with
    | .iface t v => E (.iface t v) H
    | _ => False
  | .call { callee := .builtin b, args, argTypes } =>
    match b, args.toList.map (aeval a) with
    | .len, [x] =>
      match (argTypes[0]?).bind P.underlying, x with
      | some .string, .str s => K (.int .i64 s.size) H
      | some (.array n _), _ => K (.int .i64 n) H
      | some (.slice _), x =>
        match elems H x with
        | some es => K (.int .i64 es.length) H
        | none => False
      | _, _ => False
    | .min, [.int k x, .int _ y] => K (.int k (if y < x then y else x)) H
    | .max, [.int k x, .int _ y] => K (.int k (if x < y then y else x)) H
    | .copy, [.vsl b1 o1 n1, .vsl b2 o2 n2] =>
      match (argTypes[0]?).bind P.underlying with
      | some (.slice e) =>
        match P.info? e, H[b1]?, H[b2]? with
        | some i, some (.var cs), some (.var ds) => cond (Nat.beq i.size 1 && Nat.ble (o1 + n1) cs.length && Nat.ble (o2 + n2) ds.length)
            (K (.int .i64 (min n2 n1 : Nat)) (H.set b1 (.var (overAt cs o1 ((ds.drop o2).take (min n2 n1)))))) False
        | _, _, _ => False
      | _ => False
    | .append, [s, x] =>
      match argTypes.toList with
      | [t, t'] =>
        if t = t' then
          match P.underlying t with
          | some (.slice e) =>
            match P.info? e, elems H x with
            | some i, some ys =>
              cond (Nat.blt 0 i.size && zsz P e) (match s with
              | .zslice => FitsA ys i.size i.bytes 0 ∧ K (.row H.length) (H ++ [.row true e i.size ys])
              | .row b =>
                match H[b]? with
                | some (.row wr e' sz es) => cond (Nat.beq e' e && Nat.beq sz i.size) (FitsA ys i.size i.bytes es.length ∧ K (.row H.length) (H.set b .dead ++ [.row wr e sz (es ++ ys)])) False
                | _ => False
              | _ => False) False
            | _, _ => False
          | _ => False
        else False
      | _ => False
    | _, _ => False
  | .call { callee := .value f, args, .. } =>
    match aeval a f with
    | .func (.func g) first cap => T g (first ++ args.toList.map (aeval a) ++ cap) H fun out H' => match out with
      | .ret v => K v H'
      | .pan v => E v H'
    | _ => False
  | _ => False

end Go.Abs

/-
An abstract machine over values as trees: operations come to one end; some of them don't look at the heap.
-/
namespace Go.Abs
open Go
variable {P : Program}

/-- It comes to one end. -/
def Ang (φ : (AV → Heap → Prop) → Prop) : Prop := ∀ K, φ K → ∃ v H', φ (fun x h => x = v ∧ h = H') ∧ K v H'

theorem Ang.no : Ang fun _ => False := fun _ h => h.elim
theorem Ang.at (v : AV) (H : Heap) : Ang fun K => K v H := fun _ h => ⟨v, H, ⟨rfl, rfl⟩, h⟩
theorem Ang.and {p : Prop} {φ : (AV → Heap → Prop) → Prop} (h : Ang φ) : Ang fun K => p ∧ φ K := fun K hk => let ⟨v, H', h1, h2⟩ := h K hk.2; ⟨v, H', ⟨hk.1, h1⟩, h2⟩
theorem Ang.ex {α : Type} {φ : α → (AV → Heap → Prop) → Prop} (h : ∀ a, Ang (φ a)) : Ang fun K => ∃ a, φ a K := fun K ⟨a, hk⟩ => let ⟨v, H', h1, h2⟩ := h a K hk; ⟨v, H', ⟨a, h1⟩, h2⟩
theorem Ang.cond {b : Bool} {φ ψ : (AV → Heap → Prop) → Prop} (h1 : Ang φ) (h2 : Ang ψ) : Ang fun K => cond b (φ K) (ψ K) := by cases b; exact h2; exact h1
theorem Ang.nth (cs : List AV) (o : Nat) (H : Heap) : Ang fun K => nthK cs o fun c => K c H := fun _ h => let ⟨c, h1, h2⟩ := nth_inv h; ⟨c, H, nth_at h1 ⟨rfl, rfl⟩, h2⟩
theorem Ang.fill (pl : List (Nat × Nat)) (ps : List (Nat × AV)) (z : List AV) (H : Heap) : Ang fun K => forceS z fun z' => afillK pl ps z' fun cs => K (.agg cs) H := fun K h => by
  dsimp only at h ⊢
  rw [forceS_eq] at h
  obtain ⟨cs, h1, h2⟩ := afillK_inv pl ps z _ h
  exact ⟨.agg cs, H, by rw [forceS_eq]; exact afillK_mono pl ps z cs _ _ h h1 ⟨rfl, rfl⟩, h2⟩
theorem Ang.ite {p : Prop} [Decidable p] {φ ψ : (AV → Heap → Prop) → Prop} (h1 : Ang φ) (h2 : Ang ψ) : Ang fun K => if p then φ K else ψ K := by
  by_cases h : p
  · simp only [if_pos h]; exact h1
  · simp only [if_neg h]; exact h2

/-- A table whose callees come to one end. -/
def TAng (T : Tab) : Prop := ∀ f args H (K : AOut → Heap → Prop), T f args H K → ∃ out H', T f args H (fun x h => x = out ∧ h = H') ∧ K out H'
def TMono (T : Tab) : Prop := ∀ f args H (K K' : AOut → Heap → Prop), (∀ o h, K o h → K' o h) → T f args H K → T f args H K'


def angOp (o : Oper) : Bool := match o.op with
  | .binOp _ _ _ y _ => angY y
  | _ => true

theorem aop_ang {T : Tab} (hT : TAng T) (hM : TMono T) (o : Oper) (ha : angOp o = true) (a : List AV) (H : Heap) : Ang fun K => aop P T o a H K (fun _ _ => False) := by
  unfold aop
  unfold angOp at ha
  cases hop : o.op <;> rw [hop] at ha <;> dsimp only at ha
  case binOp op t x y u =>
    simp only [ha, cond_true]
    repeat' (first | exact Ang.no | exact Ang.at _ _ | exact Ang.nth _ _ _ | exact Ang.fill _ _ _ _ | refine Ang.and ?_ | refine Ang.ex fun _ => ?_ | refine Ang.cond ?_ ?_ | refine Ang.ite ?_ ?_ | split)
  case call c =>
    obtain ⟨callee, args, tys⟩ := c
    cases callee with
    | value f =>
      dsimp only
      split
      · intro K h
        obtain ⟨out, H', h1, h2⟩ := hT _ _ _ _ h
        cases out with
        | ret v => exact ⟨v, H', hM _ _ _ _ _ (fun o h hh => by obtain ⟨rfl, rfl⟩ := hh; exact ⟨rfl, rfl⟩) h1, h2⟩
        | pan v => exact h2.elim
      · exact Ang.no
    | builtin b => 
      dsimp only
      repeat' (first | exact Ang.no | exact Ang.at _ _ | exact Ang.nth _ _ _ | exact Ang.fill _ _ _ _ | refine Ang.and ?_ | refine Ang.ex fun _ => ?_ | refine Ang.cond ?_ ?_ | refine Ang.ite ?_ ?_ | split)
    | invoke r m => exact Ang.no
  all_goals dsimp only
  all_goals repeat' (first | exact Ang.no | exact Ang.at _ _ | exact Ang.nth _ _ _ | exact Ang.fill _ _ _ _ | refine Ang.and ?_ | refine Ang.ex fun _ => ?_ | refine Ang.cond ?_ ?_ | refine Ang.ite ?_ ?_ | split)

/-- It doesn't look at the heap. -/
def HFree (φ : Heap → (AV → Heap → Prop) → Prop) : Prop := ∀ H K, φ H K → ∃ v, (∀ H2, φ H2 (fun x h => x = v ∧ h = H2)) ∧ K v H

theorem HFree.no : HFree fun _ _ => False := fun _ _ h => h.elim
theorem HFree.at (v : AV) : HFree fun H K => K v H := fun _ _ h => ⟨v, fun _ => ⟨rfl, rfl⟩, h⟩
theorem HFree.and {p : Prop} {φ : Heap → (AV → Heap → Prop) → Prop} (h : HFree φ) : HFree fun H K => p ∧ φ H K := fun H K hk => let ⟨v, h1, h2⟩ := h H K hk.2; ⟨v, fun H2 => ⟨hk.1, h1 H2⟩, h2⟩
theorem HFree.ex {α : Type} {φ : α → Heap → (AV → Heap → Prop) → Prop} (h : ∀ a, HFree (φ a)) : HFree fun H K => ∃ a, φ a H K := fun H K ⟨a, hk⟩ => let ⟨v, h1, h2⟩ := h a H K hk; ⟨v, fun H2 => ⟨a, h1 H2⟩, h2⟩
theorem HFree.cond {b : Bool} {φ ψ : Heap → (AV → Heap → Prop) → Prop} (h1 : HFree φ) (h2 : HFree ψ) : HFree fun H K => cond b (φ H K) (ψ H K) := by cases b; exact h2; exact h1
theorem HFree.fill (pl : List (Nat × Nat)) (ps : List (Nat × AV)) (z : List AV) : HFree fun H K => forceS z fun z' => afillK pl ps z' fun cs => K (.agg cs) H := fun H K h => by
  dsimp only at h ⊢
  rw [forceS_eq] at h
  obtain ⟨cs, h1, h2⟩ := afillK_inv pl ps z _ h
  exact ⟨.agg cs, fun H2 => (by rw [forceS_eq]; exact afillK_mono pl ps z cs _ _ h h1 ⟨rfl, rfl⟩), h2⟩
theorem HFree.ite {p : Prop} [Decidable p] {φ ψ : Heap → (AV → Heap → Prop) → Prop} (h1 : HFree φ) (h2 : HFree ψ) : HFree fun H K => if p then φ H K else ψ H K := by
  by_cases h : p
  · simp only [if_pos h]; exact h1
  · simp only [if_neg h]; exact h2

def hfree (o : Oper) : Bool :=
  match o.op with
  | .binOp _ _ _ y _ => angY y
  | .move _ | .assign _ | .pick .. | .unOp .. | .extract .. | .makeInterface .. | .makeFunc .. | .field .. | .build .. | .index .. | .typeAssert .. => true
  | _ => false

theorem aop_hfree {T : Tab} {o : Oper} (ho : hfree o = true) (a : List AV) : HFree fun H K => aop P T o a H K (fun _ _ => False) := by
  unfold aop hfree at *
  cases hop : o.op <;> rw [hop] at ho <;> try (simp only [Bool.false_eq_true] at ho; done)
  case binOp op t x y u =>
    simp only at ho
    simp only [ho, cond_true]
    repeat' (first | exact HFree.no | exact HFree.at _ | exact HFree.fill _ _ _ | refine HFree.and ?_ | refine HFree.ex fun _ => ?_ | refine HFree.cond ?_ ?_ | refine HFree.ite ?_ ?_ | split)
  all_goals dsimp only
  all_goals repeat' (first | exact HFree.no | exact HFree.at _ | exact HFree.fill _ _ _ | refine HFree.and ?_ | refine HFree.ex fun _ => ?_ | refine HFree.cond ?_ ?_ | refine HFree.ite ?_ ?_ | split)


/-- It keeps the heap. -/
def HKeep (φ : (AV → Heap → Prop) → Prop) (H : Heap) : Prop := ∀ K, φ K → φ (fun x h => h = H ∧ K x h)
theorem HKeep.no {H : Heap} : HKeep (fun _ => False) H := fun _ h => h.elim
theorem HKeep.at (v : AV) (H : Heap) : HKeep (fun K => K v H) H := fun _ h => ⟨rfl, h⟩
theorem HKeep.and {p : Prop} {φ : (AV → Heap → Prop) → Prop} {H : Heap} (h : HKeep φ H) : HKeep (fun K => p ∧ φ K) H := fun K hk => ⟨hk.1, h K hk.2⟩
theorem HKeep.ex {α : Type} {φ : α → (AV → Heap → Prop) → Prop} {H : Heap} (h : ∀ a, HKeep (φ a) H) : HKeep (fun K => ∃ a, φ a K) H := fun K ⟨a, hk⟩ => ⟨a, h a K hk⟩
theorem HKeep.cond {b : Bool} {φ ψ : (AV → Heap → Prop) → Prop} {H : Heap} (h1 : HKeep φ H) (h2 : HKeep ψ H) : HKeep (fun K => cond b (φ K) (ψ K)) H := by cases b; exact h2; exact h1
theorem HKeep.nth (cs : List AV) (o : Nat) (H : Heap) : HKeep (fun K => nthK cs o fun c => K c H) H := fun _ h => let ⟨_, h1, h2⟩ := nth_inv h; nth_at h1 ⟨rfl, h2⟩
theorem HKeep.ite {p : Prop} [Decidable p] {φ ψ : (AV → Heap → Prop) → Prop} {H : Heap} (h1 : HKeep φ H) (h2 : HKeep ψ H) : HKeep (fun K => if p then φ K else ψ K) H := by
  by_cases h : p
  · simp only [if_pos h]; exact h1
  · simp only [if_neg h]; exact h2

def hkeep (o : Oper) : Bool :=
  match o.op with
  | .load .. | .nilCheck _ | .fieldAddr .. | .indexAddr .. | .slice .. => true
  | .convert s d _ => !(Nat.beq s d)
  | .call { callee := .builtin .len, .. } => true
  | _ => false

theorem aop_hkeep {T : Tab} {o : Oper} (ho : hkeep o = true) (a : List AV) (H : Heap) : HKeep (fun K => aop P T o a H K (fun _ _ => False)) H := by
  unfold aop hkeep at *
  cases hop : o.op <;> rw [hop] at ho <;> try (simp only [Bool.false_eq_true] at ho; done)
  case call c =>
    obtain ⟨callee, args, tys⟩ := c
    cases callee with
    | value f => simp only [Bool.false_eq_true] at ho
    | invoke r m => simp only [Bool.false_eq_true] at ho
    | builtin b =>
      cases b <;> try (simp only [Bool.false_eq_true] at ho; done)
      dsimp only
      repeat' (first | (exfalso; contradiction) | exact HKeep.no | exact HKeep.at _ _ | exact HKeep.nth _ _ _ | refine HKeep.and ?_ | refine HKeep.ex fun _ => ?_ | refine HKeep.cond ?_ ?_ | refine HKeep.ite ?_ ?_ | split)
  case convert src dst x =>
    have hb : Nat.beq src dst = false := by simpa using ho
    dsimp only
    simp only [hb, cond_false]
    repeat' (first | exact HKeep.no | exact HKeep.at _ _ | refine HKeep.and ?_ | refine HKeep.ex fun _ => ?_ | split)
  all_goals dsimp only
  all_goals repeat' (first | exact HKeep.no | exact HKeep.at _ _ | exact HKeep.nth _ _ _ | refine HKeep.and ?_ | refine HKeep.ex fun _ => ?_ | refine HKeep.cond ?_ ?_ | refine HKeep.ite ?_ ?_ | split)

end Go.Abs

/-
An abstract machine over values as trees: its regions, its code, what is live at a loop's head.
-/
namespace Go.Abs
open Go

/-- One operation with its guard; what comes behind stands once. -/
def astep (P : Program) (T : Tab) (ops : Array Oper) (E : AV → List AV → Heap → Prop) (o : Oper) (a : List AV) (H : Heap) (Kn : List AV → Heap → Prop) : Prop :=
    match o.guard with
    | none => aop P T o a H (fun v H' => forceV v fun v => forceS (aput a o.dst v) fun a => Kn a H') (fun v H' => E v a H')
    | some (j, want) =>
      match (ops[j]?).bind (·.dst) with
      | none => False
      | some d =>
        match a.getD d .any with
        | .bool b =>
          cond b
            (cond want
              (aop P T o (a.set d (.bool true)) H (fun v H' => forceV v fun v => forceS (aput (a.set d (.bool true)) o.dst v) fun a => Kn a H') (fun v H' => E v (a.set d (.bool true)) H'))
              (forceS (aput (a.set d (.bool true)) o.dst (.tuple [])) fun a => Kn a H))
            (cond want
              (forceS (aput (a.set d (.bool false)) o.dst (.tuple [])) fun a => Kn a H)
              (aop P T o (a.set d (.bool false)) H (fun v H' => forceV v fun v => forceS (aput (a.set d (.bool false)) o.dst v) fun a => Kn a H') (fun v H' => E v (a.set d (.bool false)) H')))
        | .tuple _ => forceS (aput a o.dst (.tuple [])) fun a => Kn a H
        | _ => False

/-- Operations in the order of the text. -/
def aops (P : Program) (T : Tab) (ops : Array Oper) (K : List AV → Heap → Prop) (E : AV → List AV → Heap → Prop) : List Oper → List AV → Heap → Prop
  | [], a, H => K a H
  | o :: r, a, H => astep P T ops E o a H (fun a H => aops P T ops K E r a H)

/-! ### Regions that draw their order -/
/-- What comes before an operation in every order. -/
def bnd (o : Oper) : List Nat := (o.after.toList.filter (Region.binds .any)).map (·.on)
def orAll (rows : List Nat) : List Nat → Nat
  | [] => 0
  | j :: r => (1 <<< j) ||| (rows.getD j 0 ||| orAll rows r)
/-- Row i has the bits of all that comes before operation i in every order. -/
def befs : List Oper → List Nat → List Nat
  | [], rows => rows
  | o :: r, rows => befs r (rows ++ [orAll rows (bnd o)])
def dstIx : List Oper → Nat → Nat → Option Nat
  | [], _, _ => none
  | o :: r, j, t => match o.dst with
    | some d => cond (d == t) (some j) (dstIx r (j + 1) t)
    | none => dstIx r (j + 1) t
def okDraw (ops : List Oper) : Bool :=
  (ops.zipIdx.all fun x => (bnd x.1).all fun j => Nat.blt j x.2) && ops.zipIdx.all fun x => match x.1.dst with
    | some d => match dstIx ops 0 d with
      | some j => j == x.2
      | none => false
    | none => true

def maskT (ops : List Oper) (rows : List Nat) (fin : List AV) (i : Nat) (t : Nat) (x : AV) : AV :=
  match dstIx ops 0 t with
  | none => x
  | some j => cond ((rows.getD i 0).testBit j) (fin.getD j .any) (cond (j == i || (rows.getD j 0).testBit i) x .any)
/-- What operation i surely sees. -/
def amask (ops : List Oper) (rows : List Nat) (fin : List AV) (i : Nat) : Nat → List AV → List AV
  | _, [] => []
  | t, x :: r => maskT ops rows fin i t x :: amask ops rows fin i (t + 1) r
def finT (ops : List Oper) (fin : List AV) (t : Nat) (x : AV) : AV :=
  match dstIx ops 0 t with
  | none => x
  | some j => fin.getD j .any
def afin (ops : List Oper) (fin : List AV) : Nat → List AV → List AV
  | _, [] => []
  | t, x :: r => finT ops fin t x :: afin ops fin (t + 1) r

def aguard (ops : Array Oper) (o : Oper) (a : List AV) (run : List AV → Prop) (skip : Prop) : Prop :=
  match o.guard with
  | none => run a
  | some (j, want) =>
    match (ops[j]?).bind (·.dst) with
    | none => False
    | some d =>
      match a.getD d .any with
      | .bool b => cond b (cond want (run (a.set d (.bool true))) skip) (cond want skip (run (a.set d (.bool false))))
      | .tuple _ => skip
      | _ => False

def aopS (P : Program) (T : Tab) (o : Oper) (a : List AV) (H : Heap) (v : AV) (H' : Heap) : Prop :=
  aop P T o a H (fun x h => x = v ∧ h = H') (fun _ _ => False)

structure Sil where
  j : Nat
  o : Oper
  a : List AV
  v : AV

def chkPast (P : Program) (T : Tab) (o : Oper) (a : List AV) (v : AV) (row : Nat) (rest : Prop) : List (Nat × Heap) → Prop
  | [] => rest
  | (e, H) :: r => cond (row.testBit e) (chkPast P T o a v row rest r) (aopS P T o a H v H ∧ chkPast P T o a v row rest r)
def allPast (row : Nat) : List (Nat × Heap) → Bool
  | [] => true
  | (e, _) :: r => cond (row.testBit e) (allPast row r) false
theorem allPast_eq (row : Nat) : ∀ past : List (Nat × Heap), allPast row past = past.all fun e => row.testBit e.1
  | [] => rfl
  | (e, _) :: r => by
    simp only [allPast, List.all_cons, allPast_eq row r]
    cases row.testBit e <;> rfl
def chkSil (P : Program) (T : Tab) (row : Nat) (H : Heap) (rest : Prop) : List Sil → Prop
  | [] => rest
  | ⟨j, o, a, v⟩ :: r => cond (row.testBit j) (chkSil P T row H rest r) (aopS P T o a H v H ∧ chkSil P T row H rest r)

/-- One operation of a region that draws its order. -/
def dstep (P : Program) (T : Tab) (ops : Array Oper) (rows : List Nat) (effs : List Nat) (a : List AV) (o : Oper) (i : Nat) (fin : List AV) (past : List (Nat × Heap)) (sil : List Sil) (H : Heap)
    (Kn : List AV → List (Nat × Heap) → List Sil → Heap → Prop) : Prop :=
  cond (angOp o)
    (aguard ops o (amask ops.toList rows fin i 0 a)
      (fun a1 => aop P T o a1 H (fun v H' => forceV v fun v =>
        cond (effs.contains i)
          (forceH H' fun H' => cond (allPast (rows.getD i 0) past) (chkSil P T (rows.getD i 0) H' (Kn (fin ++ [v]) (past ++ [(i, H)]) sil H') sil) False)
          (cond (hfree o) (Kn (fin ++ [v]) past sil H)
            (cond (hkeep o) (chkPast P T o a1 v (rows.getD i 0) (Kn (fin ++ [v]) past (sil ++ [⟨i, o, a1, v⟩]) H) past)
              (H' = H ∧ chkPast P T o a1 v (rows.getD i 0) (Kn (fin ++ [v]) past (sil ++ [⟨i, o, a1, v⟩]) H) past)))) (fun _ _ => False))
      (Kn (fin ++ [.tuple []]) past sil H)) False

/-- Operations in every order: those of 'effs' turn the heap, one behind the other; the others may stand before and behind. -/
def adraw (P : Program) (T : Tab) (ops : Array Oper) (rows : List Nat) (effs : List Nat) (a : List AV) (K : List AV → Heap → Prop) :
    List Oper → Nat → List AV → List (Nat × Heap) → List Sil → Heap → Prop
  | [], _, fin, _, _, H => K (afin ops.toList fin 0 a) H
  | o :: r, i, fin, past, sil, H => dstep P T ops rows effs a o i fin past sil H (fun fin past sil H => forceS fin fun fin => adraw P T ops rows effs a K r (i + 1) fin past sil H)

/-! ### What is live -/
def addL (l : List Nat) (x : Nat) : List Nat := if l.contains x then l else x :: l
def unionL (l : List Nat) : List Nat → List Nat
  | [] => l
  | x :: r => unionL (addL l x) r
def opndsL : List Operand → List Nat
  | [] => []
  | .tmp t :: r => t :: opndsL r
  | _ :: r => opndsL r

structure LE where
  nxt : List Nat
  ex : List (Nat × List Nat)
  rt : List Nat

def liveOps (ops : Array Oper) : List Oper → List Nat → List Nat
  | [], out => out
  | o :: r, out =>
    let l := liveOps ops r out
    let l := match o.dst with | some d => l.filter (· != d) | none => l
    let l := unionL l (opndsL o.op.operands.toList)
    match o.guard with
    | some (j, _) => match (ops[j]?).bind (·.dst) with | some d => addL l d | none => l
    | none => l

def liveIn : Code → LE → List Nat
  | .skip, le => le.nxt
  | .region _ ops _, le => liveOps ops ops.toList le.nxt
  | .seq x y, le => liveIn x { le with nxt := liveIn y le }
  | .cond c x y, le => unionL (unionL (liveIn x le) (liveIn y le)) (opndsL [c])
  | .block id c, le => liveIn c { le with ex := (id, le.nxt) :: le.ex }
  | .loop c, le => liveIn c { le with nxt := liveIn c { le with nxt := liveIn c { le with nxt := [] } } }
  | .exit id, le => ((le.ex.find? (·.1 == id)).map (·.2)).getD []
  | .ret, le => le.rt
  | _, le => le.nxt

/-! ### At a loop's head: what isn't live is forgotten, the objects are numbered anew -/
mutual
def refs : AV → List Nat
  | .ptr b _ | .rptr b _ _ | .row b | .srow b _ _ | .vsl b _ _ | .map b => [b]
  | .func _ f c => refsL f ++ refsL c
  | .iface _ v => refs v
  | .agg cs => refsL cs
  | .tuple vs => refsL vs
  | _ => []
def refsL : List AV → List Nat
  | [] => []
  | v :: r => refs v ++ refsL r
end
mutual
def ren (ρ : Nat → Option Nat) : AV → AV
  | .ptr b o => match ρ b with | some b' => .ptr b' o | none => .any
  | .rptr b i c => match ρ b with | some b' => .rptr b' i c | none => .any
  | .row b => match ρ b with | some b' => .row b' | none => .any
  | .srow b o n => match ρ b with | some b' => .srow b' o n | none => .any
  | .vsl b o n => match ρ b with | some b' => .vsl b' o n | none => .any
  | .map b => match ρ b with | some b' => .map b' | none => .any
  | .func fn f c => .func fn (renL ρ f) (renL ρ c)
  | .iface t v => .iface t (ren ρ v)
  | .agg cs => .agg (renL ρ cs)
  | .tuple vs => .tuple (renL ρ vs)
  | v => v
def renL (ρ : Nat → Option Nat) : List AV → List AV
  | [] => []
  | v :: r => ren ρ v :: renL ρ r
end
def hrefs : HO → List Nat
  | .var cs => refsL cs
  | _ => []
def renH (ρ : Nat → Option Nat) : HO → HO
  | .var cs => .var (renL ρ cs)
  | o => o
def isDead : HO → Bool
  | .dead => true
  | _ => false

/-- The objects that are reached, in the order in which they are met. -/
def reach (H : Heap) : Nat → List Nat → List Nat → List Nat
  | 0, _, seen => seen
  | _ + 1, [], seen => seen
  | n + 1, b :: r, seen =>
    if seen.contains b then reach H n r seen
    else match H[b]? with
      | some o => if isDead o then reach H n r seen else reach H n (hrefs o ++ r) (seen ++ [b])
      | none => reach H n r seen

def keepOnly (keep : List Nat) : Nat → List AV → List AV
  | _, [] => []
  | i, v :: r => (if keep.contains i then v else .any) :: keepOnly keep (i + 1) r

/-- The first 'pin' objects keep their places. -/
def gcIds (pin : Nat) (a : List AV) (H : Heap) : List Nat :=
  reach H (2 * (H.length + (refsL a).length + ((H.map hrefs).map List.length).sum) + 2 * pin + 2) (((H.take pin).map hrefs).flatten ++ refsL a) (List.range pin)

def agc (pin : Nat) (keep : List Nat) (a : List AV) (H : Heap) : List AV × Heap :=
  let a1 := keepOnly keep 0 a
  let ids := gcIds pin a1 H
  (renL (ids.idxOf? ·) a1, ids.map fun b => renH (ids.idxOf? ·) (H.getD b .dead))

def litCond (a : List AV) (c : Operand) (b : Bool) : List AV :=
  match c with
  | .tmp t => a.set t (.bool b)
  | _ => a

abbrev KT := AExit → List AV → Heap → Prop

def aloop (step : KT → List AV → Heap → Prop) (gc : List AV → Heap → List AV × Heap) (K : KT) : Nat → List AV → Heap → Prop
  | 0, _, _ => False
  | n + 1, a, H => step (fun e a' H' => match e with
      | .normal => aloop step gc K n (gc a' H').1 (gc a' H').2
      | e => K e a' H') a H

def acode (P : Program) (T : Tab) (pin N : Nat) : Code → LE → KT → List AV → Heap → Prop
  | .skip, _, K, a, H => K .normal a H
  | .region _ ops draw, _, K, a, H => cond draw (cond (okDraw ops.toList) (∃ effs, forceN (befs ops.toList []) fun rows => adraw P T ops rows effs a (fun a H => forceS a fun a => forceH H fun H => K .normal a H) ops.toList 0 [] [] [] H) False) (aops P T ops (fun a H => forceS a fun a => forceH H fun H => K .normal a H) (fun v a H => K (.pan v) a H) ops.toList a H)
  | .seq x y, le, K, a, H => acode P T pin N x { le with nxt := liveIn y le } (fun e a H => match e with
      | .normal => acode P T pin N y le K a H
      | e => K e a H) a H
  | .cond c x y, le, K, a, H =>
    match aeval a c with
    | .bool b => cond b (acode P T pin N x le K (litCond a c true) H) (acode P T pin N y le K (litCond a c false) H)
    | _ => False
  | .block id c, le, K, a, H => acode P T pin N c { le with ex := (id, le.nxt) :: le.ex } (fun e a H => match e with
      | .exit id' => if id' = id then K .normal a H else K (.exit id') a H
      | e => K e a H) a H
  | .loop c, le, K, a, H =>
    aloop (fun K a H => acode P T pin N c { le with nxt := liveIn (.loop c) le } K a H) (agc pin (liveIn (.loop c) le)) K N
      (agc pin (liveIn (.loop c) le) a H).1 (agc pin (liveIn (.loop c) le) a H).2
  | .exit id, _, K, a, H => K (.exit id) a H
  | .ret, _, K, a, H => K .ret a H
  | _, _, _, _, _ => False

/-- A function's results. -/
def aresults (P : Program) (a : List AV) (H : Heap) : List ResultVar → Option (List AV)
  | [] => some []
  | r :: rs =>
    match (match r with
      | .tmp t => some (a.getD t .any)
      | .cell p t => match cellsAt H (a.getD p .any), tyOf P t with
        | some cs, some (true, n) => if n ≤ cs.length then some (.agg (cs.take n)) else none
        | some (c :: _), some (false, _) => some c
        | _, _ => none), aresults P a H rs with
    | some v, some vs => some (v :: vs)
    | _, _ => none

def packA : List AV → AV
  | [v] => v
  | vs => .tuple vs

/-- A function's body, from the arguments on; behind it only what is reached counts. -/
def abody (P : Program) (T : Tab) (pin N : Nat) (fn : Func) (args : List AV) (H : Heap) (Q : AOut → Heap → Prop) : Prop :=
  match fn.body with
  | none => False
  | some c =>
    acode P T pin N c { nxt := [], ex := [], rt := fn.results.toList.map fun | .tmp t => t | .cell p _ => p }
      (fun e a H => match e with
        | .pan v => Q (.pan ((agc pin [0] [v] H).1.headD .any)) (agc pin [0] [v] H).2
        | .exit _ => False
        | _ => match aresults P a H fn.results.toList with
          | some vs => Q (.ret (packA (agc pin (List.range vs.length) vs H).1)) (agc pin (List.range vs.length) vs H).2
          | none => False)
      (args ++ List.replicate (fn.ntmps - args.length) (.tuple [])) H

end Go.Abs

/-
An abstract machine over values as trees: how its states stand to the model's worlds.
-/
namespace Go.Abs
open Go

inductive Loc where
  | blk (k : Nat)
  | row (v : Value) (sz : Nat) (own : Bool)

def Loc.block : Loc → Option Nat
  | .blk k => some k
  | .row v _ own => if own then v.ownBlock else none

abbrev Gh := Nat → Option Loc
abbrev Mut := Nat → Nat → Prop
def G0 : Gh := fun _ => none

/-- A value of the model reads as a tree: in world w, whose cells M may yet be written; n objects, at G. -/
inductive RV (w : World) (M : Mut) : Nat → Gh → Value → AV → Prop where
  | any (n : Nat) (G : Gh) (v : Value) : RV w M n G v .any
  | bool (n : Nat) (G : Gh) (b : Bool) : RV w M n G (.bool b) (.bool b)
  | int (n : Nat) (G : Gh) (k : IntKind) (i : Int) : RV w M n G (.int k i) (.int k i)
  | str (n : Nat) (G : Gh) (s : ByteArray) : RV w M n G (.string s) (.str s)
  | nilptr (n : Nat) (G : Gh) : RV w M n G (.pointer none) .nilptr
  | nilmap (n : Nat) (G : Gh) : RV w M n G (.map none) .nilmap
  | nilfunc (n : Nat) (G : Gh) : RV w M n G .nilFunc .nilfunc
  | nilIface (n : Nat) (G : Gh) : RV w M n G .nilIface .nilIface
  | zslice (n : Nat) (G : Gh) (a : Option Addr) : RV w M n G (.slice a 0 0) .zslice
  | slice0 (n : Nat) (G : Gh) (a : Option Addr) (cap : Nat) : RV w M n G (.slice a 0 cap) (.slice [])
  | slice (n : Nat) (G : Gh) (k off cap sz : Nat) (es : List (List AV)) (f : Nat → Nat → Value)
      (hsz : ∀ (i : Nat) (el : List AV), es[i]? = some el → el.length = sz)
      (hc : ∀ (i : Nat) (el : List AV) (j : Nat) (x : AV), es[i]? = some el → el[j]? = some x →
        w.cell? ⟨k, off + i * sz + j, none⟩ = some (f i j) ∧ ¬ M k (off + i * sz + j) ∧ (f i j).oneCell' = true)
      (hr : ∀ (i : Nat) (el : List AV) (j : Nat) (x : AV), es[i]? = some el → el[j]? = some x → RV w M 0 G0 (f i j) x) (hcap : es.length ≤ cap) :
      RV w M n G (.slice (some ⟨k, off, none⟩) es.length cap) (.slice es)
  | eptr (n : Nat) (G : Gh) (k off : Nat) (cs : List AV) (f : Nat → Value)
      (hc : ∀ (j : Nat) (x : AV), cs[j]? = some x → w.cell? ⟨k, off + j, none⟩ = some (f j) ∧ ¬ M k (off + j) ∧ (f j).oneCell' = true)
      (hr : ∀ (j : Nat) (x : AV), cs[j]? = some x → RV w M 0 G0 (f j) x) :
      RV w M n G (.pointer (some ⟨k, off, none⟩)) (.eptr cs)
  | ptr (n : Nat) (G : Gh) (v : Value) (b o : Nat) (hb : b < n) (h1 : v.oneCell' = true)
      (h : ∀ l, G b = some l → ∃ k, l = .blk k ∧ v = .pointer (some ⟨k, o, none⟩)) : RV w M n G v (.ptr b o)
  | map (n : Nat) (G : Gh) (v : Value) (b : Nat) (hb : b < n) (h1 : v.oneCell' = true)
      (h : ∀ l, G b = some l → ∃ k, l = .blk k ∧ v = .map (some k)) : RV w M n G v (.map b)
  | rptr (n : Nat) (G : Gh) (v : Value) (b i c : Nat) (hb : b < n) (h1 : v.oneCell' = true)
      (h : ∀ l, G b = some l → ∃ s sz k, l = .row s sz true ∧ s.ownBlock = some k ∧ v = .pointer (some ⟨k, i * sz + c, none⟩)) : RV w M n G v (.rptr b i c)
  | row (n : Nat) (G : Gh) (v : Value) (b : Nat) (hb : b < n) (h1 : v.oneCell' = true)
      (h : ∀ l, G b = some l → ∃ sz ow, l = .row v sz ow) : RV w M n G v (.row b)
  | srow (n : Nat) (G : Gh) (v : Value) (b o m : Nat) (hb : b < n) (h1 : v.oneCell' = true)
      (h : ∀ l, G b = some l → ∃ A len cap sz ow A' cap', l = .row (.slice A len cap) sz ow ∧ v = .slice A' m cap' ∧ o + m ≤ len ∧ m ≤ cap' ∧
        (0 < m → A' = A.map (·.add (o * sz)))) : RV w M n G v (.srow b o m)
  | vsl (n : Nat) (G : Gh) (v : Value) (b o m : Nat) (hb : b < n) (h1 : v.oneCell' = true)
      (h : ∀ l, G b = some l → ∃ k A cap, l = .blk k ∧ v = .slice (some A) m cap ∧ (0 < m → A = ⟨k, o, none⟩)) : RV w M n G v (.vsl b o m)
  | func (n : Nat) (G : Gh) (fn : Fn) (f c : Array Value) (f' c' : List AV) (hf : f.size = f'.length) (hcl : c.size = c'.length)
      (hfr : ∀ (i : Nat) v x, f[i]? = some v → f'[i]? = some x → RV w M n G v x)
      (hcr : ∀ (i : Nat) v x, c[i]? = some v → c'[i]? = some x → RV w M n G v x) : RV w M n G (.func fn f c) (.func fn f' c')
  | iface (n : Nat) (G : Gh) (t : TypeId) (v : Value) (x : AV) (h : RV w M n G v x) : RV w M n G (.iface t v) (.iface t x)
  | agg (n : Nat) (G : Gh) (cs : Array Value) (asl : List AV) (hl : cs.size = asl.length)
      (h : ∀ (i : Nat) v x, cs[i]? = some v → asl[i]? = some x → RV w M n G v x) : RV w M n G (.agg cs) (.agg asl)
  | tuple (n : Nat) (G : Gh) (cs : Array Value) (asl : List AV) (hl : cs.size = asl.length)
      (h : ∀ (i : Nat) v x, cs[i]? = some v → asl[i]? = some x → RV w M n G v x) : RV w M n G (.tuple cs) (.tuple asl)

theorem RV.mono {w w' : World} {M M' : Mut}
    (hcell : ∀ k i v, w.cell? ⟨k, i, none⟩ = some v → ¬ M k i → w'.cell? ⟨k, i, none⟩ = some v ∧ ¬ M' k i)
    {n : Nat} {G : Gh} {v : Value} {a : AV} (h : RV w M n G v a) :
    ∀ {n' : Nat} {G' : Gh}, n ≤ n' → (∀ b l, b < n → G' b = some l → G b = some l) → RV w' M' n' G' v a := by
  induction h with
  | any => intros; exact .any ..
  | bool => intros; exact .bool ..
  | int => intros; exact .int ..
  | str => intros; exact .str ..
  | nilptr => intros; exact .nilptr ..
  | nilmap => intros; exact .nilmap ..
  | nilfunc => intros; exact .nilfunc ..
  | nilIface => intros; exact .nilIface ..
  | zslice => intros; exact .zslice ..
  | slice0 => intros; exact .slice0 ..
  | slice n G k off cap sz es f hsz hc hr hcap ih =>
    intro n' G' hn hg
    refine .slice _ _ k off cap sz es f hsz (fun i el j x h1 h2 => ?_) (fun i el j x h1 h2 => ih i el j x h1 h2 (Nat.le_refl _) (fun _ _ _ h => h)) hcap
    obtain ⟨c1, c2, c3⟩ := hc i el j x h1 h2
    exact ⟨(hcell _ _ _ c1 c2).1, (hcell _ _ _ c1 c2).2, c3⟩
  | eptr n G k off cs f hc hr ih =>
    intro n' G' hn hg
    refine .eptr _ _ k off cs f (fun j x h1 => ?_) (fun j x h1 => ih j x h1 (Nat.le_refl _) (fun _ _ _ h => h))
    obtain ⟨c1, c2, c3⟩ := hc j x h1
    exact ⟨(hcell _ _ _ c1 c2).1, (hcell _ _ _ c1 c2).2, c3⟩
  | ptr n G v b o hb h1 h => intro n' G' hn hg; exact .ptr _ _ _ _ _ (by omega) h1 (fun l hl => h l (hg b l hb hl))
  | map n G v b hb h1 h => intro n' G' hn hg; exact .map _ _ _ _ (by omega) h1 (fun l hl => h l (hg b l hb hl))
  | rptr n G v b i c hb h1 h => intro n' G' hn hg; exact .rptr _ _ _ _ _ _ (by omega) h1 (fun l hl => h l (hg b l hb hl))
  | row n G v b hb h1 h => intro n' G' hn hg; exact .row _ _ _ _ (by omega) h1 (fun l hl => h l (hg b l hb hl))
  | srow n G v b o m hb h1 h => intro n' G' hn hg; exact .srow _ _ _ _ _ _ (by omega) h1 (fun l hl => h l (hg b l hb hl))
  | vsl n G v b o m hb h1 h => intro n' G' hn hg; exact .vsl _ _ _ _ _ _ (by omega) h1 (fun l hl => h l (hg b l hb hl))
  | func n G fn f c f' c' hf hcl hfr hcr ihf ihc =>
    intro n' G' hn hg
    exact .func _ _ _ _ _ _ _ hf hcl (fun i v x a b => ihf i v x a b hn hg) (fun i v x a b => ihc i v x a b hn hg)
  | iface n G t v x h ih => intro n' G' hn hg; exact .iface _ _ _ _ _ (ih hn hg)
  | agg n G cs asl hl h ih => intro n' G' hn hg; exact .agg _ _ _ _ hl (fun i v x a b => ih i v x a b hn hg)
  | tuple n G cs asl hl h ih => intro n' G' hn hg; exact .tuple _ _ _ _ hl (fun i v x a b => ih i v x a b hn hg)

theorem RV.one {w : World} {M : Mut} {n : Nat} {G : Gh} {v : Value} {a : AV} (h : RV w M n G v a) (ha : okCell a = true) : v.oneCell' = true := by
  cases h <;> first | rfl | assumption | simp [okCell] at ha

/-- A tree without references reads so in every state. -/
theorem RV.lift {w : World} {M : Mut} {n : Nat} {G G' : Gh} {v : Value} {a : AV} (h : RV w M 0 G' v a) : RV w M n G v a :=
  h.mono (fun _ _ _ h1 h2 => ⟨h1, h2⟩) (Nat.zero_le _) (fun _ _ hb _ => absurd hb (Nat.not_lt_zero _))

/-- How an object lies in memory. -/
def ObjR (w : World) (M : Mut) (n : Nat) (G : Gh) (l : Option Loc) : HO → Prop
  | .dead => l = none
  | .var cs => ∃ k cv t, l = some (.blk k) ∧ w.heap[k]? = some (.cells cv t (0, 0)) ∧ cv.size = cs.length ∧
      ∀ (i : Nat) v x, cv[i]? = some v → cs[i]? = some x → v.oneCell' = true ∧ RV w M n G v x
  | .row _ e sz es => 0 < sz ∧ (∀ (i : Nat) el, es[i]? = some el → el.length = sz) ∧
      ((es = [] ∧ ∃ a, l = some (.row (.slice a 0 0) sz false)) ∨
       ∃ g cap cur, l = some (.row (.slice (some ⟨g, 0, none⟩) es.length cap) sz true) ∧ w.heap[g]? = some (.cells cur e (0, 0)) ∧ es.length ≤ cap ∧ cap ≤ maxLen ∧
        cur.size = cap * sz ∧ (∀ (i : Nat) u, cur[i]? = some u → i < es.length * sz → u.oneCell' = true) ∧
        ∀ (i : Nat) el (j : Nat) x u, es[i]? = some el → el[j]? = some x → cur[i * sz + j]? = some u → RV w M 0 G0 u x)
  | .iter s pos => ∃ k, l = some (.blk k) ∧ w.heap[k]? = some (.stringIter s pos)

/-- May a cell of the object be written yet? -/
def HO.mut : HO → Nat → Prop
  | .row wr _ sz es, i => wr = true ∨ es.length * sz ≤ i
  | _, _ => True

def Mt (G : Gh) (H : Heap) : Mut := fun k i => ∃ b l o, G b = some l ∧ H[b]? = some o ∧ l.block = some k ∧ o.mut i
def MM (Mx : Mut) (G : Gh) (H : Heap) : Mut := fun k i => Mx k i ∨ Mt G H k i

structure Sim (Mx : Mut) (G : Gh) (H : Heap) (w : World) : Prop where
  dom : ∀ b l, G b = some l → b < H.length
  obj : ∀ (b : Nat) o, H[b]? = some o → ObjR w (MM Mx G H) H.length G (G b) o
  inj : ∀ b b' l l' k, G b = some l → G b' = some l' → l.block = some k → l'.block = some k → b = b'
  ext : ∀ b l k i, G b = some l → l.block = some k → ¬ Mx k i
  lt : ∀ k i, Mx k i → k < w.heap.size

def TV (w : World) (M : Mut) (n : Nat) (G : Gh) (tmps : Array Value) (a : List AV) : Prop :=
  tmps.size = a.length ∧ ∀ (i : Nat) v x, tmps[i]? = some v → a[i]? = some x → RV w M n G v x

/-- One state comes behind another: p objects keep their places. -/
structure Step (p : Nat) (Mx : Mut) (G : Gh) (H : Heap) (w : World) (G' : Gh) (H' : Heap) (w' : World) : Prop where
  os : w'.os = w.os
  tape : w'.tape = w.tape
  output : w'.output = w.output
  size : w.heap.size ≤ w'.heap.size
  len : p ≤ H.length ∧ p ≤ H'.length
  far : ∀ k, k < w.heap.size → (∀ b l, G b = some l → l.block ≠ some k) → w'.heap[k]? = w.heap[k]?
  still : ∀ k i v, w.cell? ⟨k, i, none⟩ = some v → ¬ MM Mx G H k i → w'.cell? ⟨k, i, none⟩ = some v ∧ ¬ MM Mx G' H' k i
  gh : ∀ b l, b < p → G' b = some l → G b = some l
  new : ∀ b l k, G' b = some l → l.block = some k → (∃ b0 l0, G b0 = some l0 ∧ l0.block = some k) ∨ w.heap.size ≤ k

theorem Step.refl {Mx : Mut} {G : Gh} {H : Heap} {w : World} : Step H.length Mx G H w G H w :=
  ⟨rfl, rfl, rfl, Nat.le_refl _, ⟨Nat.le_refl _, Nat.le_refl _⟩, fun _ _ _ => rfl, fun _ _ _ h1 h2 => ⟨h1, h2⟩, fun _ _ _ h => h, fun b l _ h1 h2 => .inl ⟨b, l, h1, h2⟩⟩

theorem Step.trans {p q : Nat} {Mx : Mut} {G1 G2 G3 : Gh} {H1 H2 H3 : Heap} {w1 w2 w3 : World} (hpq : p ≤ q)
    (h : Step p Mx G1 H1 w1 G2 H2 w2) (k : Step q Mx G2 H2 w2 G3 H3 w3) : Step p Mx G1 H1 w1 G3 H3 w3 where
  os := k.os.trans h.os
  tape := k.tape.trans h.tape
  output := k.output.trans h.output
  size := Nat.le_trans h.size k.size
  len := ⟨h.len.1, by have := k.len.2; omega⟩
  far := fun b hb hn => (k.far b (Nat.lt_of_lt_of_le hb h.size) (fun b2 l2 hg hk => by
    rcases h.new b2 l2 b hg hk with ⟨b0, l0, hg0, hk0⟩ | hge
    · exact hn b0 l0 hg0 hk0
    · omega)).trans (h.far b hb hn)
  still := fun b i v hc hm => let ⟨a1, a2⟩ := h.still b i v hc hm; k.still b i v a1 a2
  gh := fun b l hb hl => h.gh b l hb (k.gh b l (Nat.lt_of_lt_of_le hb hpq) hl)
  new := fun b l kk hg hk => by
    rcases k.new b l kk hg hk with ⟨b0, l0, hg0, hk0⟩ | hge
    · exact h.new b0 l0 kk hg0 hk0
    · exact .inr (Nat.le_trans h.size hge)

theorem Step.weaken {p q : Nat} {Mx : Mut} {G G' : Gh} {H H' : Heap} {w w' : World} (h : Step p Mx G H w G' H' w') (hq : q ≤ p) : Step q Mx G H w G' H' w' :=
  ⟨h.os, h.tape, h.output, h.size, ⟨by have := h.len.1; omega, by have := h.len.2; omega⟩, h.far, h.still, fun b l hb => h.gh b l (by omega), h.new⟩

/-- What was read before is read behind a step in which all objects keep their places. -/
theorem Step.rv {Mx : Mut} {G G' : Gh} {H H' : Heap} {w w' : World} (h : Step H.length Mx G H w G' H' w') {v : Value} {a : AV}
    (hv : RV w (MM Mx G H) H.length G v a) : RV w' (MM Mx G' H') H'.length G' v a :=
  hv.mono (fun k i v h1 h2 => h.still k i v h1 h2) h.len.2 h.gh

theorem Step.tv {Mx : Mut} {G G' : Gh} {H H' : Heap} {w w' : World} (h : Step H.length Mx G H w G' H' w') {t : Array Value} {a : List AV}
    (hv : TV w (MM Mx G H) H.length G t a) : TV w' (MM Mx G' H') H'.length G' t a :=
  ⟨hv.1, fun i v x h1 h2 => h.rv (hv.2 i v x h1 h2)⟩

end Go.Abs


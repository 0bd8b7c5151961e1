/- A small verification-condition generator over the model's core code, with its soundness: no program in sight. -/
import Derived.WalkKit
import Derived.WalkSpells
import Derived.WalkLawsBesides
import Derived.BigQuiet
import Derived.Deep.QuietTactic
import Derived.Laws.StructEq
import Derived.Laws.World
import Derived.OrdersIn
import Derived.TacticsIn
import Derived.RangeFuncLeaves
set_option linter.unusedSimpArgs false
set_option linter.unusedVariables false
namespace Go.VC
open Go Go.RowKit

inductive K where
  | i (k : IntKind) | b | p | s | m | o

def kOf (P : Program) (t : TypeId) : K :=
  match P.underlying t with
  | some (.int k) => .i k
  | some .bool => .b
  | some (.pointer _) => .p
  | some (.slice _) => .s
  | some (.map _ _) => .m
  | _ => .o

def kinds (P : Program) : Nat → TypeId → List K
  | 0, _ => []
  | n + 1, t =>
    match P.underlying t with
    | some (.struct fs) => fs.toList.flatMap fun f => kinds P n f.type
    | some (.array m e) => (List.replicate m (kinds P n e)).flatten
    | _ => [kOf P t]

def rdI (w : World) (a : Addr) : Int := match w.cell? a with | some (.int _ n) => n | _ => 0
def rdB (w : World) (a : Addr) : Bool := match w.cell? a with | some (.bool n) => n | _ => false
def rdP (w : World) (a : Addr) : Option Addr := match w.cell? a with | some (.pointer n) => n | _ => none
def rdSA (w : World) (a : Addr) : Option Addr := match w.cell? a with | some (.slice n _ _) => n | _ => none
def rdSN (w : World) (a : Addr) : Nat := match w.cell? a with | some (.slice _ n _) => n | _ => 0
def rdSC (w : World) (a : Addr) : Nat := match w.cell? a with | some (.slice _ _ n) => n | _ => 0
def rdM (w : World) (a : Addr) : Option Nat := match w.cell? a with | some (.map n) => n | _ => none
def rdV (w : World) (a : Addr) : Value := (w.cell? a).getD undef

def rdK (w : World) (a : Addr) : K → Value
  | .i k => .int k (rdI w a)
  | .b => .bool (rdB w a)
  | .p => .pointer (rdP w a)
  | .s => .slice (rdSA w a) (rdSN w a) (rdSC w a)
  | .m => .map (rdM w a)
  | .o => rdV w a

theorem rdI_of {w : World} {a : Addr} {k : IntKind} {n : Int} (h : w.cell? a = some (.int k n)) : rdI w a = n := by simp [rdI, h]
theorem rdB_of {w : World} {a : Addr} {n : Bool} (h : w.cell? a = some (.bool n)) : rdB w a = n := by simp [rdB, h]
theorem rdP_of {w : World} {a : Addr} {n : Option Addr} (h : w.cell? a = some (.pointer n)) : rdP w a = n := by simp [rdP, h]
theorem rdSA_of {w : World} {a : Addr} {n : Option Addr} {l c : Nat} (h : w.cell? a = some (.slice n l c)) : rdSA w a = n := by simp [rdSA, h]
theorem rdSN_of {w : World} {a : Addr} {n : Option Addr} {l c : Nat} (h : w.cell? a = some (.slice n l c)) : rdSN w a = l := by simp [rdSN, h]
theorem rdSC_of {w : World} {a : Addr} {n : Option Addr} {l c : Nat} (h : w.cell? a = some (.slice n l c)) : rdSC w a = c := by simp [rdSC, h]
theorem rdM_of {w : World} {a : Addr} {n : Option Nat} (h : w.cell? a = some (.map n)) : rdM w a = n := by simp [rdM, h]
theorem rdV_of {w : World} {a : Addr} {v : Value} (h : w.cell? a = some v) : rdV w a = v := by simp [rdV, h]

/-- The typed cells from 'a.add i' on. -/
def rdKs (w : World) (a : Addr) : Nat → List K → List Value
  | _, [] => []
  | i, k :: ks => rdK w (a.add i) k :: rdKs w a (i + 1) ks
def okKs (w : World) (a : Addr) : Nat → List K → Prop
  | _, [] => True
  | i, k :: ks => w.cell? (a.add i) = some (rdK w (a.add i) k) ∧ okKs w a (i + 1) ks

structure PV where
  c : Prop
  v : Value

def szo (P : Program) (t : TypeId) : Option Nat := (P.info? t).map (·.size)
/-- A field's cell offset and size. -/
def fldo (P : Program) (t : TypeId) (f : Nat) : Option (Nat × Nat × TypeId) :=
  match P.underlying t with
  | some (.struct fs) => match fs[f]? with
    | some g => (szo P g.type).map fun z => (g.offset, z, g.type)
    | none => none
  | _ => none
/-- A slice's or array's element: its size. -/
def elo (P : Program) (t : TypeId) : Option (Nat × TypeId) :=
  match P.underlying t with
  | some (.slice e) => (szo P e).map fun z => (z, e)
  | some (.array _ e) => (szo P e).map fun z => (z, e)
  | _ => none
def arN (P : Program) (t : TypeId) : Option Nat := match P.underlying t with | some (.array n _) => some n | _ => none
def zco (P : Program) (t : TypeId) : Option (List Value) := ((P.info? t).bind (·.zero)).map fun v => v.cells.toList
/-- A slice type's element: its number, its cells, its bytes, its zero cells. -/
def apI (P : Program) (t : TypeId) : Option (TypeId × Nat × Nat × List Value) :=
  match P.underlying t with
  | some (.slice e) => match P.info? e with
    | some i => match i.zero with
      | some z => if z.cells.size = i.size ∧ 0 < i.size then some (e, i.size, i.bytes, z.cells.toList) else none
      | none => none
    | none => none
  | _ => none

def isAggB (P : Program) (t : TypeId) : Bool := match P.underlying t with | some (.struct _) | some (.array _ _) => true | _ => false
def knownB (P : Program) (t : TypeId) : Bool := (P.underlying t).isSome

def fits (k : IntKind) (n : Int) : Prop := k.min ≤ n ∧ n ≤ k.max

def evo (f : Array Value) : Operand → Value
  | .tmp t => f.getD t undef
  | .const v => v
  | .global g => .pointer (some ⟨g, 0, none⟩)
  | .func g => .func (.func g) #[] #[]
theorem evo_eq (f : Array Value) (ds : List Deferred) : evo f = (Act.mk f ds).eval := by funext x; cases x <;> rfl

/-- Flat structs of plain integers and Bools: may '==' be reckoned cell by cell? -/
def flatF (P : Program) : List Field → Nat → Option (List K)
  | [], _ => some []
  | f :: fs, n =>
    if f.name != "_" && f.offset == n then
      match P.underlying f.type with
      | some (.int k) => (flatF P fs (n + 1)).map (K.i k :: ·)
      | some .bool => (flatF P fs (n + 1)).map (K.b :: ·)
      | _ => none
    else none
/-- A struct in a struct, too. -/
def flatG (P : Program) : List Field → Nat → Option (List K)
  | [], _ => some []
  | f :: fs, n =>
    if f.name != "_" && f.offset == n then
      match P.underlying f.type with
      | some (.int k) => (flatG P fs (n + 1)).map (K.i k :: ·)
      | some .bool => (flatG P fs (n + 1)).map (K.b :: ·)
      | some (.struct gs) => if P.stoodInHeld f.type then none else match flatF P gs.toList 0, szo P f.type with
        | some ks, some z => if ks.length = z then (flatG P fs (n + z)).map (ks ++ ·) else none
        | _, _ => none
      | _ => none
    else none
def flatK (P : Program) (t : TypeId) : Option (List K) :=
  if !P.stoodInHeld t && !P.eqGuardType P.depth t then
    match P.underlying t with
    | some (.struct fs) => flatG P fs.toList 0
    | _ => none
  else none
def eqKs : List K → List Value → List Value → Option Bool
  | [], [], [] => some true
  | .i _ :: ks, .int k a :: xs, .int k' b :: ys => if k = k' then (eqKs ks xs ys).map fun r => decide (a = b) && r else none
  | .b :: ks, .bool a :: xs, .bool b :: ys => (eqKs ks xs ys).map fun r => (a == b) && r
  | _, _, _ => none

/-- Pointers to things that take room. -/
def ptrElB (P : Program) (t : TypeId) : Bool := match P.underlying t with
  | some (.pointer e) => (match szo P e with | some z => z != 0 | none => false)
  | _ => false
def cmpI (op : BinOp) (a b : Int) : Option Bool :=
  match op with
  | .eql => some (decide (a = b))
  | .neq => some (!decide (a = b))
  | .lss => some (decide (a < b))
  | .leq => some (decide (a ≤ b))
  | .gtr => some (decide (b < a))
  | .geq => some (decide (b ≤ a))
  | _ => none

def arithI (k : IntKind) (n : Int) : PV := if k.signed then ⟨fits k n, .int k n⟩ else ⟨True, .int k (k.wrap n)⟩

def shN (k : IntKind) (b : Int) : Nat := min b.toNat k.bits

def binI (op : BinOp) (k : IntKind) (a b : Int) : PV :=
  match op with
  | .add => arithI k (a + b)
  | .sub => arithI k (a - b)
  | .mul => arithI k (a * b)
  | .quo => ⟨b ≠ 0 ∧ fits k (a.tdiv b), .int k (a.tdiv b)⟩
  | .rem => ⟨b ≠ 0, .int k (a.tmod b)⟩
  | .and | .or | .xor | .andNot => ⟨True, .int k (bits op k a b)⟩
  | _ => match cmpI op a b with
    | some r => ⟨True, .bool r⟩
    | none => ⟨False, undef⟩

def bin (P : Program) (op : BinOp) (t : TypeId) (x y : Value) : PV :=
  match x, y with
  | .int k a, .int k' b =>
    match op with
    | .shl => ⟨0 ≤ b, .int k (k.wrap (a * 2 ^ shN k b))⟩
    | .shr => ⟨0 ≤ b, .int k (a.fdiv (2 ^ shN k b))⟩
    | _ => if k = k' then binI op k a b else ⟨False, undef⟩
  | .bool a, .bool b =>
    match kOf P t, op with
    | .b, .eql => ⟨True, .bool (a == b)⟩
    | .b, .neq => ⟨True, .bool (!(a == b))⟩
    | _, _ => ⟨False, undef⟩
  | .pointer a, .pointer none =>
    match kOf P t, op with
    | .p, .eql => ⟨True, .bool a.isNone⟩
    | .p, .neq => ⟨True, .bool (!a.isNone)⟩
    | _, _ => ⟨False, undef⟩
  | .pointer (some a), .pointer (some b) =>
    match kOf P t, op with
    | .p, .eql => ⟨ptrElB P t = true ∧ a.block = b.block, .bool (a == b)⟩
    | .p, .neq => ⟨ptrElB P t = true ∧ a.block = b.block, .bool (!(a == b))⟩
    | _, _ => ⟨False, undef⟩
  | .slice a _ _, .slice none _ _ =>
    match kOf P t, op with
    | .s, .eql => ⟨True, .bool a.isNone⟩
    | .s, .neq => ⟨True, .bool (!a.isNone)⟩
    | _, _ => ⟨False, undef⟩
  | .map a, .map none =>
    match kOf P t, op with
    | .m, .eql => ⟨True, .bool a.isNone⟩
    | .m, .neq => ⟨True, .bool (!a.isNone)⟩
    | _, _ => ⟨False, undef⟩
  | .agg xs, .agg ys =>
    match flatK P t with
    | some ks => match eqKs ks xs.toList ys.toList, op with
      | some r, .eql => ⟨True, .bool r⟩
      | some r, .neq => ⟨True, .bool (!r)⟩
      | _, _ => ⟨False, undef⟩
    | none => ⟨False, undef⟩
  | _, _ => ⟨False, undef⟩

def ldv (P : Program) (w : World) (t : TypeId) : Value → PV
  | .pointer (some a) =>
    if isAggB P t then ⟨szo P t = some (kinds P 8 t).length ∧ okKs w a 0 (kinds P 8 t), .agg (rdKs w a 0 (kinds P 8 t)).toArray⟩
    else ⟨knownB P t = true ∧ w.cell? a = some (rdK w a (kOf P t)), rdK w a (kOf P t)⟩
  | _ => ⟨False, undef⟩

def slv (P : Program) (t : TypeId) (x : Value) (lo hi : Option Value) : PV :=
  match elo P t, kOf P t, x with
  | some (z, _), .s, .slice A n c =>
    match lo, hi with
    | none, none => ⟨True, .slice (if c = 0 then A else A) n c⟩
    | some (.int _ l), none => ⟨0 ≤ l ∧ l ≤ n, .slice (if c = l.toNat then A else A.map (·.add (l.toNat * z))) (n - l.toNat) (c - l.toNat)⟩
    | none, some (.int _ h) => ⟨0 ≤ h ∧ h ≤ c, .slice A h.toNat c⟩
    | some (.int _ l), some (.int _ h) => ⟨0 ≤ l ∧ l ≤ h ∧ h ≤ c, .slice (if c = l.toNat then A else A.map (·.add (l.toNat * z))) (h.toNat - l.toNat) (c - l.toNat)⟩
    | _, _ => ⟨False, undef⟩
  | _, _, _ => ⟨False, undef⟩

def placeo (P : Program) (t : TypeId) : Option (List (Nat × Nat)) :=
  match P.underlying t with
  | some (.struct fs) => fs.toList.mapM fun f => (szo P f.type).map fun z => (f.offset, z)
  | some (.array n e) => if n ≤ 64 then (szo P e).map fun z => (List.range n).map fun i => (i * z, z) else none
  | _ => none

def putL (cs : Array Value) : Nat → List Value → Array Value
  | _, [] => cs
  | off, v :: vs => putL (cs.setIfInBounds off v) (off + 1) vs
def fillL (pl : List (Nat × Nat)) (cs : Array Value) : List (Nat × Value) → Option (Array Value)
  | [] => some cs
  | (i, v) :: rest => match pl[i]? with
    | none => none
    | some (off, size) => if v.cells.size = size ∧ off + size ≤ cs.size then fillL pl (putL cs off v.cells.toList) rest else none
theorem putL_eq (f : Array Value → Value × Nat → Array Value) (off : Nat) (hf : ∀ cs c j, f cs (c, j) = cs.setIfInBounds (off + j) c) : ∀ (vs : List Value) (n : Nat) (cs : Array Value), (vs.zipIdx n).foldl f cs = putL cs (off + n) vs
  | [], n, cs => rfl
  | v :: vs, n, cs => by
    simp only [List.zipIdx_cons, List.foldl_cons, putL, hf]
    rw [putL_eq f off hf vs (n + 1), Nat.add_assoc]
theorem fillL_eq (pl : List (Nat × Nat)) : ∀ (parts : List (Nat × Value)) (cs r : Array Value), fillL pl cs parts = some r → Instr.fill (fun i => pl[i]?) cs parts = some r
  | [], cs, r, h => h
  | (i, v) :: rest, cs, r, h => by
    simp only [fillL] at h
    simp only [Instr.fill]
    split at h
    · cases h
    · rename_i off size hp
      rw [hp]
      split at h
      · rename_i hc
        have h1 : (decide (v.cells.size ≠ size) || decide (off + v.cells.size > cs.size)) = false := by
          simp only [Bool.or_eq_false_iff, decide_eq_false_iff_not]; omega
        simp only [h1]
        rw [← Array.foldl_toList, Array.toList_zipIdx, putL_eq _ off (by intros; rfl)]
        exact fillL_eq pl rest _ r h
      · cases h

/-- One operation that only reads: what it asks, what it yields. -/
theorem fillL_range (len z : Nat) : ∀ (ps : List (Nat × Value)) (cs0 r : Array Value), fillL ((List.range len).map fun i => (i * z, z)) cs0 ps = some r → Instr.fill (fun i => some (i * z, z)) cs0 ps = some r := by
  intro ps
  induction ps with
  | nil => intro cs0 r h; exact h
  | cons p ps ih =>
    intro cs0 r h
    obtain ⟨i, v⟩ := p
    simp only [fillL] at h
    simp only [Instr.fill]
    split at h
    · cases h
    · rename_i off size hp
      simp only [List.getElem?_map, Option.map_eq_some_iff, Prod.mk.injEq] at hp
      obtain ⟨a, ha, rfl, rfl⟩ := hp
      have hai : i = a := by
        have := List.getElem?_eq_some_iff.1 ha
        obtain ⟨hl, hh⟩ := this
        simpa using hh
      subst hai
      split at h
      · rename_i hc
        have h1 : (decide (v.cells.size ≠ z) || decide (i * z + v.cells.size > cs0.size)) = false := by
          simp only [Bool.or_eq_false_iff, decide_eq_false_iff_not]; omega
        simp only [h1]
        rw [← Array.foldl_toList, Array.toList_zipIdx, putL_eq _ (i * z) (by intros; rfl)]
        exact ih _ r h
      · cases h

def strB (P : Program) (t : TypeId) : Bool := match P.underlying t with | some .string => true | _ => false
def strN (s : ByteArray) : Int := s.size
/-- The j-th byte of a text. -/
def strAt (s : ByteArray) (j : Int) : Int := match s[j.toNat]? with | some b => (b.toNat : Int) | none => 0
/-- How many entries the map of block b has. -/
def mapN (w : World) (b : Nat) : Nat := match w.heap[b]? with | some (.map es _) => es.size | _ => 0
def mapB (w : World) (b : Nat) : Bool := match w.heap[b]? with | some (.map _ _) => true | _ => false
def pv (P : Program) (w : World) (f : Array Value) (o : Oper) : PV :=
  match o.op with
  | .move x | .assign x => ⟨True, evo f x⟩
  | .load t a => ldv P w t (evo f a)
  | .nilCheck x => match evo f x with
    | .pointer (some a) => ⟨True, .pointer (some a)⟩
    | _ => ⟨False, undef⟩
  | .binOp op t x y _ => bin P op t (evo f x) (evo f y)
  | .unOp op _ x => match op, evo f x with
    | .not, .bool b => ⟨True, .bool !b⟩
    | .neg, .int k n => arithI k (0 - n)
    | _, _ => ⟨False, undef⟩
  | .convert s d x => match evo f x, kOf P d with
    | .int _ n, .i k => ⟨knownB P s = true ∧ fits k n, .int k n⟩
    | _, _ => ⟨False, undef⟩
  | .slice t x lo hi none => slv P t (evo f x) (lo.map (evo f)) (hi.map (evo f))
  | .fieldAddr t x fl => match fldo P t fl, evo f x with
    | some (off, z, _), .pointer (some a) => ⟨z ≠ 0, .pointer (some (a.add off))⟩
    | _, _ => ⟨False, undef⟩
  | .field t x fl => match fldo P t fl, evo f x with
    | some (off, z, ft), .agg cs =>
      if isAggB P ft then ⟨True, .agg (cs.extract off (off + z))⟩
      else match cs[off]? with
        | some v => ⟨knownB P ft = true, v⟩
        | none => ⟨False, undef⟩
    | _, _ => ⟨False, undef⟩
  | .indexAddr t x ix => match elo P t, kOf P t, evo f x, evo f ix with
    | some (z, _), .s, .slice A n _, .int _ j => match A with
      | some a => ⟨0 ≤ j ∧ j < n, .pointer (some (a.add (j.toNat * z)))⟩
      | none => ⟨False, undef⟩
    | some (z, _), _, .pointer (some a), .int _ j => match arN P t with
      | some n => ⟨0 ≤ j ∧ j < n, .pointer (some (a.add (j.toNat * z)))⟩
      | none => ⟨False, undef⟩
    | _, _, _, _ => ⟨False, undef⟩
  | .extract t ix => match evo f t with
    | .tuple vs => match vs[ix]? with
      | some v => ⟨True, v⟩
      | none => ⟨False, undef⟩
    | _ => ⟨False, undef⟩
  | .makeFunc fn a b => ⟨True, .func fn (a.map (evo f)) (b.map (evo f))⟩
  | .index t (.const (.string s)) ix => match evo f ix with
    | .int _ j => ⟨strB P t = true ∧ 0 ≤ j ∧ j < strN s, .int .u8 (strAt s j)⟩
    | _ => ⟨False, undef⟩
  | .build t parts => match placeo P t, zco P t with
    | some pl, some z => match fillL pl z.toArray (parts.toList.map fun (i, x) => (i, evo f x)) with
      | some cs => ⟨True, .agg cs⟩
      | none => ⟨False, undef⟩
    | _, _ => ⟨False, undef⟩
  | .call c => match c.callee, c.args.toList.map (evo f), c.argTypes.toList with
    | .builtin .len, [.slice _ n _], [t] => match kOf P t with
      | .s => ⟨True, .int .i64 n⟩
      | _ => ⟨False, undef⟩
    | .builtin .len, [.map (some b)], [t] => match kOf P t with
      | .m => ⟨mapB w b = true, .int .i64 (mapN w b)⟩
      | _ => ⟨False, undef⟩
    | .builtin .len, [.map none], [t] => match kOf P t with
      | .m => ⟨True, .int .i64 0⟩
      | _ => ⟨False, undef⟩
    | .builtin .min, [.int k a, .int _ b], _ => ⟨True, .int k (if b < a then b else a)⟩
    | .builtin .max, [.int k a, .int _ b], _ => ⟨True, .int k (if a < b then b else a)⟩
    | _, _, _ => ⟨False, undef⟩
  | _ => ⟨False, undef⟩


/-! ### Regions that only read -/
abbrev Ch := List (Nat × List (Nat × Bool))
def look : Ch → Nat → List (Nat × Bool)
  | [], _ => []
  | (s, c) :: r, t => if s = t then c else look r t

/-- The tests on which a guarded operation hangs, in the frame as it stands. -/
def holds (f : Array Value) : List (Nat × Bool) → Prop
  | [] => True
  | (d, want) :: c => (match f.getD d undef with | .bool b => b = want | _ => False) ∧ holds f c

def chainOf (ds : List (Option Tmp)) (ch : Ch) : Option (Nat × Bool) → List (Nat × Bool)
  | none => []
  | some (j, want) => match ds[j]? with
    | some (some d) => (d, want) :: look ch d
    | _ => [(0, want), (0, !want)]

def pickV (t : Bool) : Value → Value → Value
  | .bool x, .bool y => .bool (cond t x y)
  | .int k x, .int k' y => if k = k' then .int k (if t then x else y) else undef
  | x, y => if t then x else y

def pickC : Value → Value → Prop
  | .int k _, .int k' _ => k = k'
  | _, _ => True
theorem pickV_eq {t : Bool} {x y : Value} (h : pickC x y) : pickV t x y = if t then x else y := by
  unfold pickC at h
  unfold pickV
  split
  · cases t <;> rfl
  · simp only at h; subst h; rw [if_pos rfl]; cases t <;> simp
  · rfl

theorem pickV_b (t x y : Bool) : pickV t (.bool x) (.bool y) = .bool (cond t x y) := rfl
theorem pickV_i (t : Bool) (k : IntKind) (x y : Int) : pickV t (.int k x) (.int k y) = .int k (if t then x else y) := by simp [pickV]
theorem pickV_p (t : Bool) (x y : Option Addr) : pickV t (.pointer x) (.pointer y) = if t then .pointer x else .pointer y := rfl
theorem pickV_s (t : Bool) (x y : Option Addr) (a b c d : Nat) : pickV t (.slice x a b) (.slice y c d) = if t then .slice x a b else .slice y c d := rfl
theorem pickV_uf (y : Value) : pickV false undef y = y := by cases y <;> rfl
theorem pickV_tu (x : Value) : pickV true x undef = x := by cases x <;> rfl
theorem pickC_ul (y : Value) : pickC undef y = True := by cases y <;> rfl
theorem pickC_ur (x : Value) : pickC x undef = True := by cases x <;> rfl
theorem pickC_i (k : IntKind) (x y : Int) : pickC (.int k x) (.int k y) = True := by simp [pickC]
theorem pickC_b (x y : Bool) : pickC (.bool x) (.bool y) = True := rfl
theorem pickC_p (x y : Option Addr) : pickC (.pointer x) (.pointer y) = True := rfl
theorem pickC_s (x y : Option Addr) (a b c d : Nat) : pickC (.slice x a b) (.slice y c d) = True := rfl

def pickP (f : Array Value) (c a b : Operand) : PV :=
  match evo f c with
  | .bool t => ⟨pickC (evo f a) (evo f b), pickV t (evo f a) (evo f b)⟩
  | _ => ⟨False, undef⟩

/-- A value of a type, some value. -/
def exK (K' : Value → Prop) : K → Prop
  | .i k => ∃ n, K' (.int k n)
  | .b => ∃ n, K' (.bool n)
  | .p => ∃ n, K' (.pointer n)
  | .s => ∃ a n c, K' (.slice a n c)
  | .m => ∃ n, K' (.map n)
  | .o => ∃ v, K' v

def opP (P : Program) (w : World) (f : Array Value) (o : Oper) : PV :=
  match o.op with
  | .pick c a b => pickP f c a b
  | _ => pv P w f o

/-- Sums and products of a region that multiplies: as the machine reckons them, with no bound. -/
def opZ (P : Program) (w : World) (f : Array Value) (o : Oper) : PV :=
  match o.op with
  | .binOp op _ x y _ => match op with
    | .add => match evo f x, evo f y with
      | .int .i64 a, .int .i64 b => ⟨True, .int .i64 (IntKind.i64.wrap (a + b))⟩
      | _, _ => opP P w f o
    | .mul => match evo f x, evo f y with
      | .int .i64 a, .int .i64 b => ⟨True, .int .i64 (IntKind.i64.wrap (a * b))⟩
      | _, _ => opP P w f o
    | _ => opP P w f o
  | _ => opP P w f o
def opS (P : Program) (w : World) (f : Array Value) (o : Oper) : Bool → PV
  | true => opP P w f o
  | false => opZ P w f o
def nomulB : Op → Bool
  | .binOp .mul .. => false
  | _ => true

/-- A proposition that names what a reckoning shall not enter. -/
abbrev Tied {α : Type _} (_ : α) : Type := Prop
/-- The same proposition, told as one. -/
def Now (p : Prop) : Prop := p

/-- The lexical walk of a region that only reads: each operation's conditions under its guard, its value as if it ran. -/
def reg (nm : Bool) (P : Program) (w : World) (ds : List (Option Tmp)) (Q : Array Value → Ch → Prop) : List Oper → Ch → Array Value → Tied Q
  | [], ch, f => Q f ch
  | o :: rest, ch, f =>
    match o.dst with
    | none => False
    | some d =>
      (holds f (chainOf ds ch o.guard) → (opS P w f o nm).c) ∧
      reg nm P w ds Q rest (match chainOf ds ch o.guard with | [] => ch.filter (fun x => x.1 != d) | c => (d, c) :: ch.filter (fun x => x.1 != d)) (f.setIfInBounds d (opS P w f o nm).v)

/-- What was guarded is nobody's behind the region. -/
def junk (u : Nat → Value) : Ch → Array Value → Array Value
  | [], f => f
  | (d, _) :: ch, f => junk u ch (f.setIfInBounds d (u d))

/-! the closed test of a region -/
def suf (c ct : List (Nat × Bool)) : Bool := c == ct || match c with | [] => false | _ :: r => suf r ct
def tmpOf : Operand → Option Nat | .tmp t => some t | _ => none
def readsOk (ch : Ch) (c0 : List (Nat × Bool)) (xs : List Operand) : Bool := xs.all fun x => match tmpOf x with | some t => suf c0 (look ch t) | none => true
def opOk (ch : Ch) (c0 : List (Nat × Bool)) (o : Oper) : Bool :=
  match o.op with
  | .pick c a b =>
    match c with
    | .tmp sc => suf c0 (look ch sc) && (match tmpOf a with | some t => suf c0 (look ch t) || suf ((sc, true) :: look ch sc) (look ch t) | none => true) &&
        (match tmpOf b with | some t => suf c0 (look ch t) || suf ((sc, false) :: look ch sc) (look ch t) | none => true)
    | _ => readsOk ch c0 [a, b]
  | .select _ _ => false
  | .defer _ => false
  | op => readsOk ch c0 op.operands.toList
def regOk (ds : List (Option Tmp)) (n : Nat) : List Oper → Ch → Bool
  | [], _ => true
  | o :: rest, ch =>
    match o.dst with
    | none => false
    | some d =>
      decide (d < n) && opOk ch (chainOf ds ch o.guard) o && !(ch.any fun x => x.2.any fun y => y.1 == d) && !((chainOf ds ch o.guard).any fun y => y.1 == d) &&
      (match o.guard with | none => true | some (j, _) => match ds[j]? with | some (some _) => true | _ => false) &&
      regOk ds n rest (match chainOf ds ch o.guard with | [] => ch.filter (fun x => x.1 != d) | c => (d, c) :: ch.filter (fun x => x.1 != d))

end Go.VC

namespace Go.VC
open Go Go.RowKit

section
variable {P : Program} {w : World}

theorem run_arithI {k : IntKind} {n : Int} (h : (arithI k n).c) : Value.int k (k.wrap n) = (arithI k n).v := by
  unfold arithI at *
  split
  · rename_i hs
    rw [if_pos hs] at h
    simp only [Value.int.injEq, true_and]
    obtain ⟨h1, h2⟩ := h
    cases k <;> simp [IntKind.signed] at hs <;> simp [IntKind.wrap, IntKind.min, IntKind.max, IntKind.bits, IntKind.signed] at * <;> (try omega)
    all_goals (split <;> omega)
  · rfl

theorem fits_wrap {k : IntKind} {n : Int} (h : fits k n) : k.wrap n = n := by
  obtain ⟨h1, h2⟩ := h
  cases k <;> simp [IntKind.wrap, IntKind.min, IntKind.max, IntKind.bits, IntKind.signed] at * <;> (try omega)
  all_goals (split <;> omega)

theorem run_binI {op : BinOp} {k : IntKind} {t : TypeId} {a b : Int} (hop : op ≠ .shl ∧ op ≠ .shr) (h : (binI op k a b).c) :
    (binOp op t (.int k a) (.int k b)).run P w = .ok (binI op k a b).v w := by
  cases op <;> simp only [binI, cmpI] at h ⊢ <;> simp only [binOp, ne_eq, not_true, if_false, Op.intArith, Op.intDiv, Op.intBits, Op.intCmp, Sem.run_pure, Sem.run_ite, reduceCtorEq, not_false_eq_true, true_and] at *
  case add => rw [run_arithI h]
  case sub => rw [run_arithI h]
  case mul => rw [run_arithI h]
  case quo => rw [if_neg h.1, fits_wrap h.2]
  case rem => rw [if_neg h]
  case and => rfl
  case or => rfl
  case xor => rfl
  case andNot => rfl
  case eql => congr 2
  case neq => congr 2
  all_goals (first | rfl | (exact absurd trivial hop.1) | (exact absurd trivial hop.2) | trace_state)

theorem szo_run {t : TypeId} {z : Nat} (h : szo P t = some z) (w : World) : (sizeOf t).run P w = .ok z w := by
  unfold szo at h
  cases hi : P.info? t with
  | none => simp [hi] at h
  | some i => simp [hi] at h; simp [sizeOf, typeInfo, hi, h]

theorem run_part_plain {t : TypeId} {cs : Array Value} {off : Nat} {v : Value} (hk : isAggB P t = false) (hu : knownB P t = true) (hv : cs[off]? = some v) (w : World) :
    (part t cs off).run P w = .ok v w := by
  unfold isAggB at hk
  unfold knownB at hu
  cases hd : P.underlying t with
  | none => simp [hd] at hu
  | some d =>
    rw [hd] at hk
    cases d <;> simp at hk <;> simp [part, isAgg, run_underlying hd, hv]


theorem run_eqFields (d : Nat) (xs ys : Array Value) : ∀ (fs : List Field) (n : Nat) (ks : List K) (r : Bool),
    flatF P fs n = some ks → eqKs ks (xs.toList.drop n) (ys.toList.drop n) = some r → (Op.eqFields (d + 1) xs ys fs).run P w = .ok r w
  | [], n, ks, r, hks, hr => by
    simp [flatF] at hks
    subst hks
    generalize xs.toList.drop n = l1 at hr
    generalize ys.toList.drop n = l2 at hr
    cases l1 <;> cases l2 <;> simp [eqKs] at hr
    subst hr
    simp [Op.eqFields]
  | f :: fs, n, ks, r, hks, hr => by
    simp only [flatF] at hks
    split at hks
    case isFalse => cases hks
    rename_i hc
    simp only [Bool.and_eq_true, bne_iff_ne, ne_eq, beq_iff_eq] at hc
    obtain ⟨h1, h2⟩ := hc
    have hxn : n < xs.size := by
      rcases Nat.lt_or_ge n xs.size with h | h
      · exact h
      · rw [List.drop_eq_nil_of_le (by simpa using h)] at hr
        split at hks <;> (try cases hks) <;> (obtain ⟨k', hk', rfl⟩ := Option.map_eq_some_iff.1 hks) <;> simp [eqKs] at hr
    have hyn : n < ys.size := by
      rcases Nat.lt_or_ge n ys.size with h | h
      · exact h
      · rw [List.drop_eq_nil_of_le (as := ys.toList) (by simpa using h)] at hr
        split at hks <;> (try cases hks) <;> (obtain ⟨k', hk', rfl⟩ := Option.map_eq_some_iff.1 hks) <;> simp [eqKs] at hr
    rw [List.drop_eq_getElem_cons (by simpa using hxn), List.drop_eq_getElem_cons (l := ys.toList) (by simpa using hyn)] at hr
    simp only [Array.getElem_toList] at hr
    have px : ∀ (ft : isAggB P f.type = false) (fk : knownB P f.type = true), (part f.type xs f.offset).run P w = .ok xs[n] w :=
      fun ft fk => run_part_plain ft fk (show xs[f.offset]? = some xs[n] by rw [h2]; exact Array.getElem?_eq_getElem hxn) w
    have py : ∀ (ft : isAggB P f.type = false) (fk : knownB P f.type = true), (part f.type ys f.offset).run P w = .ok ys[n] w :=
      fun ft fk => run_part_plain ft fk (show ys[f.offset]? = some ys[n] by rw [h2]; exact Array.getElem?_eq_getElem hyn) w
    simp only [Op.eqFields, ne_eq, h1, not_false_eq_true, if_true, Sem.run_bind]
    generalize xs[n] = gx at *
    generalize ys[n] = gy at *
    split at hks
    · rename_i k0 h3
      obtain ⟨ks', hks', rfl⟩ := Option.map_eq_some_iff.1 hks
      have hk : isAggB P f.type = false ∧ knownB P f.type = true := by simp [isAggB, knownB, h3]
      simp only [px hk.1 hk.2, py hk.1 hk.2, Result.andThen_ok]
      cases gx <;> cases gy <;> simp only [eqKs, reduceCtorEq] at hr
      split at hr
      · rename_i hkk
        subst hkk
        obtain ⟨r', hr', rfl⟩ := Option.map_eq_some_iff.1 hr
        have hrest := run_eqFields d xs ys fs (n + 1) ks' r' hks' hr'
        rename_i a b
        simp only [run_equalIn_int w d f.type _ k0 a b h3, Result.andThen_ok]
        by_cases hab : a = b
        · subst hab; simp [hrest]
        · simp [hab]
      · cases hr
    · rename_i h3
      obtain ⟨ks', hks', rfl⟩ := Option.map_eq_some_iff.1 hks
      have hk : isAggB P f.type = false ∧ knownB P f.type = true := by simp [isAggB, knownB, h3]
      simp only [px hk.1 hk.2, py hk.1 hk.2, Result.andThen_ok]
      cases gx <;> cases gy <;> simp only [eqKs, reduceCtorEq] at hr
      obtain ⟨r', hr', rfl⟩ := Option.map_eq_some_iff.1 hr
      have hrest := run_eqFields d xs ys fs (n + 1) ks' r' hks' hr'
      rename_i a b
      simp only [run_equalIn_bool' w d f.type a b h3, Result.andThen_ok]
      by_cases hab : a = b
      · subst hab; simp [hrest]
      · have : (a == b) = false := by simpa using hab
        simp [this]
    · cases hks

theorem isAgg_true {t : TypeId} (h : isAggB P t = true) (w : World) : (isAgg t).run P w = .ok true w := by
  unfold isAggB at h
  cases hd : P.underlying t with
  | none => simp [hd] at h
  | some d => rw [hd] at h; cases d <;> simp at h <;> simp [isAgg, run_underlying hd]
theorem eqKs_length : ∀ {ks : List K} {xs ys : List Value} {r : Bool}, eqKs ks xs ys = some r → xs.length = ks.length ∧ ys.length = ks.length
  | [], [], [], _, _ => ⟨rfl, rfl⟩
  | .i _ :: ks, .int k a :: xs, .int k' b :: ys, r, h => by
    simp only [eqKs] at h
    split at h
    · obtain ⟨r', h', _⟩ := Option.map_eq_some_iff.1 h
      have := eqKs_length h'
      simp [this.1, this.2]
    · cases h
  | .b :: ks, .bool a :: xs, .bool b :: ys, r, h => by
    simp only [eqKs] at h
    obtain ⟨r', h', _⟩ := Option.map_eq_some_iff.1 h
    have := eqKs_length h'
    simp [this.1, this.2]
theorem eqKs_append : ∀ {ks ls : List K} {xs ys : List Value} {r : Bool}, eqKs (ks ++ ls) xs ys = some r → ∃ r1 r2, eqKs ks (xs.take ks.length) (ys.take ks.length) = some r1 ∧ eqKs ls (xs.drop ks.length) (ys.drop ks.length) = some r2 ∧ r = (r1 && r2)
  | [], ls, xs, ys, r, h => ⟨true, r, by simp [eqKs], by simpa using h, by simp⟩
  | .i k0 :: ks, ls, .int k a :: xs, .int k' b :: ys, r, h => by
    simp only [List.cons_append, eqKs] at h
    split at h
    · rename_i hk
      obtain ⟨r', h', rfl⟩ := Option.map_eq_some_iff.1 h
      obtain ⟨r1, r2, e1, e2, rfl⟩ := eqKs_append h'
      exact ⟨decide (a = b) && r1, r2, by simp [eqKs, hk, e1], by simpa using e2, by simp [Bool.and_assoc]⟩
    · cases h
  | .b :: ks, ls, .bool a :: xs, .bool b :: ys, r, h => by
    simp only [List.cons_append, eqKs] at h
    obtain ⟨r', h', rfl⟩ := Option.map_eq_some_iff.1 h
    obtain ⟨r1, r2, e1, e2, rfl⟩ := eqKs_append h'
    exact ⟨(a == b) && r1, r2, by simp [eqKs, e1], by simpa using e2, by simp [Bool.and_assoc]⟩
theorem run_eqFields2 (d : Nat) (xs ys : Array Value) : ∀ (fs : List Field) (n : Nat) (ks : List K) (r : Bool),
    flatG P fs n = some ks → eqKs ks (xs.toList.drop n) (ys.toList.drop n) = some r → (Op.eqFields (d + 2) xs ys fs).run P w = .ok r w
  | [], n, ks, r, hks, hr => by
    simp [flatG] at hks
    subst hks
    generalize xs.toList.drop n = l1 at hr
    generalize ys.toList.drop n = l2 at hr
    cases l1 <;> cases l2 <;> simp [eqKs] at hr
    subst hr
    simp [Op.eqFields]
  | f :: fs, n, ks, r, hks, hr => by
    simp only [flatG] at hks
    split at hks
    case isFalse => cases hks
    rename_i hc
    simp only [Bool.and_eq_true, bne_iff_ne, ne_eq, beq_iff_eq] at hc
    obtain ⟨h1, h2⟩ := hc
    have hlen := eqKs_length hr
    simp only [List.length_drop, Array.length_toList] at hlen
    split at hks
    · rename_i k0 h3
      obtain ⟨ks', hks', rfl⟩ := Option.map_eq_some_iff.1 hks
      have hxn : n < xs.size := by have := hlen.1; simp only [List.length_cons] at this; omega
      have hyn : n < ys.size := by have := hlen.2; simp only [List.length_cons] at this; omega
      rw [List.drop_eq_getElem_cons (by simpa using hxn), List.drop_eq_getElem_cons (l := ys.toList) (by simpa using hyn)] at hr
      simp only [Array.getElem_toList] at hr
      have hk : isAggB P f.type = false ∧ knownB P f.type = true := by simp [isAggB, knownB, h3]
      have px := run_part_plain hk.1 hk.2 (show xs[f.offset]? = some xs[n] by rw [h2]; exact Array.getElem?_eq_getElem hxn) w
      have py := run_part_plain hk.1 hk.2 (show ys[f.offset]? = some ys[n] by rw [h2]; exact Array.getElem?_eq_getElem hyn) w
      simp only [Op.eqFields, ne_eq, h1, not_false_eq_true, if_true, Sem.run_bind]
      generalize xs[n] = gx at *
      generalize ys[n] = gy at *
      simp only [px, py, Result.andThen_ok]
      cases gx <;> cases gy <;> simp only [eqKs, reduceCtorEq] at hr
      split at hr
      · rename_i hkk
        subst hkk
        obtain ⟨r', hr', rfl⟩ := Option.map_eq_some_iff.1 hr
        have hrest := run_eqFields2 d xs ys fs (n + 1) ks' r' hks' hr'
        rename_i a b
        simp only [run_equalIn_int w (d + 1) f.type _ k0 a b h3, Result.andThen_ok]
        by_cases hab : a = b
        · subst hab; simp [hrest]
        · simp [hab]
      · cases hr
    · rename_i h3
      obtain ⟨ks', hks', rfl⟩ := Option.map_eq_some_iff.1 hks
      have hxn : n < xs.size := by have := hlen.1; simp only [List.length_cons] at this; omega
      have hyn : n < ys.size := by have := hlen.2; simp only [List.length_cons] at this; omega
      rw [List.drop_eq_getElem_cons (by simpa using hxn), List.drop_eq_getElem_cons (l := ys.toList) (by simpa using hyn)] at hr
      simp only [Array.getElem_toList] at hr
      have hk : isAggB P f.type = false ∧ knownB P f.type = true := by simp [isAggB, knownB, h3]
      have px := run_part_plain hk.1 hk.2 (show xs[f.offset]? = some xs[n] by rw [h2]; exact Array.getElem?_eq_getElem hxn) w
      have py := run_part_plain hk.1 hk.2 (show ys[f.offset]? = some ys[n] by rw [h2]; exact Array.getElem?_eq_getElem hyn) w
      simp only [Op.eqFields, ne_eq, h1, not_false_eq_true, if_true, Sem.run_bind]
      generalize xs[n] = gx at *
      generalize ys[n] = gy at *
      simp only [px, py, Result.andThen_ok]
      cases gx <;> cases gy <;> simp only [eqKs, reduceCtorEq] at hr
      obtain ⟨r', hr', rfl⟩ := Option.map_eq_some_iff.1 hr
      have hrest := run_eqFields2 d xs ys fs (n + 1) ks' r' hks' hr'
      rename_i a b
      simp only [run_equalIn_bool' w (d + 1) f.type a b h3, Result.andThen_ok]
      by_cases hab : a = b
      · subst hab; simp [hrest]
      · have : (a == b) = false := by simpa using hab
        simp [this]
    · rename_i gs h3
      split at hks
      · cases hks
      rename_i hst
      split at hks
      case h_2 => cases hks
      rename_i kq z hkq hz
      split at hks
      case isFalse => cases hks
      rename_i hkl
      obtain ⟨ks', hks', rfl⟩ := Option.map_eq_some_iff.1 hks
      obtain ⟨r1, r2, e1, e2, rfl⟩ := eqKs_append hr
      rw [hkl] at e1 e2
      rw [List.drop_drop, List.drop_drop] at e2
      have hag : isAggB P f.type = true := by simp [isAggB, h3]
      have hpart : ∀ cs : Array Value, (part f.type cs f.offset).run P w = .ok (.agg (cs.extract n (n + z))) w := fun cs => by
        rw [h2]; simp [part, isAgg_true hag, szo_run hz]
      have hrest := run_eqFields2 d xs ys fs (n + z) ks' r2 hks' e2
      have hfo : P.fieldsOf f.type = gs := by simp [Program.fieldsOf, h3]
      have hst' : P.stoodInHeld f.type = false := by simpa using hst
      have ex : ∀ cs : Array Value, (cs.extract n (n + z)).toList = (cs.toList.drop n).take z := fun cs => by
        rw [Array.toList_extract, List.extract_eq_take_drop, Nat.add_sub_cancel_left]
      have hin : (Op.equalIn (d + 2) f.type (.agg (xs.extract n (n + z))) (.agg (ys.extract n (n + z)))).run P w = .ok r1 w := by
        rw [run_equalIn_agg w (d + 1) f.type _ _ (by rw [hfo, h3]) hst', hfo]
        exact run_eqFields d _ _ gs.toList 0 kq r1 hkq (by rw [List.drop_zero, List.drop_zero, ex, ex]; exact e1)
      simp only [Op.eqFields, ne_eq, h1, not_false_eq_true, if_true, Sem.run_bind, hpart, Result.andThen_ok, hin]
      cases r1 with
      | false => simp
      | true => simp [hrest]
    · cases hks

theorem kOf_p {t : TypeId} (h : kOf P t = .p) : ∃ e, P.underlying t = some (.pointer e) := by
  unfold kOf at h; split at h <;> (try cases h) <;> exact ⟨_, by assumption⟩
theorem kOf_s {t : TypeId} (h : kOf P t = .s) : ∃ e, P.underlying t = some (.slice e) := by
  unfold kOf at h; split at h <;> (try cases h) <;> exact ⟨_, by assumption⟩
theorem kOf_m {t : TypeId} (h : kOf P t = .m) : ∃ k e, P.underlying t = some (.map k e) := by
  unfold kOf at h; split at h <;> (try cases h) <;> exact ⟨_, _, by assumption⟩
theorem kOf_b {t : TypeId} (h : kOf P t = .b) : P.underlying t = some .bool := by
  unfold kOf at h; split at h <;> (try cases h) <;> assumption
theorem kOf_i {t : TypeId} {k : IntKind} (h : kOf P t = .i k) : P.underlying t = some (.int k) := by
  unfold kOf at h; split at h <;> (try cases h) <;> assumption

theorem run_equal_depth (t : TypeId) (x y : Value) : (Op.equal t x y).run P w = (Op.equalIn (9999 + 1) t x y).run P w := rfl
theorem run_equalIn_ptr_nil (d : Nat) (t e : TypeId) (a : Option Addr) (h : P.underlying t = some (.pointer e)) : (Op.equalIn (d + 1) t (.pointer a) (.pointer none)).run P w = .ok a.isNone w := by
  cases a <;> simp [Op.equalIn, run_underlying h]
theorem run_equalIn_ptr (d : Nat) (t : TypeId) (a b : Addr) (h : ptrElB P t = true) (hb : a.block = b.block) : (Op.equalIn (d + 1) t (.pointer (some a)) (.pointer (some b))).run P w = .ok (a == b) w := by
  unfold ptrElB at h
  split at h
  · rename_i e he
    split at h
    · rename_i z hz
      have h0 : z ≠ 0 := by simpa using h
      simp [Op.equalIn, run_underlying he, szo_run hz, h0, sameAddr, hb]
    · cases h
  · cases h
theorem run_equalIn_slice_nil (d : Nat) (t e : TypeId) (a : Option Addr) (n c n' c' : Nat) (h : P.underlying t = some (.slice e)) : (Op.equalIn (d + 1) t (.slice a n c) (.slice none n' c')).run P w = .ok a.isNone w := by
  cases a <;> simp [Op.equalIn, run_underlying h]
theorem run_equalIn_map_nil (d : Nat) (t k e : TypeId) (a : Option Nat) (h : P.underlying t = some (.map k e)) : (Op.equalIn (d + 1) t (.map a) (.map none)).run P w = .ok a.isNone w := by
  cases a <;> simp [Op.equalIn, run_underlying h]
theorem run_eql_of {t : TypeId} {x y : Value} {r : Bool} (hx : (∀ k n, x ≠ .int k n) ∧ (∀ s, x ≠ .string s) ∧ (∀ k n, x ≠ .float k n) ∧ (∀ k a b, x ≠ .complex k a b)) (h : (Op.equalIn (9999 + 1) t x y).run P w = .ok r w) :
    (binOp .eql t x y).run P w = .ok (.bool r) w ∧ (binOp .neq t x y).run P w = .ok (.bool (!r)) w := by
  obtain ⟨h1, h2, h3, h4⟩ := hx
  cases x <;> first | exact absurd rfl (h1 _ _) | exact absurd rfl (h2 _) | exact absurd rfl (h3 _ _) | exact absurd rfl (h4 _ _ _) | skip
  all_goals
    cases y <;> simp only [binOp, Sem.run_bind, run_equal_depth, h, Result.andThen_ok, Sem.run_pure, and_self]

theorem run_bin {op : BinOp} {t : TypeId} {x y : Value} {ox oy : Operand} (h : (bin P op t x y).c) :
    (eqGuard op t ox oy x y >>= fun _ => binOp op t x y).run P w = .ok (bin P op t x y).v w := by
  unfold bin at h ⊢
  split at h
  · rename_i k a k' b
    have hg : (eqGuard op t ox oy (.int k a) (.int k' b)).run P w = .ok () w := by cases op <;> simp [eqGuard]
    simp only [Sem.run_bind, hg, Result.andThen_ok]
    split at h
    · simp [binOp, Op.shift, shN, Int.not_lt.2 h]
    · simp [binOp, Op.shift, shN, Int.not_lt.2 h]
    · split at h
      · rename_i hk
        subst hk
        rename_i h1 h2
        rw [if_pos rfl]
        exact run_binI ⟨by simpa using h1, by simpa using h2⟩ h
      · exact h.elim
  · rename_i a b
    have hg : (eqGuard op t ox oy (.bool a) (.bool b)).run P w = .ok () w := by cases op <;> simp [eqGuard]
    simp only [Sem.run_bind, hg, Result.andThen_ok]
    split at h
    · rename_i hk
      exact (run_eql_of (by simp) (run_equalIn_bool' w _ t a b (kOf_b hk))).1
    · rename_i hk
      exact (run_eql_of (by simp) (run_equalIn_bool' w _ t a b (kOf_b hk))).2
    · exact h.elim
  · rename_i a
    have hg : (eqGuard op t ox oy (.pointer a) (.pointer none)).run P w = .ok () w := by cases op <;> simp [eqGuard]
    simp only [Sem.run_bind, hg, Result.andThen_ok]
    split at h
    · rename_i hk
      obtain ⟨e, he⟩ := kOf_p hk
      exact (run_eql_of (by simp) (run_equalIn_ptr_nil _ t e a he)).1
    · rename_i hk
      obtain ⟨e, he⟩ := kOf_p hk
      exact (run_eql_of (by simp) (run_equalIn_ptr_nil _ t e a he)).2
    · exact h.elim
  · rename_i a b
    have hg : (eqGuard op t ox oy (.pointer (some a)) (.pointer (some b))).run P w = .ok () w := by cases op <;> simp [eqGuard]
    simp only [Sem.run_bind, hg, Result.andThen_ok]
    split at h
    · exact (run_eql_of (by simp) (run_equalIn_ptr _ t a b h.1 h.2)).1
    · exact (run_eql_of (by simp) (run_equalIn_ptr _ t a b h.1 h.2)).2
    · exact h.elim
  · rename_i a n c n' c'
    have hg : (eqGuard op t ox oy (.slice a n c) (.slice none n' c')).run P w = .ok () w := by cases op <;> simp [eqGuard]
    simp only [Sem.run_bind, hg, Result.andThen_ok]
    split at h
    · rename_i hk
      obtain ⟨e, he⟩ := kOf_s hk
      exact (run_eql_of (by simp) (run_equalIn_slice_nil _ t e a n c n' c' he)).1
    · rename_i hk
      obtain ⟨e, he⟩ := kOf_s hk
      exact (run_eql_of (by simp) (run_equalIn_slice_nil _ t e a n c n' c' he)).2
    · exact h.elim
  · rename_i a
    have hg : (eqGuard op t ox oy (.map a) (.map none)).run P w = .ok () w := by cases op <;> simp [eqGuard]
    simp only [Sem.run_bind, hg, Result.andThen_ok]
    split at h
    · rename_i hk
      obtain ⟨k, e, he⟩ := kOf_m hk
      exact (run_eql_of (by simp) (run_equalIn_map_nil _ t k e a he)).1
    · rename_i hk
      obtain ⟨k, e, he⟩ := kOf_m hk
      exact (run_eql_of (by simp) (run_equalIn_map_nil _ t k e a he)).2
    · exact h.elim
  · rename_i xs ys
    split at h
    case h_2 => exact h.elim
    rename_i ks hks
    unfold flatK at hks
    split at hks
    case isFalse => cases hks
    rename_i hc
    simp only [Bool.and_eq_true, Bool.not_eq_true'] at hc
    split at hks
    case h_2 => cases hks
    rename_i fs hfs
    have hfo : P.fieldsOf t = fs := by simp [Program.fieldsOf, hfs]
    have hg : (eqGuard op t ox oy (.agg xs) (.agg ys)).run P w = .ok () w := run_eqGuard_agg w op t ox oy xs ys hc.2
    simp only [Sem.run_bind, hg, Result.andThen_ok]
    have key : ∀ r, eqKs ks xs.toList ys.toList = some r → (Op.equalIn 10000 t (.agg xs) (.agg ys)).run P w = .ok r w := by
      intro r hr
      rw [run_equalIn_agg w 9999 t xs ys (by rw [hfo, hfs]) hc.1, hfo]
      exact run_eqFields2 9997 xs ys fs.toList 0 ks r hks (by simpa using hr)
    split at h
    · rename_i r hr
      exact (run_eql_of (by simp) (key r hr)).1
    · rename_i r hr
      exact (run_eql_of (by simp) (key r hr)).2
    · exact h.elim
  · exact h.elim

theorem run_loadCellsFrom_ks (w : World) (a : Addr) : ∀ (ks : List K) (i : Nat) (acc : Array Value), okKs w a i ks →
    (loadCellsFrom a i ks.length acc).run P w = .ok (acc ++ (rdKs w a i ks).toArray) w
  | [], i, acc, _ => by simp [loadCellsFrom, rdKs]
  | k :: ks, i, acc, h => by
    obtain ⟨h1, h2⟩ := h
    have ih := run_loadCellsFrom_ks w a ks (i + 1) (acc.push (rdK w (a.add i) k)) h2
    simp only [List.length_cons, loadCellsFrom, Sem.run_bind, run_load, h1, Result.andThen_ok, ih, rdKs]
    simp

theorem isAgg_false {t : TypeId} (h : isAggB P t = false) (hk : knownB P t = true) (w : World) : (isAgg t).run P w = .ok false w := by
  unfold isAggB at h
  unfold knownB at hk
  cases hd : P.underlying t with
  | none => simp [hd] at hk
  | some d => rw [hd] at h; cases d <;> simp at h <;> simp [isAgg, run_underlying hd]

theorem run_ldv {t : TypeId} {x : Value} (h : (ldv P w t x).c) : (Instr.loadAt t x).run P w = .ok (ldv P w t x).v w := by
  unfold ldv at h ⊢
  split at h
  · rename_i a
    split at h
    · rename_i hg
      rw [if_pos hg]
      obtain ⟨h1, h2⟩ := h
      have hl := run_loadCellsFrom_ks (P := P) w a (kinds P 8 t) 0 #[] h2
      simp only [Instr.loadAt, Instr.sureAddr, loadVar, Sem.run_bind, Sem.run_pure, Result.andThen_ok, isAgg_true hg, if_true, szo_run h1, loadCells, hl]
      simp
    · rename_i hg
      rw [if_neg hg]
      obtain ⟨h1, h2⟩ := h
      simp only [Instr.loadAt, Instr.sureAddr, loadVar, Sem.run_bind, Sem.run_pure, Result.andThen_ok, isAgg_false (by simpa using hg) h1, Bool.false_eq_true, if_false, run_load, h2]
  · exact h.elim

theorem elo_spec {t : TypeId} {z : Nat} {e : TypeId} (h : elo P t = some (z, e)) (hk : kOf P t = .s) : P.underlying t = some (.slice e) ∧ szo P e = some z := by
  obtain ⟨e', he⟩ := kOf_s hk
  simp only [elo, he] at h
  obtain ⟨z', hz, h2⟩ := Option.map_eq_some_iff.1 h
  cases h2
  exact ⟨he, hz⟩

theorem run_sliceBound {k : IntKind} {i : Int} {y : Nat} {code : BoundsCode} (h0 : 0 ≤ i) (h1 : i ≤ y) (w : World) : (Instr.sliceBound (.int k i) y code).run P w = .ok i.toNat w := by
  simp [Instr.sliceBound, asIntOf, h0, h1]

theorem run_slv {t : TypeId} {x : Value} {lo hi : Option Value} (h : (slv P t x lo hi).c) : (Instr.sliceAt t x lo hi none).run P w = .ok (slv P t x lo hi).v w := by
  unfold slv at h ⊢
  split at h
  · rename_i z e A n c hel hk
    obtain ⟨he, hz⟩ := elo_spec hel hk
    have hs : ∀ lo hi, (Instr.sliceAt t (.slice A n c) lo hi none).run P w = (Instr.slice t (.slice A n c) lo hi none).run P w := by
      intro lo hi; simp [Instr.sliceAt, run_underlying he]
    rw [hs]
    split at h
    · simp [Instr.slice, run_underlying he, Instr.sliceBounds, szo_run hz]
      cases A <;> simp [Addr.add]
    · rename_i l
      obtain ⟨h0, h1⟩ := h
      simp [Instr.slice, run_underlying he, Instr.sliceBounds, szo_run hz, run_sliceBound (P := P) h0 h1]
    · rename_i hh
      obtain ⟨h0, h1⟩ := h
      simp [Instr.slice, run_underlying he, Instr.sliceBounds, szo_run hz, run_sliceBound (P := P) h0 h1]
      cases A <;> simp [Addr.add]
    · rename_i _ l _ hh
      obtain ⟨h0, h1, h2⟩ := h
      have h3 : l ≤ (hh.toNat : Int) := by omega
      simp [Instr.slice, run_underlying he, Instr.sliceBounds, szo_run hz, run_sliceBound (P := P) (show 0 ≤ hh by omega) h2, run_sliceBound (P := P) h0 h3]
    · exact h.elim
  · exact h.elim

theorem fldo_spec {t : TypeId} {f off z : Nat} {ft : TypeId} (h : fldo P t f = some (off, z, ft)) : ∃ fs g, P.underlying t = some (.struct fs) ∧ fs[f]? = some g ∧ g.offset = off ∧ g.type = ft ∧ szo P ft = some z := by
  unfold fldo at h
  split at h
  · rename_i fs hfs
    split at h
    · rename_i g hg
      obtain ⟨z', hz, h2⟩ := Option.map_eq_some_iff.1 h
      cases h2
      exact ⟨fs, g, hfs, hg, rfl, rfl, hz⟩
    · cases h
  · cases h

theorem run_mapM_places (w : World) : ∀ (fs : List Field) (pl : List (Nat × Nat)), (fs.mapM fun f => (szo P f.type).map fun z => (f.offset, z)) = some pl →
    (fs.mapM fun f => (do pure (f.offset, ← sizeOf f.type) : Sem (Nat × Nat))).run P w = .ok pl w
  | [], pl, h => by simp at h; subst h; simp
  | f :: fs, pl, h => by
    simp only [List.mapM_cons, Option.bind_eq_bind, Option.bind_eq_some_iff, Option.map_eq_some_iff, Option.pure_def, Option.some.injEq] at h
    obtain ⟨p, ⟨z, hz, rfl⟩, pl', hpl', rfl⟩ := h
    simp only [List.mapM_cons, Sem.run_bind, szo_run hz, Result.andThen_ok, Sem.run_pure, run_mapM_places w fs pl' hpl']

/-- WHAT AN OPERATION THAT ONLY READS YIELDS. -/
theorem pv_sound {f : Array Value} {ds : List Deferred} {o : Oper} (h : (pv P w f o).c) : (execOp (Act.mk f ds).eval o).run P w = .ok (.value (pv P w f o).v) w := by
  rw [← evo_eq]
  unfold pv at h ⊢
  unfold execOp
  split at h <;> rename_i ho <;> simp only [ho]
  · simp
  · simp
  · simp [run_ldv h]
  · split at h
    · rename_i a ha; simp [ha]
    · exact h.elim
  · rename_i op t x y yt
    have := run_bin (P := P) (w := w) (ox := x) (oy := y) h
    simp only [Sem.run_bind] at this ⊢
    rw [this]; rfl
  · split at h
    · rename_i b hb; simp [hb, Op.unary]
    · rename_i k n hn
      have := run_arithI h
      simp only [hn, Op.unary, Op.intArith, Sem.run_bind, Sem.run_pure, Result.andThen_ok, this]
    · exact h.elim
  · rename_i s d x
    split at h
    · rename_i k n k' hn hk
      have h1 := h.1
      unfold knownB at h1
      have hd := kOf_i hk
      have := run_convert_int (P := P) w s d k n h1 (by simp [Program.intKind, hd])
      simp only [Sem.run_bind, hn, this, Result.andThen_ok, Sem.run_pure]
      simp [Program.intKind, hd, fits_wrap h.2]
    · exact h.elim
  · simp [run_slv h]
  · rename_i t x fl
    split at h
    · rename_i off z ft a hf hx
      obtain ⟨fs, g, hfs, hg, rfl, rfl, hz⟩ := fldo_spec hf
      have hz0 : z ≠ 0 := h
      simp [hx, Instr.fieldAt, run_underlying hfs, hg, Instr.sureAddr, fieldPlace, szo_run hz, hz0]
    · exact h.elim
  · rename_i t x fl
    split at h
    · rename_i off z ft cs hf hx
      obtain ⟨fs, g, hfs, hg, rfl, rfl, hz⟩ := fldo_spec hf
      split at h
      · rename_i hag
        rw [if_pos hag]
        simp [hx, Instr.field, run_underlying hfs, hg, asAgg, part, isAgg_true hag, szo_run hz]
      · rename_i hag
        rw [if_neg hag]
        split at h
        · rename_i v hv
          have := run_part_plain (P := P) (t := g.type) (by simpa using hag) h hv w
          simp [hx, Instr.field, run_underlying hfs, hg, asAgg, this]
        · exact h.elim
    · exact h.elim
  · rename_i t x ix
    split at h
    · rename_i z e A n c k j hel hk hx hix
      obtain ⟨he, hz⟩ := elo_spec hel hk
      split at h
      · rename_i a
        obtain ⟨h0, h1⟩ := h
        simp [hx, hix, Instr.indexAt, asIntOf, run_underlying he, h0, h1, szo_run hz]
      · exact h.elim
    · rename_i z e a k j hel hx hix
      split at h
      · rename_i n hn
        obtain ⟨h0, h1⟩ := h
        obtain ⟨e', he⟩ : ∃ e', P.underlying t = some (.array n e') := by
          unfold arN at hn
          split at hn
          · rename_i n' e' he; cases hn; exact ⟨e', he⟩
          · cases hn
        have hz : szo P e' = some z := by
          simp only [elo, he] at hel
          obtain ⟨z', hz, h2⟩ := Option.map_eq_some_iff.1 hel
          cases h2; exact hz
        simp [hx, hix, Instr.indexAt, Instr.sureAddr, asIntOf, run_underlying he, h0, h1, szo_run hz]
      · exact h.elim
    · exact h.elim
  · split at h
    · rename_i vs hv
      split at h
      · rename_i v hvv; simp [hv, Instr.extract, hvv]
      · exact h.elim
    · exact h.elim
  · simp [Instr.makeFunc]
  · rename_i t s ix
    split at h
    · rename_i k j hix
      obtain ⟨ht, h0, h1⟩ := h
      have ht' : P.underlying t = some .string := by
        unfold strB at ht
        split at ht
        · assumption
        · cases ht
      have hlt : j.toNat < s.size := by unfold strN at h1; omega
      have hb : s[j.toNat]? = some s[j.toNat] := by simp [hlt]
      have hc : evo f (.const (.string s)) = .string s := rfl
      simp only [hc, hix, Instr.index, asIntOf, run_underlying ht', h0, strAt, hb, Sem.run_bind, Sem.run_pure, Result.andThen_ok, if_true]
    · exact h.elim
  · rename_i t parts
    split at h
    · rename_i pl z hpl hz
      split at h
      · rename_i cs hcs
        unfold placeo at hpl
        split at hpl
        · rename_i fs hfs
          have hm := run_mapM_places (P := P) w fs.toList pl hpl
          unfold zco at hz
          obtain ⟨zv, hzv, rfl⟩ := Option.map_eq_some_iff.1 hz
          obtain ⟨i, hi, hzi⟩ := Option.bind_eq_some_iff.1 hzv
          have hzr : (zeroValue t).run P w = .ok zv w := by simp [zeroValue, typeInfo, hi, hzi]
          have hm2 : (fs.mapM fun f => (do pure (f.offset, ← sizeOf f.type) : Sem (Nat × Nat))).run P w = .ok pl.toArray w := by
            rw [Array.mapM_eq_mapM_toList]
            simp only [Sem.run_map, hm, Result.andThen_ok]
          simp only [hcs]
          simp only [Instr.build, Sem.run_bind, hzr, Result.andThen_ok, run_underlying hfs, hm2]
          have hfill : Instr.fill (fun x => pl[x]?) zv.cells (List.map (fun x => (x.1, evo f x.2)) parts.toList) = some cs := by simpa using fillL_eq pl _ _ _ hcs
          simp [hfill]
        · rename_i n e hfs
          split at hpl
          · obtain ⟨z', hsz, rfl⟩ := Option.map_eq_some_iff.1 hpl
            unfold zco at hz
            obtain ⟨zv, hzv, rfl⟩ := Option.map_eq_some_iff.1 hz
            obtain ⟨i, hi, hzi⟩ := Option.bind_eq_some_iff.1 hzv
            have hzr : (zeroValue t).run P w = .ok zv w := by simp [zeroValue, typeInfo, hi, hzi]
            have hfill : Instr.fill (fun i => some (i * z', z')) zv.cells (List.map (fun x => (x.1, evo f x.2)) parts.toList) = some cs := fillL_range n z' _ _ _ (by simpa using hcs)
            simp only [hcs]
            simp only [Instr.build, Sem.run_bind, hzr, Result.andThen_ok, run_underlying hfs, szo_run hsz]
            simp [hfill]
          · cases hpl
        · cases hpl
      · exact h.elim
    · exact h.elim
  · rename_i c
    split at h
    · rename_i A n cp t hc ha ht
      split at h
      · rename_i hk
        obtain ⟨e, he⟩ := kOf_s hk
        have h1 : c.args.map (evo f) = #[.slice A n cp] := by
          apply Array.toList_inj.1; simpa using ha
        have h2 : c.argTypes = #[t] := by apply Array.toList_inj.1; simpa using ht
        simp [resolve, hc, h1, h2, invoke, builtin, Builtin.len_, run_underlying he, goInt]
      · exact h.elim
    · rename_i b t hc ha ht
      split at h
      · rename_i hk
        obtain ⟨k, e, he⟩ := kOf_m hk
        have h1 : c.args.map (evo f) = #[.map (some b)] := by
          apply Array.toList_inj.1; simpa using ha
        have h2 : c.argTypes = #[t] := by apply Array.toList_inj.1; simpa using ht
        obtain ⟨es, clock, hb⟩ : ∃ es clock, w.heap[b]? = some (.map es clock) := by
          have h : mapB w b = true := h
          unfold mapB at h
          split at h
          · exact ⟨_, _, by assumption⟩
          · cases h
        have hN : mapN w b = es.size := by simp [mapN, hb]
        simp [resolve, hc, h1, h2, invoke, builtin, Builtin.len_, run_underlying he, MapKept.run_getObj_map hb, goInt, hN]
      · exact h.elim
    · rename_i t hc ha ht
      split at h
      · rename_i hk
        obtain ⟨k, e, he⟩ := kOf_m hk
        have h1 : c.args.map (evo f) = #[.map none] := by
          apply Array.toList_inj.1; simpa using ha
        have h2 : c.argTypes = #[t] := by apply Array.toList_inj.1; simpa using ht
        simp [resolve, hc, h1, h2, invoke, builtin, Builtin.len_, run_underlying he, goInt]
      · exact h.elim
    · rename_i k a k' b hc ha
      have h1 : c.args.map (evo f) = #[.int k a, .int k' b] := by
        apply Array.toList_inj.1; simpa using ha
      simp [resolve, hc, h1, invoke, builtin, run_min_int2]
    · rename_i k a k' b hc ha
      have h1 : c.args.map (evo f) = #[.int k a, .int k' b] := by
        apply Array.toList_inj.1; simpa using ha
      simp [resolve, hc, h1, invoke, builtin, run_max_int2]
    · exact h.elim
  · exact h.elim
end
end Go.VC

namespace Go.VC
open Go Go.RowKit

section
variable {P : Program} {w : World} {ops : Array Oper}

def presentR (r : Array Value) (c : List (Nat × Bool)) : Prop := ∀ d b, (d, b) ∈ c → r.getD d undef = .bool b

structure Inv (r f : Array Value) (ch : Ch) : Prop where
  size : r.size = f.size
  val : ∀ t, presentR r (look ch t) → r.getD t undef = f.getD t undef
  abs : ∀ t, look ch t ≠ [] → ¬ presentR r (look ch t) → r.getD t undef = undef
  clo : ∀ t d b c, look ch t = (d, b) :: c → c = look ch d

theorem Inv.start (f : Array Value) : Inv f f [] :=
  ⟨rfl, fun _ _ => rfl, fun _ h => absurd rfl h, fun t d b c h => by simp [look] at h⟩

theorem presentR_cons {r : Array Value} {d : Nat} {b : Bool} {c : List (Nat × Bool)} : presentR r ((d, b) :: c) ↔ r.getD d undef = .bool b ∧ presentR r c := by
  constructor
  · intro h
    exact ⟨h d b (by simp), fun d' b' hm => h d' b' (by simp [hm])⟩
  · rintro ⟨h1, h2⟩ d' b' hm
    simp only [List.mem_cons, Prod.mk.injEq] at hm
    rcases hm with ⟨rfl, rfl⟩ | hm
    · exact h1
    · exact h2 d' b' hm

theorem Inv.holds_of {r f : Array Value} {ch : Ch} (I : Inv r f ch) : ∀ c : List (Nat × Bool), (c = [] ∨ ∃ d b, c = (d, b) :: look ch d) → presentR r c → holds f c
  | [], _, _ => trivial
  | (d, b) :: c, hc, hp => by
    obtain ⟨d', b', h⟩ := hc.resolve_left (by simp)
    simp only [List.cons.injEq, Prod.mk.injEq] at h
    obtain ⟨⟨rfl, rfl⟩, rfl⟩ := h
    obtain ⟨h1, h2⟩ := presentR_cons.1 hp
    have hv := I.val d h2
    refine ⟨by rw [← hv, h1], Inv.holds_of I (look ch d) ?_ h2⟩
    cases hl : look ch d with
    | nil => exact .inl rfl
    | cons x c' =>
      obtain ⟨d2, b2⟩ := x
      exact .inr ⟨d2, b2, by rw [I.clo d d2 b2 c' hl]⟩

theorem getD_bool {r : Array Value} {d : Nat} {b : Bool} : r.getD d undef = .bool b ↔ r[d]? = some (.bool b) := by
  rw [Array.getD_eq_getD_getElem?]
  cases h : r[d]? with
  | none => simp [undef]
  | some v => simp

theorem Inv.wanted {r f : Array Value} {ch : Ch} (I : Inv r f ch) {o : Oper} {dsl : List (Option Tmp)} (hds : ∀ j : Nat, dsl[j]? = (ops[j]?).map (·.dst))
    (hg : match o.guard with | none => True | some (j, _) => ∃ d, dsl[j]? = some (some d)) :
    Region.wanted o (yielded ops r) = true ↔ presentR r (chainOf dsl ch o.guard) := by
  unfold Region.wanted chainOf
  cases hgd : o.guard with
  | none => simp [presentR]
  | some x =>
    obtain ⟨j, want⟩ := x
    rw [hgd] at hg
    obtain ⟨d, hd⟩ := hg
    have ho : (ops[j]?).bind (·.dst) = some d := by
      rw [hds] at hd
      cases h : ops[j]? with
      | none => rw [h] at hd; simp at hd
      | some o' => rw [h] at hd; simpa using hd
    simp only [hd, presentR_cons, yielded, ho, Option.bind_some]
    constructor
    · intro h
      have hr : r.getD d undef = .bool want := by
        rw [getD_bool]
        revert h
        cases h1 : r[d]? with
        | none => simp
        | some v => cases v <;> simp
      refine ⟨hr, ?_⟩
      by_cases hl : look ch d = []
      · rw [hl]; intro _ _ h; cases h
      · refine Classical.byContradiction fun hn => ?_
        have := I.abs d hl hn
        rw [hr] at this
        simp [undef] at this
    · rintro ⟨h, _⟩
      rw [getD_bool] at h
      simp [h]

theorem suf_present {r : Array Value} : ∀ (c ct : List (Nat × Bool)), suf c ct = true → presentR r c → presentR r ct
  | [], ct, h, hp => by
    simp [suf] at h
    subst h; exact hp
  | x :: c, ct, h, hp => by
    unfold suf at h
    simp only [Bool.or_eq_true, beq_iff_eq] at h
    rcases h with h | h
    · rw [← h]; exact hp
    · exact suf_present c ct h (presentR_cons.1 hp).2

theorem Inv.reads {r f : Array Value} {ch : Ch} (I : Inv r f ch) {c0 : List (Nat × Bool)} (hp : presentR r c0) {x : Operand} (h : match tmpOf x with | some t => suf c0 (look ch t) = true | none => True) :
    evo r x = evo f x := by
  cases x with
  | tmp t => exact I.val t (suf_present _ _ h hp)
  | const v => rfl
  | global g => rfl
  | func g => rfl

theorem look_filter {ch : Ch} {d t : Nat} (h : t ≠ d) : look (ch.filter fun x => x.1 != d) t = look ch t := by
  induction ch with
  | nil => rfl
  | cons x ch ih =>
    obtain ⟨s, c⟩ := x
    by_cases hs : s = d
    · subst hs
      simp only [List.filter_cons, bne_self_eq_false, Bool.false_eq_true, if_false, ih]
      simp [look, Ne.symm h]
    · have : (s != d) = true := by simpa using hs
      simp only [List.filter_cons, this, if_true, look, ih]
theorem look_filter_same {ch : Ch} {d : Nat} : look (ch.filter fun x => x.1 != d) d = [] := by
  induction ch with
  | nil => rfl
  | cons x ch ih =>
    obtain ⟨s, c⟩ := x
    by_cases hs : s = d
    · subst hs
      simp only [List.filter_cons, bne_self_eq_false, Bool.false_eq_true, if_false, ih]
    · have : (s != d) = true := by simpa using hs
      simp only [List.filter_cons, this, if_true, look, ih, if_neg hs]

def chStep (ch : Ch) (d : Nat) (c0 : List (Nat × Bool)) : Ch :=
  match c0 with | [] => ch.filter (fun x => x.1 != d) | c => (d, c) :: ch.filter (fun x => x.1 != d)
theorem look_chStep {ch : Ch} {d : Nat} {c0 : List (Nat × Bool)} (t : Nat) : look (chStep ch d c0) t = if t = d then c0 else look ch t := by
  cases c0 with
  | nil =>
    simp only [chStep]
    split
    · rename_i h; subst h; exact look_filter_same
    · rename_i h; exact look_filter h
  | cons x c =>
    simp only [chStep, look]
    split
    · rename_i h; subst h; simp
    · rename_i h; rw [if_neg (fun e => h e.symm)]; exact look_filter (fun e => h e.symm)

theorem look_mem {ch : Ch} {t : Nat} (h : look ch t ≠ []) : (t, look ch t) ∈ ch := by
  induction ch with
  | nil => simp [look] at h
  | cons x ch ih =>
    obtain ⟨s, c⟩ := x
    unfold look at h ⊢
    split
    · rename_i e; subst e; simp
    · rename_i e; rw [if_neg e] at h; exact List.mem_cons_of_mem _ (ih h)

theorem present_set {r : Array Value} {d : Nat} {v : Value} {c : List (Nat × Bool)} (h : ∀ b, (d, b) ∉ c) : presentR (r.setIfInBounds d v) c ↔ presentR r c := by
  have : ∀ d' b, (d', b) ∈ c → (r.setIfInBounds d v).getD d' undef = r.getD d' undef := by
    intro d' b hm
    have hne : d ≠ d' := fun e => by subst e; exact h b hm
    simp [Array.getD_eq_getD_getElem?, hne]
  constructor
  · intro hp d' b hm; rw [← this d' b hm]; exact hp d' b hm
  · intro hp d' b hm; rw [this d' b hm]; exact hp d' b hm

theorem getD_set_self {r : Array Value} {d : Nat} {v : Value} (h : d < r.size) : (r.setIfInBounds d v).getD d undef = v := by
  simp [Array.getD_eq_getD_getElem?, h]
theorem getD_set_other {r : Array Value} {d t : Nat} {v : Value} (h : d ≠ t) : (r.setIfInBounds d v).getD t undef = r.getD t undef := by
  simp [Array.getD_eq_getD_getElem?, h]

theorem Inv.step {r f : Array Value} {ch : Ch} (I : Inv r f ch) {d : Nat} {c0 : List (Nat × Bool)} {vr vf : Value} (hd : d < f.size)
    (hno : ∀ t b, (d, b) ∉ look ch t) (hno0 : ∀ b, (d, b) ∉ c0) (hc0 : c0 = [] ∨ ∃ d' b, c0 = (d', b) :: look ch d')
    (hv : presentR r c0 → vr = vf) (ha : ¬ presentR r c0 → vr = undef) : Inv (r.setIfInBounds d vr) (f.setIfInBounds d vf) (chStep ch d c0) where
  size := by simp [I.size]
  val := by
    intro t hp
    rw [look_chStep] at hp
    by_cases ht : t = d
    · subst ht
      rw [if_pos rfl, present_set hno0] at hp
      rw [getD_set_self (by rw [I.size]; exact hd), getD_set_self hd, hv hp]
    · rw [if_neg ht, present_set (hno t)] at hp
      rw [getD_set_other (Ne.symm ht), getD_set_other (Ne.symm ht)]
      exact I.val t hp
  abs := by
    intro t hl hp
    rw [look_chStep] at hl hp
    by_cases ht : t = d
    · subst ht
      rw [if_pos rfl, present_set hno0] at hp
      rw [getD_set_self (by rw [I.size]; exact hd)]
      exact ha hp
    · rw [if_neg ht] at hl
      rw [if_neg ht, present_set (hno t)] at hp
      rw [getD_set_other (Ne.symm ht)]
      exact I.abs t hl hp
  clo := by
    intro t d1 b1 c h
    rw [look_chStep] at h ⊢
    by_cases ht : t = d
    · rw [if_pos ht] at h
      subst h
      have hne : d1 ≠ d := fun e => by subst e; exact hno0 b1 (by simp)
      rw [if_neg hne]
      obtain ⟨d', b', h'⟩ := hc0.resolve_left (by simp)
      simp only [List.cons.injEq, Prod.mk.injEq] at h'
      obtain ⟨⟨rfl, rfl⟩, rfl⟩ := h'
      rfl
    · rw [if_neg ht] at h
      have hne : d1 ≠ d := fun e => by subst e; exact hno t b1 (by rw [h]; simp)
      rw [if_neg hne]
      exact I.clo t d1 b1 c h

theorem run_opP {f r : Array Value} {ch : Ch} (I : Inv r f ch) {o : Oper} {c0 : List (Nat × Bool)} (hok : opOk ch c0 o = true) (hp : presentR r c0) (h : (opP P w f o).c) (ds : List Deferred) :
    (execOp (Act.mk r ds).eval o).run P w = .ok (.value (opP P w f o).v) w := by
  have hgen : (∀ c a b, o.op ≠ .pick c a b) → (execOp (Act.mk r ds).eval o).run P w = .ok (.value (opP P w f o).v) w := by
    intro hnp
    have hpv : opP P w f o = pv P w f o := by
      unfold opP; split
      · rename_i c a b ho; exact absurd ho (hnp c a b)
      · rfl
    rw [hpv] at h ⊢
    have hns : ∀ cs b, o.op ≠ .select cs b := by
      intro cs b ho; simp [opOk, ho] at hok
    have hro : readsOk ch c0 o.op.operands.toList = true := by
      unfold opOk at hok
      split at hok
      · rename_i c a b ho; exact absurd ho (hnp c a b)
      · cases hok
      · cases hok
      · exact hok
    rw [execOp_congr (ρ' := (Act.mk f ds).eval) o hns]
    · exact pv_sound h
    · intro x hx
      rw [← evo_eq, ← evo_eq]
      have := List.all_eq_true.1 hro x (by simpa using hx)
      exact I.reads hp (by cases x <;> simp_all [tmpOf])
  by_cases hpk : ∃ c a b, o.op = .pick c a b
  · obtain ⟨c, a, b, ho⟩ := hpk
    have hP : opP P w f o = pickP f c a b := by unfold opP; rw [ho]
    rw [hP] at h ⊢
    unfold pickP at h ⊢
    have hex : execOp (Act.mk r ds).eval o = (do pure (.value (if ← asBool (evo r c) then evo r a else evo r b))) := by
      rw [← evo_eq]; simp only [execOp, ho]
    have hc : evo r c = evo f c := by
      cases c with
      | tmp sc =>
        simp only [opOk, ho, Bool.and_eq_true] at hok
        exact I.val sc (suf_present _ _ hok.1.1 hp)
      | const v => rfl
      | global g => rfl
      | func g => rfl
    rw [hex, hc]
    split at h
    · rename_i t ht
      rw [ht]
      have hval : (if t then evo r a else evo r b) = (if t then evo f a else evo f b) := by
        unfold opOk at hok
        rw [ho] at hok
        simp only at hok
        cases c with
        | tmp sc =>
          simp only [Bool.and_eq_true] at hok
          obtain ⟨⟨h1, h2⟩, h3⟩ := hok
          have hrs : r.getD sc undef = .bool t := by
            have : evo r (.tmp sc) = .bool t := hc.trans ht
            exact this
          have hsc : presentR r ((sc, t) :: look ch sc) := presentR_cons.2 ⟨hrs, suf_present _ _ h1 hp⟩
          cases t with
          | true =>
            simp only [if_true]
            cases a with
            | tmp ta =>
              simp only [tmpOf, Bool.or_eq_true] at h2
              exact I.val ta (h2.elim (fun h => suf_present _ _ h hp) (fun h => suf_present _ _ h hsc))
            | _ => rfl
          | false =>
            simp only [Bool.false_eq_true, if_false]
            cases b with
            | tmp tb =>
              simp only [tmpOf, Bool.or_eq_true] at h3
              exact I.val tb (h3.elim (fun h => suf_present _ _ h hp) (fun h => suf_present _ _ h hsc))
            | _ => rfl
        | _ =>
          simp only [readsOk, List.all_cons, List.all_nil, Bool.and_true, Bool.and_eq_true] at hok
          have ra : evo r a = evo f a := I.reads hp (by cases a <;> simp_all [tmpOf])
          have rb : evo r b = evo f b := I.reads hp (by cases b <;> simp_all [tmpOf])
          rw [ra, rb]
      simp only [asBool, Sem.run_bind, Sem.run_pure, Result.andThen_ok, hval]
      rw [pickV_eq h]
    · exact h.elim
  · exact hgen fun c a b ho => hpk ⟨c, a, b, ho⟩


/-- A class of worlds in which all reads are as in w. -/
def Alike (w w' : World) : Prop := w'.heap = w.heap
theorem opP_alike {w w' : World} (h : w'.heap = w.heap) (f : Array Value) (o : Oper) : opP P w' f o = opP P w f o := by
  have hc : w'.cell? = w.cell? := by funext a; simp [World.cell?, h]
  have h1 : rdI w' = rdI w := by funext a; simp [rdI, hc]
  have h2 : rdB w' = rdB w := by funext a; simp [rdB, hc]
  have h3 : rdP w' = rdP w := by funext a; simp [rdP, hc]
  have h4 : rdSA w' = rdSA w := by funext a; simp [rdSA, hc]
  have h5 : rdSN w' = rdSN w := by funext a; simp [rdSN, hc]
  have h6 : rdSC w' = rdSC w := by funext a; simp [rdSC, hc]
  have h7 : rdM w' = rdM w := by funext a; simp [rdM, hc]
  have h8 : rdV w' = rdV w := by funext a; simp [rdV, hc]
  have hk : rdK w' = rdK w := by funext a k; cases k <;> simp [rdK, h1, h2, h3, h4, h5, h6, h7, h8]
  have hks : ∀ (a : Addr) (ks : List K) (i : Nat), rdKs w' a i ks = rdKs w a i ks := by
    intro a ks; induction ks with
    | nil => intro i; rfl
    | cons k ks ih => intro i; simp only [rdKs, hk, ih]
  have hok : ∀ (a : Addr) (ks : List K) (i : Nat), okKs w' a i ks = okKs w a i ks := by
    intro a ks; induction ks with
    | nil => intro i; rfl
    | cons k ks ih => intro i; simp only [okKs, hk, hc, ih]
  have hl : ∀ t v, ldv P w' t v = ldv P w t v := by intro t v; unfold ldv; split <;> simp only [hks, hok, hk, hc]
  have hm1 : mapB w' = mapB w := by funext b; unfold mapB; rw [h]
  have hm2 : mapN w' = mapN w := by funext b; unfold mapN; rw [h]
  have hp : pv P w' f o = pv P w f o := by unfold pv; simp only [hl, hm1, hm2]
  unfold opP; simp only [hp]

theorem opS_alike {w w' : World} (h : w'.heap = w.heap) (f : Array Value) (o : Oper) (nm : Bool) : opS P w' f o nm = opS P w f o nm := by
  cases nm
  · unfold opS opZ; simp only [opP_alike h]
  · exact opP_alike h f o
theorem run_opZ {f r : Array Value} {ch : Ch} (I : Inv r f ch) {o : Oper} {c0 : List (Nat × Bool)} (hok : opOk ch c0 o = true) (hp : presentR r c0) (h : (opZ P w f o).c) (ds : List Deferred) :
    (execOp (Act.mk r ds).eval o).run P w = .ok (.value (opZ P w f o).v) w := by
  by_cases hz : ∃ op t x y yt a b, o.op = .binOp op t x y yt ∧ evo f x = .int .i64 a ∧ evo f y = .int .i64 b ∧ (op = .add ∨ op = .mul)
  · obtain ⟨op, t, x, y, yt, a, b, ho, hx, hy, hop⟩ := hz
    have hro : readsOk ch c0 o.op.operands.toList = true := by
      unfold opOk at hok
      rw [ho] at hok ⊢
      exact hok
    have hop' : (execOp (Act.mk f ds).eval o).run P w = .ok (.value (opZ P w f o).v) w := by
      rw [← evo_eq]
      unfold execOp opZ
      simp only [ho, hx, hy]
      rcases hop with rfl | rfl <;> simp [eqGuard, binOp, Op.intArith]
    rw [execOp_congr (ρ' := (Act.mk f ds).eval) o (by intro cs b ho2; rw [ho] at ho2; cases ho2)]
    · exact hop'
    · intro x hx
      rw [← evo_eq, ← evo_eq]
      have := List.all_eq_true.1 hro x (by simpa using hx)
      exact I.reads hp (by cases x <;> simp_all [tmpOf])
  · have e : opZ P w f o = opP P w f o := by
      unfold opZ
      split
      · rename_i op t x y yt ho
        split
        · split
          · rename_i a b hx hy; exact absurd ⟨_, _, _, _, _, a, b, ho, hx, hy, Or.inl rfl⟩ hz
          · rfl
        · split
          · rename_i a b hx hy; exact absurd ⟨_, _, _, _, _, a, b, ho, hx, hy, Or.inr rfl⟩ hz
          · rfl
        · rfl
      · rfl
    rw [e] at h ⊢
    exact run_opP I hok hp h ds
theorem run_opS {f r : Array Value} {ch : Ch} (I : Inv r f ch) {o : Oper} {c0 : List (Nat × Bool)} (hok : opOk ch c0 o = true) (hp : presentR r c0) {nm : Bool} (h : (opS P w f o nm).c) (ds : List Deferred) :
    (execOp (Act.mk r ds).eval o).run P w = .ok (.value (opS P w f o nm).v) w := by
  cases nm
  · exact run_opZ I hok hp h ds
  · exact run_opP I hok hp h ds
theorem regOk_cons {dsl : List (Option Tmp)} {n : Nat} {o : Oper} {rest : List Oper} {ch : Ch} {d : Nat} (hd : o.dst = some d) (h : regOk dsl n (o :: rest) ch = true) :
    d < n ∧ opOk ch (chainOf dsl ch o.guard) o = true ∧ (∀ t b, (d, b) ∉ look ch t) ∧ (∀ b, (d, b) ∉ chainOf dsl ch o.guard) ∧
    (match o.guard with | none => True | some (j, _) => ∃ d, dsl[j]? = some (some d)) ∧ regOk dsl n rest (chStep ch d (chainOf dsl ch o.guard)) = true := by
  simp only [regOk, hd, Bool.and_eq_true, decide_eq_true_eq, Bool.not_eq_true'] at h
  obtain ⟨⟨⟨⟨⟨h1, h2⟩, h3⟩, h4⟩, h5⟩, h6⟩ := h
  refine ⟨h1, h2, ?_, ?_, ?_, h6⟩
  · intro t b hm
    have hl : look ch t ≠ [] := fun e => by rw [e] at hm; cases hm
    rw [List.any_eq_false] at h3
    have := h3 _ (look_mem hl)
    apply this
    rw [List.any_eq_true]
    exact ⟨_, hm, by simp⟩
  · intro b hm
    rw [List.any_eq_false] at h4
    exact h4 _ hm (by simp)
  · cases hg : o.guard with
    | none => trivial
    | some x =>
      obtain ⟨j, b⟩ := x
      simp only [hg] at h5
      cases hj : dsl[j]? with
      | none => simp [hj] at h5
      | some y =>
        cases y with
        | none => simp [hj] at h5
        | some d' => exact ⟨d', hj⟩

theorem reg_quiet (ds : List Deferred) {C : World → Prop} (hC : ∀ w', C w' → w'.heap = w.heap) {dsl : List (Option Tmp)} (hds : ∀ j : Nat, dsl[j]? = (ops[j]?).map (·.dst)) {Q : Array Value → Ch → Prop} {Q' : Act → Prop} {nm : Bool}
    (hQ : ∀ f ch r, Inv r f ch → Q f ch → Q' ⟨r, ds⟩) : ∀ (l : List Oper) (ch : Ch) (f r : Array Value), Inv r f ch → regOk dsl f.size l ch = true → reg nm P w dsl Q l ch f →
      wpQuiet P ops C Q' l ⟨r, ds⟩
  | [], ch, f, r, I, _, h => hQ f ch r I h
  | o :: rest, ch, f, r, I, hok, h => by
    unfold reg at h
    cases hd : o.dst with
    | none => simp [hd] at h
    | some d =>
      simp only [hd] at h
      obtain ⟨hlt, hop, hno, hno0, hgd, hrest⟩ := regOk_cons hd hok
      have hw := I.wanted (ops := ops) (o := o) hds hgd
      have hc0 : chainOf dsl ch o.guard = [] ∨ ∃ d' b, chainOf dsl ch o.guard = (d', b) :: look ch d' := by
        unfold chainOf
        cases hg : o.guard with
        | none => exact .inl rfl
        | some x =>
          obtain ⟨j, b⟩ := x
          rw [hg] at hgd
          obtain ⟨d', hd'⟩ := hgd
          exact .inr ⟨d', b, by simp [hd']⟩
      generalize hcc : chainOf dsl ch o.guard = c0 at *
      by_cases hp : presentR r c0
      · have hcond := h.1 (I.holds_of c0 hc0 hp)
        have I' : Inv (r.setIfInBounds d (opS P w f o nm).v) (f.setIfInBounds d (opS P w f o nm).v) (chStep ch d c0) :=
          I.step hlt hno hno0 hc0 (fun _ => rfl) (fun hn => absurd hp hn)
        unfold wpQuiet
        rw [if_pos (hw.2 hp)]
        refine ⟨(opS P w f o nm).v, fun w' hw' => ?_, ?_⟩
        · unfold Oper.quietAt
          have hcond' : (opS P w' f o nm).c := by rw [opS_alike (hC w' hw')]; exact hcond
          rw [run_opS (P := P) (w := w') I hop hp hcond', opS_alike (hC w' hw')]
          exact ⟨rfl, rfl⟩
        · rw [hd]
          exact reg_quiet ds hC hds hQ rest _ _ _ I' (by simpa using hrest) (by cases c0 <;> exact h.2)
      · have I' : Inv (r.setIfInBounds d undef) (f.setIfInBounds d (opS P w f o nm).v) (chStep ch d c0) :=
          I.step hlt hno hno0 hc0 (fun h => absurd h hp) (fun _ => rfl)
        unfold wpQuiet
        rw [if_neg (fun h => hp (hw.1 h))]
        rw [hd]
        exact reg_quiet ds hC hds hQ rest _ _ _ I' (by simpa using hrest) (by cases c0 <;> exact h.2)

theorem junk_getD (u : Nat → Value) : ∀ (ch : Ch) (f : Array Value) (t : Nat), (junk u ch f).getD t undef = if t < f.size ∧ (ch.any fun x => x.1 == t) = true then u t else f.getD t undef
  | [], f, t => by simp [junk]
  | (d, c) :: ch, f, t => by
    simp only [junk, junk_getD u ch, Array.size_setIfInBounds, List.any_cons]
    by_cases hdt : d = t
    · subst hdt
      by_cases hs : d < f.size
      · simp only [hs, beq_self_eq_true, Bool.true_or, and_self, if_true, true_and]
        split
        · rfl
        · exact getD_set_self hs
      · simp [hs, Array.getD_eq_getD_getElem?]
    · have : (d == t) = false := by simpa using hdt
      simp only [this, Bool.false_or]
      rw [getD_set_other hdt]
theorem junk_size (u : Nat → Value) : ∀ (ch : Ch) (f : Array Value), (junk u ch f).size = f.size
  | [], f => rfl
  | (d, c) :: ch, f => by simp [junk, junk_size u ch]

theorem Inv.junk {r f : Array Value} {ch : Ch} (I : Inv r f ch) : junk (fun t => r.getD t undef) ch f = r := by
  apply Array.ext
  · rw [junk_size, I.size]
  · intro i h1 h2
    have h := junk_getD (fun t => r.getD t undef) ch f i
    have e0 : ∀ (g : Array Value) (hg : i < g.size), g.getD i undef = g[i] := fun g hg => by rw [Array.getD_eq_getD_getElem?, Array.getElem?_eq_getElem hg]; rfl
    have e1 := e0 _ h1
    have e2 := e0 _ h2
    rw [e1] at h
    rw [h]
    by_cases hn : i < f.size ∧ (List.any ch fun x => x.fst == i) = true
    · rw [if_pos hn]; exact e2
    · rw [if_neg hn]
      have hl : look ch i = [] := by
        refine Classical.byContradiction fun hne => hn ⟨by rw [← I.size]; exact h2, ?_⟩
        rw [List.any_eq_true]
        exact ⟨_, look_mem hne, by simp⟩
      rw [← e2, I.val i (by rw [hl]; intro _ _ h; cases h)]

/-! ### Within a loop's round, and with deferred calls that stand -/
/-- Where code runs: the deferred calls that stand; the loop's round that it is of. -/
structure Ctx where
  ds : List Deferred
  r : Option Nat
abbrev top : Ctx := ⟨[], none⟩
def Ctx.F (X : Ctx) : Fence := { Fence.wide with round := X.r }
theorem top_F : top.F = Fence.wide := rfl

def noOut (Q : Exit → Act → World → Prop) : Exit → Act → World → Prop := fun e a w => e ≠ .outgrown ∧ Q e a w
theorem noOut_lets {Q : Exit → Act → World → Prop} : ¬ LetsOut (noOut Q) := fun ⟨_, _, h, _⟩ => h rfl

theorem calls_in (X : Ctx) {n : Nat} {f : FuncId} {args : Array Value} {w : World} {R : Ending → World → Prop} (h : Calls P f args w R) : CallsIn X.F n P f args w R :=
  (callsIn_wide.2 h : CallsIn Fence.wide n P f args w R)
theorem rows_in (X : Ctx) {n : Nat} {row : String} {args : Array Value} {w : World} {R : Value → World → Prop} (h : Rows P row args w R) : RowsIn X.F n P row args w R :=
  fun c cs _ => let ⟨v, w', r, s⟩ := h c cs; ⟨v, w', r, (stepsIn_wide.2 s : StepsIn (Machine.fenced P Fence.wide) P _ _)⟩

theorem op_lift (X : Ctx) {o : Oper} {a : Act} {w : World} {K : Act → World → Prop} {Q : Exit → Act → World → Prop} (hd : ∀ c, o.op ≠ .defer c) (h : o.wp P a w K (noOut Q)) : o.wpIn X.F 0 P a w K Q := by
  refine ⟨fun _ _ => trivial, ?_⟩
  rw [Oper.semAt_eq _ _ _ hd]
  unfold Oper.wp at h
  generalize (execOp a.eval o).run P w = r at *
  cases r with
  | ok x w' =>
    cases x <;> simp only [Oper.upon, Oper.uponIn] at h ⊢ <;>
      first
        | exact h
        | exact ⟨fun hd => by simp [Ctx.F, Fence.wide] at hd, (calls_in X h).mono fun e w'' he => by cases e <;> first | exact he | exact he.2 | exact absurd he noOut_lets⟩
        | exact ⟨fun hd => by simp [Ctx.F, Fence.wide] at hd, rows_in X h⟩
        | exact h.elim
  | halt x w' => cases x <;> simp only [Oper.upon, Oper.uponIn] at h ⊢ <;> first | exact h.2 | exact h.elim

theorem wpOp_lift (X : Ctx) {md : Region.Mode} {Q : Exit → Act → World → Prop} {i : Nat} {K : Act → World → Prop} {a : Act} {w : World} (hd : ∀ (i : Nat) (o : Oper) (c : Call), ops[i]? = some o → o.op ≠ .defer c) (h : wpOp P ops (noOut Q) i K a w) : wpOpIn X.F 0 P ops Q i K a w := by
  unfold wpOp at h
  unfold wpOpIn
  split
  · rename_i ho; simp only [ho] at h; exact h
  · rename_i o ho
    simp only [ho] at h
    split
    · rename_i hw
      rw [if_pos hw] at h
      exact op_lift X (fun c => hd i o c ho) (h.resolve_right fun h => noOut_lets h.2)
    · rename_i hw
      rw [if_neg hw] at h
      exact ⟨fun _ _ => trivial, h⟩

theorem wpAny_lift (X : Ctx) {md : Region.Mode} {Q : Exit → Act → World → Prop} (hd : ∀ (i : Nat) (o : Oper) (c : Call), ops[i]? = some o → o.op ≠ .defer c) : ∀ (fuel : Nat) (s : Array Bool) (a : Act) (w : World), wpAny P md ops (noOut Q) fuel s a w → wpAnyIn X.F 0 P md ops Q fuel s a w
  | 0, _, _, _, h => ⟨h.1, h.2.2⟩
  | fuel + 1, _, _, _, h => ⟨fun h0 => (h.1 h0).2, fun i hi => wpOpIn_mono (fun a w h => wpAny_lift X hd fuel _ a w h) (wpOp_lift (md := md) X hd (h.2 i hi))⟩

theorem wpList_lift (X : Ctx) {Q : Exit → Act → World → Prop} : ∀ (l : List Oper), (∀ o ∈ l, ∀ c, o.op ≠ .defer c) → ∀ (a : Act) (w : World), wpList P ops (noOut Q) l a w → wpListIn X.F 0 P ops Q l a w
  | [], _, _, _, h => h.2
  | o :: l, hd, a, w, h => by
    unfold wpList at h
    unfold wpListIn
    split
    · rename_i hw
      rw [if_pos hw] at h
      exact Oper.wpIn_mono (fun a w h => wpList_lift X l (fun o ho => hd o (by simp [ho])) a w h) (op_lift X (hd o (by simp)) (h.resolve_right fun h => noOut_lets h.2))
    · rename_i hw
      rw [if_neg hw] at h
      exact ⟨fun _ _ => trivial, wpList_lift X l (fun o ho => hd o (by simp [ho])) _ w h⟩

theorem opOk_nd {ch : Ch} {c0 : List (Nat × Bool)} {o : Oper} (h : opOk ch c0 o = true) : ∀ c, o.op ≠ .defer c := by
  intro c hc
  simp [opOk, hc] at h
theorem regOk_nd {dsl : List (Option Tmp)} {n : Nat} : ∀ {l : List Oper} {ch : Ch}, regOk dsl n l ch = true → ∀ o ∈ l, ∀ c, o.op ≠ .defer c
  | [], _, _, _, ho => by cases ho
  | o :: l, ch, h, o', ho => by
    cases hd : o.dst with
    | none => simp [regOk, hd] at h
    | some d =>
      obtain ⟨_, hop, _, _, _, hrest⟩ := regOk_cons hd h
      rcases List.mem_cons.1 ho with rfl | ho
      · exact opOk_nd hop
      · exact regOk_nd hrest o' ho
theorem nd_of_list {l : List Oper} (h : ∀ o ∈ l, ∀ c, o.op ≠ .defer c) : ∀ (i : Nat) o c, l.toArray[i]? = some o → o.op ≠ .defer c :=
  fun i o c ho => h o (List.mem_of_getElem? (by simpa using ho)) c

theorem wpIn_quiet (X : Ctx) {id : Nat} {l : List Oper} {C : World → Prop} {Q : Exit → Act → World → Prop} {a : Act} {w : World} (hm : P.follows .mixedOrders = true) (hB : Region.lexB .any l.toArray = true) (hd : ∀ o ∈ l, ∀ c, o.op ≠ .defer c)
    (hC : C { w with drawn := w.drawn + 1 }) (h : wpQuiet P l.toArray C (fun a' => ∀ w', C w' → Q .normal a' w') l a) : (Code.region id l.toArray true).wpIn X.F 0 P Q a w := by
  simp only [Region.lexB, Bool.and_eq_true] at hB
  refine wpIn_region_any hm (wpAny_lift X (nd_of_list hd) _ _ _ _ (wpAny_of_quiet (Q := fun a' => ∀ w', C w' → Q .normal a' w') (fun _ w' hw' h => ⟨by simp, h w' hw'⟩) _ _ _ _ hC ?_))
  have := wpAnyQ_lex (P := P) (C := C) (md := .any) hB.1 l.toArray.toList 0 (Array.replicate l.toArray.size false) a (by simp) (by simpa using hB.2) (by simpa using h)
  simpa using this

/-- A REGION THAT ONLY READS AND DRAWS ITS ORDER. -/
theorem region_draw (X : Ctx) {id : Nat} {l : List Oper} {Q : Exit → Act → World → Prop} {f : Array Value} (hm : P.follows .mixedOrders = true) (hB : Region.lexB .any l.toArray = true)
    (hok : regOk (l.map (·.dst)) f.size l [] = true)
    {nm : Bool} (h : reg nm P w (l.map (·.dst)) (fun f' ch => ∀ (u : Nat → Value) (n : Nat), Q .normal ⟨VC.junk u ch f', X.ds⟩ (w.drewN n)) l [] f) : (Code.region id l.toArray true).wpIn X.F 0 P Q ⟨f, X.ds⟩ w := by
  refine wpIn_quiet X (C := fun w' => ∃ n, w' = w.drewN n) hm hB (regOk_nd hok) ⟨1, rfl⟩ ?_
  refine reg_quiet X.ds (w := w) (dsl := l.map (·.dst)) (by rintro w' ⟨n, rfl⟩; rfl) (by simp) (fun f' ch r I hq => ?_) l [] f f (Inv.start f) hok h
  rintro w' ⟨n, rfl⟩
  have := hq (fun t => r.getD t undef) n
  rwa [I.junk] at this

theorem wpList_of_quiet {Q : Exit → Act → World → Prop} : ∀ (l : List Oper) (a : Act), wpQuiet P ops (fun w' => w' = w) (fun a => Q .normal a w) l a → wpList P ops Q l a w
  | [], a, h => h
  | o :: rest, a, h => by
    unfold wpQuiet at h
    unfold wpList
    split
    · rename_i hw
      rw [if_pos hw] at h
      exact .inl (Oper.wp_of_quiet (C := fun w' => w' = w) rfl (fun a' w' hw' hk => by rw [show w' = w from hw']; exact wpList_of_quiet rest a' hk) h)
    · rename_i hw
      rw [if_neg hw] at h
      exact wpList_of_quiet rest _ h

/-- A REGION THAT ONLY READS, in the text's order. -/
theorem region_plain (X : Ctx) {id : Nat} {l : List Oper} {Q : Exit → Act → World → Prop} {f : Array Value}
    (hok : regOk (l.map (·.dst)) f.size l [] = true)
    {nm : Bool} (h : reg nm P w (l.map (·.dst)) (fun f' ch => ∀ (u : Nat → Value), Q .normal ⟨VC.junk u ch f', X.ds⟩ w) l [] f) : (Code.region id l.toArray false).wpIn X.F 0 P Q ⟨f, X.ds⟩ w := by
  refine wpIn_region_lit (wpList_lift X l (regOk_nd hok) _ _ (wpList_of_quiet l _ ?_))
  refine reg_quiet X.ds (w := w) (dsl := l.map (·.dst)) (by rintro w' rfl; rfl) (by simp) (fun f' ch r I hq => ?_) l [] f f (Inv.start f) hok h
  have := hq (fun t => r.getD t undef)
  rw [I.junk] at this
  exact ⟨by simp, this⟩
end
end Go.VC

namespace Go.VC
open Go Go.RowKit

/-! ### Regions with effects, in the text's order; code -/
def stW (w : World) (a : Addr) : Nat → List Value → World
  | _, [] => w
  | i, v :: vs => stW (w.setCell (a.add i) v) a (i + 1) vs
def stOK (w : World) (a : Addr) : Nat → List Value → Prop
  | _, [] => True
  | i, v :: vs => (w.cell? (a.add i)).isSome = true ∧ w.frozen? (a.add i) = false ∧ v.oneCell' = true ∧ stOK w a (i + 1) vs

/-- A call of a Go function; what follows is not looked into. -/
def CALL (P : Program) (g : FuncId) (args : Array Value) (w : World) (K' : Value → World → Prop) : Tied K' :=
  Calls P g args w fun e w' => ∃ v, e = .returned v ∧ K' v w'

/-- An operation that is left to a law of its own. -/
def OPW (P : Program) (o : Oper) (f : Array Value) (w : World) (K' : Value → World → Prop) : Tied (o, K') :=
  ∀ (X : Ctx) (K : Act → World → Prop) (Q : Exit → Act → World → Prop), (∀ v w', K' v w' → K ((Act.mk f X.ds).put o.dst v) w') → o.wpIn X.F 0 P ⟨f, X.ds⟩ w K Q

def callee (f : Array Value) (c : Call) : Option (FuncId × Array Value) :=
  match c.callee with
  | .value x => match evo f x with
    | .func (.func g) first captured => some (g, first ++ c.args.map (evo f) ++ captured)
    | _ => none
  | _ => none

def callB (P : Program) (g : FuncId) : Bool := match P.funcs[g]? with | some fn => fn.name != "runtime.NumGoroutine" && fn.body.isSome | none => false

def eff (P : Program) (o : Oper) (f : Array Value) (w : World) (K' : Value → World → Prop) : Tied (o, K') :=
  match o.op with
  | .alloc e => match zco P e with
    | some z => K' (.pointer (some ⟨w.heap.size, 0, none⟩)) (w.alloc (.cells z.toArray e))
    | none => False
  | .box e x => K' (.pointer (some ⟨w.heap.size, 0, none⟩)) (w.alloc (.cells (evo f x).cells e))
  | .store t a x => match evo f a with
    | .pointer (some ad) => szo P t = some (evo f x).cells.size ∧ stOK w ad 0 (evo f x).cells.toList ∧ K' undef (stW w ad 0 (evo f x).cells.toList)
    | _ => False
  | .call c => match callee f c with
    | some (g, args) => callB P g = true ∧ CALL P g args w K'
    | none => match c.callee with
      | .builtin .len | .builtin .min | .builtin .max => (opP P w f o).c ∧ K' (opP P w f o).v w
      | _ => OPW P o f w K'
  | .buildSlice t 0 parts => match elo P t, kOf P t, parts.toList with
    | some (_, e), .s, [] => K' (.slice (some ⟨w.heap.size, 0, none⟩) 0 0) (w.alloc (.cells #[] e))
    | _, _, _ => False
  | .buildSlice t len parts => match elo P t, zco P ((elo P t).getD (0, 0)).2, kOf P t with
    | some (z, e), some zc, .s => match fillL ((List.range len).map fun i => (i * z, z)) (List.replicate len zc).flatten.toArray (parts.toList.map fun (i, x) => (i, evo f x)) with
      | some cs => zc.length = z ∧ 0 < z ∧ len * z ≤ 16777216 ∧ 0 < len ∧ K' (.slice (some ⟨w.heap.size, 0, none⟩) len len) (w.alloc (.cells cs e))
      | none => False
    | _, _, _ => False
  | .makeSlice .. | .makeMap .. | .mapUpdate .. | .lookup .. | .mapEntry .. | .entryStore .. | .insert .. | .range .. | .next .. | .entry _ | .typeAssert .. | .makeInterface .. | .index .. => OPW P o f w K'
  | _ => (opP P w f o).c ∧ K' (opP P w f o).v w


theorem rangeAt (n z j : Nat) : ((List.range n).map fun i => (i * z, z))[j]? = if j < n then some (j * z, z) else none := by
  by_cases h : j < n <;> simp [h]

theorem rangeAt1 (n j : Nat) : ((List.range n).map fun i => (i, 1))[j]? = if j < n then some (j, 1) else none := by
  by_cases h : j < n <;> simp [h]

def put (d : Option Tmp) (f : Array Value) (v : Value) : Array Value := match d with | some d => f.setIfInBounds d v | none => f

def seq (P : Program) (ds : List (Option Tmp)) (Q : Array Value → World → Prop) : List Oper → Array Value → World → Tied Q
  | [], f, w => Q f w
  | o :: rest, f, w =>
    match o.guard with
    | none => eff P o f w fun v w' => seq P ds Q rest (put o.dst f v) w'
    | some (j, want) => match ds[j]? with
      | some (some d) => match f.getD d undef with
        | .bool b => @ite Prop (b = want) _ (eff P o f w fun v w' => seq P ds Q rest (put o.dst f v) w') (seq P ds Q rest (put o.dst f undef) w)
        | _ => seq P ds Q rest (put o.dst f undef) w
      | _ => False
/-- What follows an operation. -/
def seqK (P : Program) (ds : List (Option Tmp)) (Q : Array Value → World → Prop) (rest : List Oper) (d : Option Tmp) (f : Array Value) (v : Value) (w' : World) : Tied (Q, rest) := seq P ds Q rest (put d f v) w'
theorem seq_nil {P : Program} {ds : List (Option Tmp)} {Q : Array Value → World → Prop} {f : Array Value} {w : World} : seq P ds Q [] f w = Q f w := rfl
theorem seq_cons {P : Program} {ds : List (Option Tmp)} {Q : Array Value → World → Prop} {o : Oper} {rest : List Oper} {f : Array Value} {w : World} : seq P ds Q (o :: rest) f w =
    match o.guard with
    | none => eff P o f w (seqK P ds Q rest o.dst f)
    | some (j, want) => match ds[j]? with
      | some (some d) => match f.getD d undef with
        | .bool b => @ite Prop (b = want) _ (eff P o f w (seqK P ds Q rest o.dst f)) (seq P ds Q rest (put o.dst f undef) w)
        | _ => seq P ds Q rest (put o.dst f undef) w
      | _ => False := rfl
theorem seqK_eq {P : Program} {ds : List (Option Tmp)} {Q : Array Value → World → Prop} {rest : List Oper} {d : Option Tmp} {f : Array Value} {v : Value} {w' : World} : seqK P ds Q rest d f v w' = seq P ds Q rest (put d f v) w' := rfl


def pureB : Op → Bool
  | .move _ | .assign _ | .pick .. | .load .. | .nilCheck _ | .binOp .. | .unOp .. | .convert .. | .slice .. | .fieldAddr .. | .field .. | .indexAddr .. | .extract .. | .makeFunc .. | .build .. => true
  | .call { callee := .builtin .len, .. } | .call { callee := .builtin .min, .. } | .call { callee := .builtin .max, .. } => true
  | .index _ (.const (.string _)) _ => true
  | _ => false

/-- What stands for a piece of code that is left to a rule of its own. -/
def WP (X : Ctx) (P : Program) (n : Nat) (c : Code) (Q : Exit → Array Value → World → Prop) (f : Array Value) (w : World) : Tied (c, Q) :=
  c.wpIn X.F 0 P (fun e a w => a.defers = X.ds ∧ a.tmps.size = n ∧ Q e a.tmps w) ⟨f, X.ds⟩ w

def thenF (next : Array Value → World → Prop) (Q : Exit → Array Value → World → Prop) : Exit → Array Value → World → Tied (next, Q)
  | .normal, f, w => next f w
  | e, f, w => Q e f w
def blkF (id : Nat) (Q : Exit → Array Value → World → Prop) : Exit → Array Value → World → Tied Q
  | .exit i, f, w => if i = id then Q .normal f w else Q (.exit i) f w
  | e, f, w => Q e f w


/-- What follows a region that only reads. -/
def regQ (draw : Bool) (w : World) (Q : Array Value → World → Prop) (f' : Array Value) (ch : Ch) : Tied Q :=
  ∀ u : Nat → Value, if draw then ∀ m, Q (junk u ch f') (w.drewN m) else Q (junk u ch f') w


def vc (X : Ctx) (P : Program) (n : Nat) : (c : Code) → (Q : Exit → Array Value → World → Prop) → Array Value → World → Tied (c, Q)
  | .skip, Q, f, w => Q .normal f w
  | .seq a b, Q, f, w => vc X P n a (thenF (vc X P n b Q) Q) f w
  | .cond c t e, Q, f, w => match evo f c with
    | .bool b => @ite Prop (b = true) _ (vc X P n t Q f w) (vc X P n e Q f w)
    | _ => False
  | .block id body, Q, f, w => vc X P n body (blkF id Q) f w
  | .exit id, Q, f, w => Q (.exit id) f w
  | .ret, Q, f, w => Q .ret f w
  | .region id ops draw, Q, f, w =>
    if ops.toList.all fun o => pureB o.op then
      reg (ops.toList.all fun o => nomulB o.op) P w (ops.toList.map (·.dst)) (regQ draw w (Q .normal)) ops.toList [] f
    else if draw then WP X P n (.region id ops draw) Q f w
    else seq P (ops.toList.map (·.dst)) (Q .normal) ops.toList f w
  | c, Q, f, w => WP X P n c Q f w

/-- The closed test of a function's code. -/
def codeOk (n : Nat) : Code → Bool
  | .seq a b => codeOk n a && codeOk n b
  | .cond _ t e => codeOk n t && codeOk n e
  | .block _ body => codeOk n body
  | .loop body => codeOk n body
  | .region _ ops draw =>
    if ops.toList.all fun o => pureB o.op then regOk (ops.toList.map (·.dst)) n ops.toList [] && (!draw || Region.lexB .any ops.toList.toArray)
    else ops.toList.all fun o => opOk [] [] o
  | _ => true

section
variable {P : Program} {w : World}
theorem run_storeCells_st (a : Addr) : ∀ (vs : List Value) (i : Nat) (w : World), stOK w a i vs → (storeCells a vs i).run P w = .ok () (stW w a i vs)
  | [], _, _, _ => rfl
  | v :: vs, i, w, h => by
    obtain ⟨h1, h2, h3, h4⟩ := h
    obtain ⟨u, hu⟩ := Option.isSome_iff_exists.1 h1
    have hst : (store (a.add i) v).run P w = .ok () (w.setCell (a.add i) v) := by
      rw [run_store P w (a.add i) v .plain h3]; simp [hu, h2]
    have hok : ∀ (vs : List Value) (j : Nat), stOK w a j vs → stOK (w.setCell (a.add i) v) a j vs := by
      intro vs
      induction vs with
      | nil => intro _ _; trivial
      | cons x vs ih =>
        rintro j ⟨g1, g2, g3, g4⟩
        refine ⟨?_, by rw [World.frozen?_setCell]; exact g2, g3, ih _ g4⟩
        by_cases hne : a.add i = a.add j
        · rw [← hne, World.cell?_setCell_same w (a.add i) v hu]; rfl
        · rw [World.cell?_setCell_other _ _ _ _ hne]; exact g1
    simp only [storeCells, Sem.run_bind, hst, Result.andThen_ok, stW]
    exact run_storeCells_st a vs (i + 1) _ (hok vs (i + 1) h4)

theorem run_callFunc {g : FuncId} {args : Array Value} (h : callB P g = true) (w : World) : (callFunc g args).run P w = .ok (.enter g args) w := by
  unfold callB at h
  split at h
  · rename_i fn hf
    simp only [Bool.and_eq_true, bne_iff_ne, ne_eq] at h
    obtain ⟨c, hc⟩ := Option.isSome_iff_exists.1 h.2
    simp [callFunc, hf, h.1, hc]
  · cases h

theorem zco_run {t : TypeId} {z : List Value} (h : zco P t = some z) : ∃ v, v.cells.toList = z ∧ ∀ w, (zeroValue t).run P w = .ok v w := by
  unfold zco at h
  obtain ⟨v, hv, rfl⟩ := Option.map_eq_some_iff.1 h
  obtain ⟨i, hi, hz⟩ := Option.bind_eq_some_iff.1 hv
  exact ⟨v, rfl, fun w => by simp [zeroValue, typeInfo, hi, hz]⟩

theorem wp_pure {o : Oper} {f : Array Value} {K : Act → World → Prop} {Q : Exit → Act → World → Prop} (hok : opOk [] [] o = true) (hc : (opP P w f o).c) (X : Ctx) (hK : K ((Act.mk f X.ds).put o.dst (opP P w f o).v) w) :
    o.wpIn X.F 0 P ⟨f, X.ds⟩ w K Q := by
  have := run_opP (P := P) (w := w) (Inv.start f) hok (c0 := []) (fun _ _ h => by cases h) hc X.ds
  refine op_lift X (opOk_nd hok) ?_
  unfold Oper.wp
  rw [this]
  exact hK

theorem CALL_wp {g : FuncId} {args : Array Value} {K' : Value → World → Prop} {K : Value → World → Prop} {R : Ending → World → Prop} (h : CALL P g args w K') (hK : ∀ v w', K' v w' → K v w') (hR : ∀ v w', K v w' → R (.returned v) w') : Calls P g args w R :=
  Calls.mono h fun e w' ⟨v, he, hk⟩ => by rw [he]; exact hR v w' (hK v w' hk)

theorem madeFlat (zc : List Value) (_h : 0 < zc.length) (n : Nat) : ((Array.range (n * zc.length)).map fun x => zc.toArray[x % zc.toArray.size]!) = (List.replicate n zc).flatten.toArray := by
  apply Array.toList_inj.1
  rw [Array.toList_map, Array.toList_range]
  show (List.range (n * zc.length)).map _ = (List.replicate n zc).flatten
  induction n with
  | zero => simp
  | succ n ih =>
    rw [Nat.succ_mul, List.range_add, List.map_append, ih, List.replicate_succ', List.flatten_append]
    congr 1
    simp only [List.map_map, List.flatten_cons, List.flatten_nil, List.append_nil]
    apply List.ext_getElem
    · simp
    · intro i h1 h2
      have hi : i < zc.length := by simpa using h1
      simp [Nat.add_mod, Nat.mod_eq_of_lt hi, hi]

theorem eff_wp (X : Ctx) {o : Oper} {f : Array Value} {K' : Value → World → Prop} {K : Act → World → Prop} {Q : Exit → Act → World → Prop} (hsel : opOk [] [] o = true) (h : eff P o f w K')
    (hK : ∀ v w', K' v w' → K ((Act.mk f X.ds).put o.dst v) w') : o.wpIn X.F 0 P ⟨f, X.ds⟩ w K Q := by
  unfold eff at h
  split at h
  · rename_i e ho
    split at h
    · rename_i z hz
      obtain ⟨v, hv, hrun⟩ := zco_run hz
      have hv' : v.cells = z.toArray := by rw [← hv]
      refine op_lift X (opOk_nd hsel) ?_
      unfold Oper.wp
      have hr : (execOp (Act.mk f X.ds).eval o).run P w = .ok (.value (.pointer (some ⟨w.heap.size, 0, none⟩))) (w.alloc (.cells z.toArray e)) := by
        simp only [execOp, ho, Instr.alloc, Sem.run_bind, hrun, Result.andThen_ok, newVar, newRow, run_newObj, Sem.run_pure, hv']
        rfl
      rw [hr]
      exact hK _ _ h
    · exact h.elim
  · rename_i e x ho
    refine op_lift X (opOk_nd hsel) ?_
    unfold Oper.wp
    have hr : (execOp (Act.mk f X.ds).eval o).run P w = .ok (.value (.pointer (some ⟨w.heap.size, 0, none⟩))) (w.alloc (.cells (evo f x).cells e)) := by
      rw [← evo_eq]
      simp only [execOp, ho, Instr.box, Sem.run_bind, Result.andThen_ok, newVar, newRow, run_newObj, Sem.run_pure]
      rfl
    rw [hr]
    exact hK _ _ h
  · rename_i t a x ho
    split at h
    · rename_i ad ha
      obtain ⟨h1, h2, h3⟩ := h
      refine op_lift X (opOk_nd hsel) ?_
      unfold Oper.wp
      have hr : (execOp (Act.mk f X.ds).eval o).run P w = .ok .skip (stW w ad 0 (evo f x).cells.toList) := by
        rw [← evo_eq]
        simp only [execOp, ho, ha, Instr.storeAt, Instr.sureAddr, Sem.run_bind, Result.andThen_ok, storeVar, szo_run h1, Sem.run_pure]
        simp [run_storeCells_st (P := P) ad _ 0 w h2]
      rw [hr]
      exact hK _ _ h3
    · exact h.elim
  · rename_i c ho
    split at h
    · rename_i g args hcl
      obtain ⟨h1, h2⟩ := h
      unfold callee at hcl
      split at hcl
      case h_2 => cases hcl
      rename_i x hx
      split at hcl
      case h_2 => cases hcl
      rename_i g' first captured hf
      simp only [Option.some.injEq, Prod.mk.injEq] at hcl
      obtain ⟨rfl, rfl⟩ := hcl
      refine op_lift X (opOk_nd hsel) ?_
      unfold Oper.wp
      have hr : (execOp (Act.mk f X.ds).eval o).run P w = .ok (.enter g' (first ++ c.args.map (evo f) ++ captured)) w := by
        rw [← evo_eq]
        simp only [execOp, ho, resolve, hx, hf, Deferred.ofValue, invoke, Sem.run_bind, Sem.run_pure, Result.andThen_ok, run_callFunc h1]
      rw [hr]
      exact CALL_wp (K := fun v w' => K ((Act.mk f X.ds).put o.dst v) w') h2 hK (fun v w' hk => hk)
    · split at h
      · exact wp_pure hsel h.1 X (hK _ _ h.2)
      · exact wp_pure hsel h.1 X (hK _ _ h.2)
      · exact wp_pure hsel h.1 X (hK _ _ h.2)
      · exact h X K Q hK
  · rename_i t parts ho
    split at h
    · rename_i z e hel hk hp
      obtain ⟨he, hsz⟩ := elo_spec hel hk
      refine op_lift X (opOk_nd hsel) ?_
      unfold Oper.wp
      have hpe : parts = #[] := by rw [← Array.toList_inj, hp]
      have hr : (execOp (Act.mk f X.ds).eval o).run P w = .ok (.value (.slice (some ⟨w.heap.size, 0, none⟩) 0 0)) (w.alloc (.cells #[] e)) := by
        have h0 : ∀ g : Nat → Value, (Array.range 0).map g = #[] := fun g => Array.eq_empty_of_size_eq_zero (by simp)
        simp [execOp, ho, Instr.buildSlice, run_underlying he, szo_run hsz, hpe, Instr.fill, newRow, run_newObj, h0]
      rw [hr]
      exact hK _ _ h
    · exact h.elim
  · rename_i t len parts hlen0 ho
    split at h
    · rename_i z e zc hel hz hk
      rw [hel] at hz
      obtain ⟨he, hsz⟩ := elo_spec hel hk
      obtain ⟨v, hv, hzr0⟩ := zco_run hz
      have hzr : ∀ w, (zeroValue e).run P w = .ok v w := hzr0
      split at h
      · rename_i cs hcs
        obtain ⟨h1, h2, h3, h4, h5⟩ := h
        refine op_lift X (opOk_nd hsel) ?_
        unfold Oper.wp
        have hvc : v.cells = zc.toArray := by rw [← hv]
        have hfill := fillL_eq _ _ _ _ hcs
        have hfill2 : Instr.fill (fun i => some (i * z, z)) (List.replicate len zc).flatten.toArray (parts.map fun x => (x.1, evo f x.2)).toList = some cs := by
          have hgo : ∀ (ps : List (Nat × Value)) (cs0 r : Array Value), fillL ((List.range len).map fun i => (i * z, z)) cs0 ps = some r → Instr.fill (fun i => some (i * z, z)) cs0 ps = some r := by
            intro ps
            induction ps with
            | nil => intro cs0 r h; exact h
            | cons p ps ih =>
              intro cs0 r h
              obtain ⟨i, v⟩ := p
              simp only [fillL] at h
              simp only [Instr.fill]
              split at h
              · cases h
              · rename_i off size hp
                simp only [List.getElem?_map, Option.map_eq_some_iff, List.getElem?_range, Prod.mk.injEq] at hp
                obtain ⟨a, ha, rfl, rfl⟩ := hp
                have hai : i = a := by
                  have := List.getElem?_eq_some_iff.1 ha
                  obtain ⟨hl, hh⟩ := this
                  simpa using hh
                subst hai
                split at h
                · rename_i hc
                  have h1 : (decide (v.cells.size ≠ z) || decide (i * z + v.cells.size > cs0.size)) = false := by
                    simp only [Bool.or_eq_false_iff, decide_eq_false_iff_not]; omega
                  simp only [h1]
                  rw [← Array.foldl_toList, Array.toList_zipIdx, putL_eq _ (i * z) (by intros; rfl)]
                  exact ih _ r h
                · cases h
          rw [Array.toList_map]
          exact hgo _ _ _ (by simpa using hcs)
        have hz0 : ¬ len * z = 0 := by
          intro h0; rcases Nat.mul_eq_zero.1 h0 with h0 | h0 <;> omega
        have hr : (execOp (Act.mk f X.ds).eval o).run P w = .ok (.value (.slice (some ⟨w.heap.size, 0, none⟩) len len)) (w.alloc (.cells cs e)) := by
          rw [← evo_eq]
          have hm : ((Array.range (len * z)).map fun x => zc.toArray[x % zc.toArray.size]!) = (List.replicate len zc).flatten.toArray := by
            rw [← h1]; exact madeFlat zc (by omega) len
          have hlt : ¬ 16777216 < len * z := by omega
          simp only [execOp, ho, Instr.buildSlice, Sem.run_bind, run_underlying he, Result.andThen_ok, szo_run hsz, hz0, if_false, hzr, hvc, Sem.run_pure, Sem.run_ite, hm, hfill2, newRow, run_newObj]
          have hfill3 : Instr.fill (fun i => some (i * z, z)) (List.replicate len zc).flatten.toArray (List.map (fun x => (x.1, evo f x.2)) parts.toList) = some cs := by rw [← hfill2, Array.toList_map]
          simp only [hfill3, Sem.run_bind, Sem.run_pure, Result.andThen_ok, Array.toList_map, hlt, if_false]
          simp [hfill3, hlt]
        rw [hr]
        exact hK _ _ h5
      · exact h.elim
    · exact h.elim
  all_goals first | exact h X K Q hK | exact wp_pure hsel h.1 X (hK _ _ h.2)

theorem put_size (d : Option Tmp) (f : Array Value) (v : Value) : (put d f v).size = f.size := by cases d <;> simp [put]
theorem put_act (ds : List Deferred) (d : Option Tmp) (f : Array Value) (v : Value) : (Act.mk f ds).put d v = ⟨put d f v, ds⟩ := by cases d <;> rfl

theorem wanted_eq {ops : Array Oper} {dsl : List (Option Tmp)} (hds : ∀ j : Nat, dsl[j]? = (ops[j]?).map (·.dst)) {o : Oper} {j : Nat} {want : Bool} {d : Tmp} (hg : o.guard = some (j, want)) (hd : dsl[j]? = some (some d)) (f : Array Value) :
    Region.wanted o (yielded ops f) = (match f.getD d undef with | .bool b => b == want | _ => false) := by
  have ho : (ops[j]?).bind (·.dst) = some d := by
    rw [hds] at hd
    cases h : ops[j]? with
    | none => rw [h] at hd; simp at hd
    | some o' => rw [h] at hd; simpa using hd
  unfold Region.wanted
  simp only [hg, yielded, ho, Option.bind_some]
  rw [Array.getD_eq_getD_getElem?]
  cases h : f[d]? with
  | none => simp [undef]
  | some v => cases v <;> simp

theorem seq_wp (X : Ctx) {ops : Array Oper} {dsl : List (Option Tmp)} (hds : ∀ j : Nat, dsl[j]? = (ops[j]?).map (·.dst)) {Q : Array Value → World → Prop} {Q' : Exit → Act → World → Prop} {n : Nat}
    (hQ : ∀ f w, f.size = n → Q f w → Q' .normal ⟨f, X.ds⟩ w) : ∀ (l : List Oper) (f : Array Value) (w : World), f.size = n → (l.all fun o => opOk [] [] o) = true → seq P dsl Q l f w → wpListIn X.F 0 P ops Q' l ⟨f, X.ds⟩ w
  | [], f, w, hs, _, h => hQ f w hs h
  | o :: rest, f, w, hs, hok, h => by
    simp only [List.all_cons, Bool.and_eq_true] at hok
    obtain ⟨ho, hrest⟩ := hok
    have go : eff P o f w (fun v w' => seq P dsl Q rest (put o.dst f v) w') → o.wpIn X.F 0 P ⟨f, X.ds⟩ w (wpListIn X.F 0 P ops Q' rest) Q' := fun h =>
      eff_wp X ho h fun v w' hk => by rw [put_act]; exact seq_wp X hds hQ rest _ w' (by rw [put_size]; exact hs) hrest hk
    have sk : seq P dsl Q rest (put o.dst f undef) w → wpListIn X.F 0 P ops Q' rest ((Act.mk f X.ds).put o.dst undef) w := fun h => by
      rw [put_act]; exact seq_wp X hds hQ rest _ w (by rw [put_size]; exact hs) hrest h
    unfold seq at h
    unfold wpListIn
    cases hg : o.guard with
    | none =>
      simp only [hg] at h
      rw [if_pos (by simp [Region.wanted, hg])]
      exact go h
    | some x =>
      obtain ⟨j, want⟩ := x
      simp only [hg] at h
      split at h
      · rename_i d hd
        have hw := wanted_eq hds hg hd f
        split at h
        · rename_i b hb
          rw [hb] at hw
          by_cases hbw : b = want
          · rw [if_pos (by rw [hw]; simpa using hbw)]
            rw [if_pos hbw] at h
            exact go h
          · rw [if_neg (by rw [hw]; simpa using hbw)]
            rw [if_neg hbw] at h
            exact ⟨fun _ _ => trivial, sk h⟩
        · rename_i hb
          have : Region.wanted o (yielded ops f) = false := by
            rw [hw]; split
            · rename_i b hb'; exact absurd hb' (hb b)
            · rfl
          rw [if_neg (by rw [this]; simp)]
          exact ⟨fun _ _ => trivial, sk h⟩
      · exact h.elim

/-- THE GENERATOR IS SOUND. -/
theorem vc_sound (X : Ctx) (hm : P.follows .mixedOrders = true) {n : Nat} : ∀ (c : Code) (Q : Exit → Array Value → World → Prop) (f : Array Value) (w : World), f.size = n → codeOk n c = true → vc X P n c Q f w → WP X P n c Q f w
  | .skip, Q, f, w, hs, _, h => wpIn_skip ⟨rfl, hs, h⟩
  | .seq a b, Q, f, w, hs, hok, h => by
    simp only [codeOk, Bool.and_eq_true] at hok
    refine wpIn_seq (wpIn_mono (vc_sound X hm a _ f w hs hok.1 h) ?_)
    rintro e ⟨f', ds⟩ w' ⟨hd, hs', hq⟩
    simp only at hd hs' hq
    subst hd
    cases e with
    | normal => exact vc_sound X hm b Q f' w' hs' hok.2 hq
    | _ => exact ⟨rfl, hs', hq⟩
  | .cond c t e, Q, f, w, hs, hok, h => by
    simp only [codeOk, Bool.and_eq_true] at hok
    unfold vc at h
    split at h
    · rename_i b hb
      rw [evo_eq f []] at hb
      refine wpIn_cond_split hb (fun ht => ?_) (fun ht => ?_)
      · rw [if_pos ht] at h; exact vc_sound X hm t Q f w hs hok.1 h
      · rw [if_neg (by rw [ht]; simp)] at h; exact vc_sound X hm e Q f w hs hok.2 h
    · exact h.elim
  | .block id body, Q, f, w, hs, hok, h => by
    refine wpIn_block (wpIn_mono (vc_sound X hm body _ f w hs (by simpa [codeOk] using hok) h) ?_)
    rintro e a w' ⟨hd, hs', hq⟩
    cases e with
    | exit i =>
      simp only [blkF] at hq
      simp only [Exit.inBlock]
      split
      · rename_i hi; rw [if_pos hi] at hq; exact ⟨hd, hs', hq⟩
      · rename_i hi; rw [if_neg hi] at hq; exact ⟨hd, hs', hq⟩
    | _ => exact ⟨hd, hs', hq⟩
  | .exit id, Q, f, w, hs, _, h => wpIn_exit ⟨rfl, hs, h⟩
  | .ret, Q, f, w, hs, _, h => wpIn_ret ⟨rfl, hs, h⟩
  | .region id ops draw, Q, f, w, hs, hok, h => by
    unfold vc at h
    unfold codeOk at hok
    have hops : ops = ops.toList.toArray := by simp
    split at h
    · rename_i hp
      rw [if_pos hp] at hok
      simp only [Bool.and_eq_true, Bool.or_eq_true, Bool.not_eq_true'] at hok
      obtain ⟨h1, h2⟩ := hok
      rw [← hs] at h1
      unfold WP
      have hj : ∀ (u : Nat → Value) ch f', (junk u ch f').size = f'.size := fun u ch f' => junk_size u ch f'
      have key : ∀ (Q1 Q2 : Array Value → Ch → Prop), (∀ f' ch, f'.size = n → Q1 f' ch → Q2 f' ch) → ∀ (l : List Oper) (ch : Ch) (f : Array Value), f.size = n → reg (ops.toList.all fun o => nomulB o.op) P w (ops.toList.map (·.dst)) Q1 l ch f → reg (ops.toList.all fun o => nomulB o.op) P w (ops.toList.map (·.dst)) Q2 l ch f := by
        intro Q1 Q2 hQ l
        induction l with
        | nil => intro ch f hf h; exact hQ f ch hf h
        | cons o l ih =>
          intro ch f hf h
          unfold reg at h ⊢
          split
          · rename_i hd; simp [hd] at h
          · rename_i d hd
            simp only [hd] at h
            exact ⟨h.1, ih _ _ (by simpa using hf) h.2⟩
      cases draw with
      | true =>
        rw [hops]
        refine region_draw X hm (by simpa using h2) h1 (key _ _ ?_ _ _ _ hs h)
        intro f' ch hf' hq u m
        have hq2 := hq u
        rw [if_pos rfl] at hq2
        exact ⟨rfl, by rw [← hf']; exact hj u ch f', hq2 m⟩
      | false =>
        rw [hops]
        refine region_plain X h1 (key _ _ ?_ _ _ _ hs h)
        intro f' ch hf' hq u
        have hq2 := hq u
        rw [if_neg (by simp)] at hq2
        exact ⟨rfl, by rw [← hf']; exact hj u ch f', hq2⟩
    · rename_i hp
      rw [if_neg hp] at hok
      split at h
      · exact h
      · rename_i hdr
        have : draw = false := by simpa using hdr
        subst this
        unfold WP
        rw [hops]
        refine wpIn_region_lit (seq_wp X (dsl := ops.toList.map (·.dst)) (by simp) (fun f' w' hf' hq => ⟨rfl, hf', hq⟩) ops.toList f w hs hok h)
  | .loop _, Q, f, w, _, _, h => h
  | .rangeFunc .., Q, f, w, _, _, h => h
  | .scope _, Q, f, w, _, _, h => h
  | .label _, Q, f, w, _, _, h => h
  | .goto _, Q, f, w, _, _, h => h
  | .refuse _, Q, f, w, _, _, h => h

/-! ### A function's end and its entry -/
def resV (P : Program) (w : World) (f : Array Value) : List ResultVar → Prop × List Value
  | [] => (True, [])
  | .tmp t :: r => ((resV P w f r).1, f.getD t undef :: (resV P w f r).2)
  | .cell a t :: r => ((ldv P w t (f.getD a undef)).c ∧ (resV P w f r).1, (ldv P w t (f.getD a undef)).v :: (resV P w f r).2)
def oneV : List Value → Value
  | [v] => v
  | vs => .tuple vs.toArray
def retF (P : Program) (rs : List ResultVar) (R : Ending → World → Prop) : Exit → Array Value → World → Tied R
  | .normal, f, w | .ret, f, w => (resV P w f rs).1 ∧ R (.returned (oneV (resV P w f rs).2)) w
  | _, _, _ => False


theorem run_results_list (f : Array Value) : ∀ (rs : List ResultVar), (resV P w f rs).1 →
    (rs.mapM fun x => (match x with | .tmp t => pure (f.getD t undef) | .cell a t => do loadVar t (← asAddr (f.getD a undef)) : Sem Value)).run P w = .ok (resV P w f rs).2 w
  | [], _ => by simp [resV]
  | .tmp t :: r, h => by
    simp only [List.mapM_cons, Sem.run_bind, Sem.run_pure, Result.andThen_ok, run_results_list f r h, resV]
  | .cell a t :: r, h => by
    obtain ⟨h1, h2⟩ := h
    have hl := run_ldv (P := P) (w := w) h1
    have hp : ∃ ad, f.getD a undef = .pointer (some ad) := by
      unfold ldv at h1
      split at h1
      · exact ⟨_, by assumption⟩
      · exact h1.elim
    obtain ⟨ad, hp⟩ := hp
    rw [hp] at hl
    simp only [Instr.loadAt, Instr.sureAddr, Sem.run_bind, Sem.run_pure, Result.andThen_ok] at hl
    have ih := run_results_list f r h2
    have hp2 : (asAddr (f.getD a undef)).run P w = .ok ad w := by rw [hp]; rfl
    have hl2 : (loadVar t ad).run P w = .ok (ldv P w t (f.getD a undef)).v w := by rw [hl, hp]
    simp only [List.mapM_cons, Sem.run_bind, Sem.run_pure, Result.andThen_ok, hp2, resV, hl2, ih]

theorem run_results (fn : Func) (f : Array Value) (h : (resV P w f fn.results.toList).1) : (results fn f).run P w = .ok (oneV (resV P w f fn.results.toList).2) w := by
  have hm := run_results_list (P := P) (w := w) f fn.results.toList h
  unfold results
  rw [Array.mapM_eq_mapM_toList]
  simp only [Sem.run_bind, Sem.run_map]
  erw [hm]
  simp only [Result.andThen_ok]
  generalize (resV P w f fn.results.toList).2 = vs
  match vs with
  | [] => simp [oneV]
  | [v] => simp [oneV]
  | v :: v' :: vs => simp [oneV]

/-- A CALL OF A FUNCTION BY THE FORMULA OF ITS BODY. -/
theorem calls_vc (hm : P.follows .mixedOrders = true) {g : FuncId} {fn : Func} {c : Code} {n : Nat} {rs : List ResultVar} {args : Array Value} {R : Ending → World → Prop} (hf : P.funcs[g]? = some fn) (hb : fn.body = some c) (hn : fn.ntmps = n)
    (hrs : fn.results.toList = rs) (hok : codeOk n c = true) (hsz : args.size ≤ n) (h : vc top P n c (retF P rs R) (args ++ Array.replicate (n - args.size) undef) w) : Calls P g args w R := by
  subst hrs
  refine calls_of_wp hf hb ?_
  rw [hn]
  refine (wpIn_wide (n := 0)).1 (wpIn_mono (F := Fence.wide) (vc_sound top hm c _ _ w (by simp; omega) hok h) ?_)
  rintro e a w' ⟨hd, _, hq⟩
  cases e with
  | normal => exact ⟨hd, _, run_results fn a.tmps hq.1, hq.2⟩
  | ret => exact ⟨hd, _, run_results fn a.tmps hq.1, hq.2⟩
  | _ => exact hq.elim

/-! ### Loops -/
theorem loop_rule (X : Ctx) {n : Nat} {body : Code} {Q : Exit → Array Value → World → Prop} {f : Array Value} (hs : f.size = n)
    (I : Nat → Array Value → World → Prop) (m0 : Nat) (h0 : I m0 f w)
    (hr : ∀ m f w, f.size = n → I m f w → WP X P n body (thenF (fun f' w' => ∃ m', m' < m ∧ I m' f' w') Q) f w) : WP X P n (.loop body) Q f w := by
  have least : ∀ (f : Array Value) (w : World), (∃ m, I m f w) → ∃ m, I m f w ∧ ∀ m', m' < m → ¬ I m' f w := by
    intro f w ⟨m, hm⟩
    induction m using Nat.strongRecOn with
    | _ m ih =>
      by_cases h : ∃ m', m' < m ∧ I m' f w
      · obtain ⟨m', h1, h2⟩ := h; exact ih m' h1 h2
      · exact ⟨m, hm, fun m' h1 h2 => h ⟨m', h1, h2⟩⟩
  classical
  refine wpIn_loop (fun a w => a.defers = X.ds ∧ a.tmps.size = n ∧ ∃ m, I m a.tmps w) (fun a w => if h : ∃ m, I m a.tmps w then (least a.tmps w h).choose else 0) ⟨rfl, hs, m0, h0⟩ ?_
  rintro ⟨f1, ds1⟩ w1 ⟨hd, hs1, hI⟩
  simp only at hd hs1 hI
  subst hd
  obtain ⟨h1, h2⟩ := (least f1 w1 hI).choose_spec
  refine wpIn_mono (hr _ f1 w1 hs1 h1) ?_
  rintro e a w2 ⟨hd, hsz, hq⟩
  cases e with
  | normal =>
    obtain ⟨m', hlt, hI'⟩ := hq
    refine ⟨⟨hd, hsz, m', hI'⟩, ?_⟩
    simp only
    rw [dif_pos hI, dif_pos ⟨m', hI'⟩]
    obtain ⟨h3, h4⟩ := (least a.tmps w2 ⟨m', hI'⟩).choose_spec
    exact Nat.lt_of_le_of_lt (Nat.le_of_not_lt fun h => h4 m' h hI') hlt
  | _ => exact ⟨hd, hsz, hq⟩

def setAll : Array Value → List Nat → List Value → Array Value
  | f, t :: ts, v :: vs => setAll (f.setIfInBounds t v) ts vs
  | f, _, _ => f
/-- The frame f, the slots 'jk' anything, the slots 'nm' given. -/
def mixF (f : Array Value) (nm : List Nat) (vs : List Value) (jk : List Nat) (u : Nat → Value) : Array Value := setAll (setAll f jk (jk.map u)) nm vs
/-- Outside the slots that a loop writes the frame is as it was. -/
def SAME (f f' : Array Value) (nm jk : List Nat) : Prop := f' = mixF f nm (nm.map fun t => f'.getD t undef) jk (fun t => f'.getD t undef)
theorem SAME.intro {f f' : Array Value} {nm jk : List Nat} (h : f' = mixF f nm (nm.map fun t => f'.getD t undef) jk (fun t => f'.getD t undef)) : SAME f f' nm jk := h

theorem setAll_size : ∀ (ts : List Nat) (vs : List Value) (f : Array Value), (setAll f ts vs).size = f.size
  | [], _, f => by simp [setAll]
  | t :: ts, [], f => by simp [setAll]
  | t :: ts, v :: vs, f => by simp [setAll, setAll_size ts vs]
theorem setAll_self (f : Array Value) : ∀ (ts : List Nat), setAll f ts (ts.map fun t => f.getD t undef) = f
  | [] => by simp [setAll]
  | t :: ts => by
    have h : f.setIfInBounds t (f.getD t undef) = f := by
      by_cases ht : t < f.size
      · apply Array.ext
        · simp
        · intro i h1 h2
          rw [Array.getElem_setIfInBounds]
          split
          · rename_i hi; subst hi; rfl
          · rfl
      · exact Array.setIfInBounds_eq_of_size_le (by omega)
    simp only [List.map_cons, setAll, h, setAll_self f ts]

theorem setAll_of (f' : Array Value) : ∀ (ts : List Nat) (g : Array Value), g.size = f'.size → (∀ t, t ∉ ts → f'.getD t undef = g.getD t undef) → setAll g ts (ts.map fun t => f'.getD t undef) = f'
  | [], g, hs, h => by
    simp only [setAll]
    apply Array.ext
    · exact hs
    · intro i h1 h2
      have := h i (by simp)
      rw [Array.getD_eq_getD_getElem?, Array.getElem?_eq_getElem h2, Array.getD_eq_getD_getElem?, Array.getElem?_eq_getElem h1] at this
      exact this.symm
  | t :: ts, g, hs, h => by
    simp only [List.map_cons, setAll]
    refine setAll_of f' ts _ (by simpa using hs) fun t' ht' => ?_
    by_cases e : t = t'
    · subst e
      by_cases hlt : t < g.size
      · rw [getD_set_self hlt]
      · have h2 : ¬ t < f'.size := by omega
        simp [Array.getD_eq_getD_getElem?, hlt, h2]
    · rw [getD_set_other e]
      exact h t' (by simp [ht', Ne.symm e])
theorem setAll_out : ∀ (ts : List Nat) (vs : List Value) (g : Array Value) (t : Nat), t ∉ ts → (setAll g ts vs).getD t undef = g.getD t undef
  | [], _, g, t, _ => by simp [setAll]
  | t1 :: ts, [], g, t, _ => by simp [setAll]
  | t1 :: ts, v :: vs, g, t, h => by
    simp only [List.mem_cons, not_or] at h
    simp only [setAll]
    rw [setAll_out ts vs _ t h.2, getD_set_other (Ne.symm h.1)]
theorem setAll_again (g : Array Value) (nm : List Nat) (vs : List Value) : setAll g nm vs = setAll g nm (nm.map fun t => (setAll g nm vs).getD t undef) :=
  (setAll_of _ nm g (setAll_size nm vs g).symm fun t ht => setAll_out nm vs g t ht).symm

/-- What a round must come to. -/
def loopK (f : Array Value) (nm jk : List Nat) (J : Nat → List Value → World → Prop) (m : Nat) (f' : Array Value) (w' : World) : Tied (J, f) :=
  SAME f f' nm jk ∧ ∃ m', m' < m ∧ J m' (nm.map fun t => f'.getD t undef) w'


/-- A LOOP, its relation on the values of the slots 'nm' and the world; 'jk': the other slots that it writes. -/
theorem loop_slots {X : Ctx} (hm : P.follows .mixedOrders = true) {n : Nat} {body : Code} {Q : Exit → Array Value → World → Prop} {f : Array Value} (nm jk : List Nat) (J : Nat → List Value → World → Prop) (m0 : Nat)
    (hok : codeOk n body = true) (hs : f.size = n) (h0 : J m0 (nm.map fun t => f.getD t undef) w)
    (hr : ∀ m vs u w, J m vs w → Now (vc X P n body (thenF (loopK f nm jk J m) Q) (mixF f nm vs jk u) w)) : WP X P n (.loop body) Q f w := by
  refine loop_rule X hs (fun m f' w' => (∃ vs u, f' = mixF f nm vs jk u) ∧ J m (nm.map fun t => f'.getD t undef) w') m0 ⟨⟨nm.map fun t => f.getD t undef, fun t => f.getD t undef, ?_⟩, h0⟩ ?_
  · unfold mixF
    rw [setAll_self, setAll_self]
  · rintro m f' w' hs' ⟨⟨vs, u, hf⟩, hJ⟩
    have hfr : f' = mixF f nm (nm.map fun t => f'.getD t undef) jk u := by
      rw [hf]
      unfold mixF
      generalize setAll f jk (jk.map u) = g
      exact setAll_again g nm vs
    have h1 := hr m _ u w' hJ
    rw [← hfr] at h1
    refine wpIn_mono (vc_sound X hm body _ f' w' hs' hok h1) ?_
    rintro e a w'' ⟨hd, hsz, hq⟩
    refine ⟨hd, hsz, ?_⟩
    cases e with
    | normal => exact (let ⟨hS, m', hlt, hJ'⟩ := hq; ⟨m', hlt, ⟨_, _, hS⟩, hJ'⟩)
    | _ => exact hq
end

/-! ### Small rules for the reckoning -/
theorem ite_split {c : Prop} [Decidable c] {A B : Prop} : @ite Prop c _ A B = ((c → A) ∧ (¬ c → B)) := by
  by_cases h : c <;> simp [h]
theorem getD_lit (l : List Value) (i : Nat) (d : Value) : l.toArray.getD i d = l.getD i d := by simp
theorem add_mk (b o n : Nat) : (⟨b, o, none⟩ : Addr).add n = ⟨b, o + n, none⟩ := by
  unfold Addr.add; split
  · rename_i h; subst h; rfl
  · rfl
theorem ret_int {k : IntKind} {a b : Int} (h : a = b) : Ending.returned (.int k a) = .returned (.int k b) := by rw [h]
theorem ret_bool {a b : Bool} (h : a = b) : Ending.returned (.bool a) = .returned (.bool b) := by rw [h]
theorem below_drewN {B : Nat} {a w : World} (h : Below B a w) (n : Nat) : Below B a (w.drewN n) := ⟨h.os, h.tape, h.output, h.size, h.block⟩
theorem min_i64 : IntKind.min .i64 = -9223372036854775808 := by decide
theorem max_i64 : IntKind.max .i64 = 9223372036854775807 := by decide
theorem fits_i64 {n : Int} (h1 : -9223372036854775808 ≤ n) (h2 : n ≤ 9223372036854775807) : fits .i64 n := ⟨by rw [min_i64]; exact h1, by rw [max_i64]; exact h2⟩
theorem fits_i64_nat {n : Nat} (h2 : n ≤ 9223372036854775806) : fits .i64 ((n : Int) + 1) := fits_i64 (by omega) (by omega)
theorem of_fits_i64 {n : Int} (h : fits .i64 n) : -9223372036854775808 ≤ n ∧ n ≤ 9223372036854775807 := ⟨by have := h.1; rwa [min_i64] at this, by have := h.2; rwa [max_i64] at this⟩

/-! ### Reading cells in worlds that are written out -/
section
variable (w : World)
theorem rdI_new (c : Array Value) (t : TypeId) (i : Nat) : rdI (w.alloc (.cells c t)) ⟨w.heap.size, i, none⟩ = match c[i]? with | some (.int _ n) => n | _ => 0 := by rw [rdI, World.cell?_alloc_new w c t i]
theorem rdI_past (o : Obj) (b i : Nat) (h : b < w.heap.size) : rdI (w.alloc o) ⟨b, i, none⟩ = rdI w ⟨b, i, none⟩ := by simp only [rdI, World.cell?_alloc_past o b i h]
theorem rdI_drewN (n : Nat) (a : Addr) : rdI (w.drewN n) a = rdI w a := rfl
theorem rdB_new (c : Array Value) (t : TypeId) (i : Nat) : rdB (w.alloc (.cells c t)) ⟨w.heap.size, i, none⟩ = match c[i]? with | some (.bool n) => n | _ => false := by rw [rdB, World.cell?_alloc_new w c t i]
theorem rdB_past (o : Obj) (b i : Nat) (h : b < w.heap.size) : rdB (w.alloc o) ⟨b, i, none⟩ = rdB w ⟨b, i, none⟩ := by simp only [rdB, World.cell?_alloc_past o b i h]
theorem rdB_drewN (n : Nat) (a : Addr) : rdB (w.drewN n) a = rdB w a := rfl
theorem rdP_new (c : Array Value) (t : TypeId) (i : Nat) : rdP (w.alloc (.cells c t)) ⟨w.heap.size, i, none⟩ = match c[i]? with | some (.pointer n) => n | _ => none := by rw [rdP, World.cell?_alloc_new w c t i]
theorem rdP_past (o : Obj) (b i : Nat) (h : b < w.heap.size) : rdP (w.alloc o) ⟨b, i, none⟩ = rdP w ⟨b, i, none⟩ := by simp only [rdP, World.cell?_alloc_past o b i h]
theorem rdP_drewN (n : Nat) (a : Addr) : rdP (w.drewN n) a = rdP w a := rfl
theorem rdSA_new (c : Array Value) (t : TypeId) (i : Nat) : rdSA (w.alloc (.cells c t)) ⟨w.heap.size, i, none⟩ = match c[i]? with | some (.slice n _ _) => n | _ => none := by rw [rdSA, World.cell?_alloc_new w c t i]
theorem rdSA_past (o : Obj) (b i : Nat) (h : b < w.heap.size) : rdSA (w.alloc o) ⟨b, i, none⟩ = rdSA w ⟨b, i, none⟩ := by simp only [rdSA, World.cell?_alloc_past o b i h]
theorem rdSA_drewN (n : Nat) (a : Addr) : rdSA (w.drewN n) a = rdSA w a := rfl
theorem rdSN_new (c : Array Value) (t : TypeId) (i : Nat) : rdSN (w.alloc (.cells c t)) ⟨w.heap.size, i, none⟩ = match c[i]? with | some (.slice _ n _) => n | _ => 0 := by rw [rdSN, World.cell?_alloc_new w c t i]
theorem rdSN_past (o : Obj) (b i : Nat) (h : b < w.heap.size) : rdSN (w.alloc o) ⟨b, i, none⟩ = rdSN w ⟨b, i, none⟩ := by simp only [rdSN, World.cell?_alloc_past o b i h]
theorem rdSN_drewN (n : Nat) (a : Addr) : rdSN (w.drewN n) a = rdSN w a := rfl
theorem rdSC_new (c : Array Value) (t : TypeId) (i : Nat) : rdSC (w.alloc (.cells c t)) ⟨w.heap.size, i, none⟩ = match c[i]? with | some (.slice _ _ n) => n | _ => 0 := by rw [rdSC, World.cell?_alloc_new w c t i]
theorem rdSC_past (o : Obj) (b i : Nat) (h : b < w.heap.size) : rdSC (w.alloc o) ⟨b, i, none⟩ = rdSC w ⟨b, i, none⟩ := by simp only [rdSC, World.cell?_alloc_past o b i h]
theorem rdSC_drewN (n : Nat) (a : Addr) : rdSC (w.drewN n) a = rdSC w a := rfl
theorem rdM_new (c : Array Value) (t : TypeId) (i : Nat) : rdM (w.alloc (.cells c t)) ⟨w.heap.size, i, none⟩ = match c[i]? with | some (.map n) => n | _ => none := by rw [rdM, World.cell?_alloc_new w c t i]
theorem rdM_past (o : Obj) (b i : Nat) (h : b < w.heap.size) : rdM (w.alloc o) ⟨b, i, none⟩ = rdM w ⟨b, i, none⟩ := by simp only [rdM, World.cell?_alloc_past o b i h]
theorem rdM_drewN (n : Nat) (a : Addr) : rdM (w.drewN n) a = rdM w a := rfl
theorem rdV_new (c : Array Value) (t : TypeId) (i : Nat) : rdV (w.alloc (.cells c t)) ⟨w.heap.size, i, none⟩ = (c[i]?).getD undef := by rw [rdV, World.cell?_alloc_new w c t i]
theorem rdV_past (o : Obj) (b i : Nat) (h : b < w.heap.size) : rdV (w.alloc o) ⟨b, i, none⟩ = rdV w ⟨b, i, none⟩ := by simp only [rdV, World.cell?_alloc_past o b i h]
theorem rdV_drewN (n : Nat) (a : Addr) : rdV (w.drewN n) a = rdV w a := rfl
theorem oneCell_int (k : IntKind) (n : Int) : (Value.int k n).oneCell' = true := rfl
theorem oneCell_bool (b : Bool) : (Value.bool b).oneCell' = true := rfl
theorem oneCell_ptr (b : Option Addr) : (Value.pointer b).oneCell' = true := rfl
theorem oneCell_slice (b : Option Addr) (n c : Nat) : (Value.slice b n c).oneCell' = true := rfl
theorem oneCell_map (b : Option Nat) : (Value.map b).oneCell' = true := rfl
theorem oneCell_func (f : Fn) (a b : Array Value) : (Value.func f a b).oneCell' = true := rfl
theorem cells_int (k : IntKind) (n : Int) : (Value.int k n).cells = #[.int k n] := rfl
theorem cells_bool (b : Bool) : (Value.bool b).cells = #[.bool b] := rfl
theorem cells_ptr (b : Option Addr) : (Value.pointer b).cells = #[.pointer b] := rfl
theorem cells_slice (b : Option Addr) (n c : Nat) : (Value.slice b n c).cells = #[.slice b n c] := rfl
theorem cells_map (b : Option Nat) : (Value.map b).cells = #[.map b] := rfl
theorem cells_func (f : Fn) (a b : Array Value) : (Value.func f a b).cells = #[.func f a b] := rfl
theorem cells_agg (c : Array Value) : (Value.agg c).cells = c := rfl
end

theorem mapN_drewN (w : World) (n b : Nat) : mapN (w.drewN n) b = mapN w b := rfl
theorem mapB_drewN (w : World) (n b : Nat) : mapB (w.drewN n) b = mapB w b := rfl
/-- A call met by a contract with a known value. -/
theorem CALL_of {P : Program} {g : FuncId} {args : Array Value} {w : World} {K' : Value → World → Prop} {v : Value} {X : World → Prop} (h : Calls P g args w fun e w' => e = .returned v ∧ X w') (hk : ∀ w', X w' → Now (K' v w')) : CALL P g args w K' :=
  h.mono fun _ w' ⟨he, hx⟩ => ⟨v, he, hk w' hx⟩
/-- A call met by a contract with some value. -/
theorem CALL_ex {P : Program} {g : FuncId} {args : Array Value} {w : World} {K' : Value → World → Prop} {X : Value → World → Prop} (h : Calls P g args w fun e w' => ∃ v, e = .returned v ∧ X v w') (hk : ∀ v w', X v w' → Now (K' v w')) : CALL P g args w K' :=
  h.mono fun _ w' ⟨v, he, hx⟩ => ⟨v, he, hk v w' hx⟩
/-- The rules that every reckoning uses, in one. -/
theorem lib : type_of% (And.intro @seq_nil <| And.intro @seq_cons <| And.intro @seqK_eq <| And.intro @pickV_b <| And.intro @pickV_i <| And.intro @pickV_p <| And.intro @pickV_s <| And.intro @pickV_uf <| And.intro @pickV_tu <| And.intro @pickC_ul <| And.intro @pickC_ur <| And.intro @pickC_i <| And.intro @pickC_b <| And.intro @pickC_p <| And.intro @pickC_s <| And.intro @getD_lit <| And.intro @add_mk <| And.intro @List.getD_cons_zero.{0} <| And.intro @List.getD_cons_succ.{0} <| And.intro @List.setIfInBounds_toArray.{0} <| And.intro @List.set_cons_succ.{0} <| And.intro @List.set_cons_zero.{0} <| And.intro @List.size_toArray.{0} <| And.intro @List.length_cons.{0} <| And.intro @List.length_nil.{0} <| And.intro @Array.replicate_succ.{0} <| And.intro @Array.replicate_zero.{0} <| And.intro @List.push_toArray.{0} <| And.intro @List.append_toArray.{0} <| And.intro @List.nil_append.{0} <| And.intro @List.cons_append.{0} <| And.intro @List.map_cons.{0, 0} <| And.intro @List.map_nil.{0, 0} <| And.intro @List.all_cons.{0} <| And.intro @List.all_nil.{0} <| And.intro @Bool.and_true <| And.intro @Bool.and_self <| And.intro @true_and <| And.intro @and_true <| And.intro @List.filter_nil.{0} <| And.intro @List.filter_cons.{0} <| And.intro @true_implies <| And.intro @Bool.false_eq_true <| And.intro @Bool.true_eq_false <| And.intro @not_true <| And.intro @not_false_eq_true <| And.intro @Bool.true_and <| And.intro @decide_eq_true_eq <| And.intro @decide_eq_false_iff_not <| And.intro @List.getElem?_toArray.{0} <| And.intro @List.getElem?_cons_succ.{0} <| And.intro @List.getElem?_cons_zero.{0} <| And.intro @List.map_toArray.{0, 0} <| And.intro @bne_self_eq_false.{0} <| And.intro @Bool.not_eq_true' <| And.intro @Bool.not_false <| And.intro @Bool.not_true <| And.intro @Int.toNat_zero <| And.intro @Nat.zero_mul <| And.intro @Nat.mul_one <| And.intro @Nat.add_zero <| And.intro @Int.le_refl <| And.intro @Int.toNat_natCast <| And.intro @Bool.not_eq_false' <| And.intro @Bool.cond_false_right <| And.intro @Bool.cond_true_left <| And.intro @Bool.cond_true_right <| And.intro @Bool.cond_false_left <| And.intro @Bool.or_eq_true <| And.intro @Bool.and_eq_true <| And.intro @Bool.or_eq_false_iff <| And.intro @Bool.and_eq_false_imp <| And.intro @Int.not_lt <| And.intro @Int.not_le <| And.intro @Int.lt_irrefl <| And.intro @false_implies <| And.intro @and_self <| And.intro @rdI_new <| And.intro @rdI_past <| And.intro @rdI_drewN <| And.intro @rdB_new <| And.intro @rdB_past <| And.intro @rdB_drewN <| And.intro @rdP_new <| And.intro @rdP_past <| And.intro @rdP_drewN <| And.intro @rdSA_new <| And.intro @rdSA_past <| And.intro @rdSA_drewN <| And.intro @rdSN_new <| And.intro @rdSN_past <| And.intro @rdSN_drewN <| And.intro @rdSC_new <| And.intro @rdSC_past <| And.intro @rdSC_drewN <| And.intro @rdM_new <| And.intro @rdM_past <| And.intro @rdM_drewN <| And.intro @rdV_new <| And.intro @rdV_past <| And.intro @rdV_drewN <| And.intro @oneCell_int <| And.intro @cells_int <| And.intro @oneCell_bool <| And.intro @cells_bool <| And.intro @oneCell_ptr <| And.intro @cells_ptr <| And.intro @oneCell_slice <| And.intro @cells_slice <| And.intro @oneCell_map <| And.intro @cells_map <| And.intro @oneCell_func <| And.intro @cells_func <| And.intro @cells_agg <| And.intro @World.setCell_alloc_new <| And.intro @World.cell?_alloc_new <| And.intro @World.frozen?_alloc_new <| And.intro @World.cell?_alloc_past <| And.intro @World.frozen?_alloc_past <| And.intro @World.size_alloc <| And.intro @World.cell?_drewN <| And.intro @World.frozen?_drewN <| And.intro @World.heap_drewN <| And.intro @World.drewN_drewN <| And.intro @Option.isSome_some.{0} <| And.intro @Option.some.injEq.{0} <| And.intro @List.toList_toArray.{0} <| And.intro @Option.map_some.{0, 0} <| And.intro @Option.map_none.{0, 0} <| And.intro @Option.getD_some.{0} <| And.intro @rangeAt <| And.intro @List.replicate_succ.{0} <| And.intro @List.replicate_zero.{0} <| And.intro @List.flatten_cons.{0} <| And.intro @List.flatten_nil.{0} <| And.intro @List.append_nil.{0} <| And.intro @Nat.zero_add <| And.intro @Nat.lt_irrefl <| And.intro @Nat.le_refl <| And.intro @rangeAt1 <| And.intro @decide_true <| And.intro @decide_false <| And.intro @Bool.false_and <| And.intro @Bool.true_or <| And.intro @Bool.false_or <| And.intro @Bool.and_false <| And.intro @Bool.or_true <| And.intro @Bool.or_false <| And.intro @true_or <| And.intro @or_true <| And.intro @false_or <| And.intro @or_false <| And.intro @and_false <| And.intro @false_and <| And.intro @List.take_succ_cons.{0} <| And.intro @List.take_zero.{0} <| And.intro @List.drop_succ_cons.{0} <| And.intro @List.drop_zero.{0} <| And.intro @ite_split <| And.intro @Bool.not_eq_true <| And.intro @Bool.not_eq_false <| @Classical.not_not) :=
  And.intro @seq_nil <| And.intro @seq_cons <| And.intro @seqK_eq <| And.intro @pickV_b <| And.intro @pickV_i <| And.intro @pickV_p <| And.intro @pickV_s <| And.intro @pickV_uf <| And.intro @pickV_tu <| And.intro @pickC_ul <| And.intro @pickC_ur <| And.intro @pickC_i <| And.intro @pickC_b <| And.intro @pickC_p <| And.intro @pickC_s <| And.intro @getD_lit <| And.intro @add_mk <| And.intro @List.getD_cons_zero.{0} <| And.intro @List.getD_cons_succ.{0} <| And.intro @List.setIfInBounds_toArray.{0} <| And.intro @List.set_cons_succ.{0} <| And.intro @List.set_cons_zero.{0} <| And.intro @List.size_toArray.{0} <| And.intro @List.length_cons.{0} <| And.intro @List.length_nil.{0} <| And.intro @Array.replicate_succ.{0} <| And.intro @Array.replicate_zero.{0} <| And.intro @List.push_toArray.{0} <| And.intro @List.append_toArray.{0} <| And.intro @List.nil_append.{0} <| And.intro @List.cons_append.{0} <| And.intro @List.map_cons.{0, 0} <| And.intro @List.map_nil.{0, 0} <| And.intro @List.all_cons.{0} <| And.intro @List.all_nil.{0} <| And.intro @Bool.and_true <| And.intro @Bool.and_self <| And.intro @true_and <| And.intro @and_true <| And.intro @List.filter_nil.{0} <| And.intro @List.filter_cons.{0} <| And.intro @true_implies <| And.intro @Bool.false_eq_true <| And.intro @Bool.true_eq_false <| And.intro @not_true <| And.intro @not_false_eq_true <| And.intro @Bool.true_and <| And.intro @decide_eq_true_eq <| And.intro @decide_eq_false_iff_not <| And.intro @List.getElem?_toArray.{0} <| And.intro @List.getElem?_cons_succ.{0} <| And.intro @List.getElem?_cons_zero.{0} <| And.intro @List.map_toArray.{0, 0} <| And.intro @bne_self_eq_false.{0} <| And.intro @Bool.not_eq_true' <| And.intro @Bool.not_false <| And.intro @Bool.not_true <| And.intro @Int.toNat_zero <| And.intro @Nat.zero_mul <| And.intro @Nat.mul_one <| And.intro @Nat.add_zero <| And.intro @Int.le_refl <| And.intro @Int.toNat_natCast <| And.intro @Bool.not_eq_false' <| And.intro @Bool.cond_false_right <| And.intro @Bool.cond_true_left <| And.intro @Bool.cond_true_right <| And.intro @Bool.cond_false_left <| And.intro @Bool.or_eq_true <| And.intro @Bool.and_eq_true <| And.intro @Bool.or_eq_false_iff <| And.intro @Bool.and_eq_false_imp <| And.intro @Int.not_lt <| And.intro @Int.not_le <| And.intro @Int.lt_irrefl <| And.intro @false_implies <| And.intro @and_self <| And.intro @rdI_new <| And.intro @rdI_past <| And.intro @rdI_drewN <| And.intro @rdB_new <| And.intro @rdB_past <| And.intro @rdB_drewN <| And.intro @rdP_new <| And.intro @rdP_past <| And.intro @rdP_drewN <| And.intro @rdSA_new <| And.intro @rdSA_past <| And.intro @rdSA_drewN <| And.intro @rdSN_new <| And.intro @rdSN_past <| And.intro @rdSN_drewN <| And.intro @rdSC_new <| And.intro @rdSC_past <| And.intro @rdSC_drewN <| And.intro @rdM_new <| And.intro @rdM_past <| And.intro @rdM_drewN <| And.intro @rdV_new <| And.intro @rdV_past <| And.intro @rdV_drewN <| And.intro @oneCell_int <| And.intro @cells_int <| And.intro @oneCell_bool <| And.intro @cells_bool <| And.intro @oneCell_ptr <| And.intro @cells_ptr <| And.intro @oneCell_slice <| And.intro @cells_slice <| And.intro @oneCell_map <| And.intro @cells_map <| And.intro @oneCell_func <| And.intro @cells_func <| And.intro @cells_agg <| And.intro @World.setCell_alloc_new <| And.intro @World.cell?_alloc_new <| And.intro @World.frozen?_alloc_new <| And.intro @World.cell?_alloc_past <| And.intro @World.frozen?_alloc_past <| And.intro @World.size_alloc <| And.intro @World.cell?_drewN <| And.intro @World.frozen?_drewN <| And.intro @World.heap_drewN <| And.intro @World.drewN_drewN <| And.intro @Option.isSome_some.{0} <| And.intro @Option.some.injEq.{0} <| And.intro @List.toList_toArray.{0} <| And.intro @Option.map_some.{0, 0} <| And.intro @Option.map_none.{0, 0} <| And.intro @Option.getD_some.{0} <| And.intro @rangeAt <| And.intro @List.replicate_succ.{0} <| And.intro @List.replicate_zero.{0} <| And.intro @List.flatten_cons.{0} <| And.intro @List.flatten_nil.{0} <| And.intro @List.append_nil.{0} <| And.intro @Nat.zero_add <| And.intro @Nat.lt_irrefl <| And.intro @Nat.le_refl <| And.intro @rangeAt1 <| And.intro @decide_true <| And.intro @decide_false <| And.intro @Bool.false_and <| And.intro @Bool.true_or <| And.intro @Bool.false_or <| And.intro @Bool.and_false <| And.intro @Bool.or_true <| And.intro @Bool.or_false <| And.intro @true_or <| And.intro @or_true <| And.intro @false_or <| And.intro @or_false <| And.intro @and_false <| And.intro @false_and <| And.intro @List.take_succ_cons.{0} <| And.intro @List.take_zero.{0} <| And.intro @List.drop_succ_cons.{0} <| And.intro @List.drop_zero.{0} <| And.intro @ite_split <| And.intro @Bool.not_eq_true <| And.intro @Bool.not_eq_false <| @Classical.not_not
end Go.VC

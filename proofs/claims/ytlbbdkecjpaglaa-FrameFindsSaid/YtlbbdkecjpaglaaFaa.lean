/- The abstract values and the computed weakest precondition over them; no condition. What abstract values and owned blocks say of the machine's, and that it stays so; no condition. What a reading says of a value: abstract values out of 'trod'; no condition. The computed weakest precondition: operations, regions, code; no condition. Soundness of the operations that ask nothing of memory; no condition. -/
import Derived.Calls
import Derived.Orders
import Derived.Laws.Sem
import Derived.ChangeReads
import Derived.Laws.StructEq
import Derived.Laws.Small
import Derived.Laws.World
import Derived.Laws.Cells
import Derived.Lib.Strings

set_option linter.all false

section
namespace Go.Sx

/-- Abstract values. 'isl p sz enc xs': a slice whose elements (of sz cells) never change (p: for ever; else: while this call lasts), by value. 'vec n': the whole of the owned row n. 'whn t p x': x where slot t holds the Bool p. -/
inductive V : Type 1
  | junk
  | bool (b : Bool)
  | int (k : IntKind) (n : Int)
  | str (s : List UInt8)
  | nilp
  | ptr (n off : Nat)
  | nils
  | isl (p : Bool) (sz : Nat) {α : Type} (enc : α → V) (xs : List α)
  | vec (n : Nat)
  | sub (n o l : Nat)
  | eptr (n i off : Nat)
  | elem (p : Bool) (x : V) (off : Nat)
  | map (n : Nat)
  | nilm
  | func (f : FuncId) (first caps : List V)
  | nilf
  | iface (t : TypeId) (x : V)
  | nili
  | agg (cs : List V)
  | tup (cs : List V)
  | whn (slot : Nat) (pol : Bool) (x : V)

/-- What an owned block holds: a variable's cells; a row of elements without names (ty: the elements' type, sz: how many cells one has); a reading of a string. -/
inductive Ob : Type 1
  | cells (ty : TypeId) (cs : List V)
  | row (ty : TypeId) (sz : Nat) {α : Type} (enc : α → V) (xs : List α)
  | iter (s : List UInt8) (pos : Nat)
  | arr (ty : TypeId) (pre : List V) {α : Type} (enc : α → V) (xs : List α)

abbrev Tm := List (Nat × V)
abbrev Hp := List (Nat × Ob)

inductive TD : Type
  | int (k : IntKind) | bool | str | ptr (e : TypeId) | slice (e : TypeId) | arr (n : Nat) (e : TypeId) | map (k e : TypeId) | struct (fs : List (Nat × TypeId)) | func | iface | other

structure TI : Type where
  size : Nat
  bytes : Nat
  desc : TD
  zero : List Value
  eqs : Bool

def TD.isAgg : TD → Bool
  | .arr _ _ | .struct _ => true
  | _ => false

def V.cells : V → List V
  | .agg cs => cs
  | v => [v]

def lk (t : Nat) : Tm → V
  | [] => .junk
  | (k, v) :: l => bif Nat.beq k t then v else lk t l

def ofVal : Value → V
  | .bool b => .bool b
  | .int k n => .int k n
  | .string s => .str s.data.toList
  | .pointer none => .nilp
  | .slice none 0 0 => .nils
  | .map none => .nilm
  | .nilFunc => .nilf
  | .nilIface => .nili
  | _ => .junk

/-- a value with its own parts: an aggregate of plain values -/
def ofValue : Value → V
  | .agg cs => .agg (cs.toList.map ofVal)
  | v => ofVal v

def ev (tm : Tm) : Operand → V
  | .tmp t => lk t tm
  | .const v => ofValue v
  | .func f => .func f [] []
  | .global _ => .junk

def obj (n : Nat) : Hp → Option Ob
  | [] => none
  | (k, v) :: l => bif Nat.beq k n then some v else obj n l

def nth : Nat → List V → Option V
  | _, [] => none
  | 0, x :: _ => some x
  | n + 1, _ :: l => nth n l

/-- A value, at its head. -/
def fV (v : V) (K : V → Prop) : Prop := match v with
  | .junk => K .junk
  | .bool b => K (.bool b)
  | .int k n => K (.int k n)
  | .str s => K (.str s)
  | .nilp => K .nilp
  | .ptr n o => K (.ptr n o)
  | .nils => K .nils
  | .isl p sz enc xs => K (.isl p sz enc xs)
  | .vec n => K (.vec n)
  | .sub n o l => K (.sub n o l)
  | .eptr n i o => K (.eptr n i o)
  | .elem p x o => K (.elem p x o)
  | .map n => K (.map n)
  | .nilm => K .nilm
  | .func f a b => K (.func f a b)
  | .nilf => K .nilf
  | .iface t x => K (.iface t x)
  | .nili => K .nili
  | .agg cs => K (.agg cs)
  | .tup cs => K (.tup cs)
  | .whn s p x => K (.whn s p x)

theorem fV_eq (v : V) (K : V → Prop) : fV v K = K v := by cases v <;> rfl

/-- lists' spines, and their values' heads -/
def fL (l : List V) (K : List V → Prop) : Prop := match l with
  | [] => K []
  | x :: r => fV x fun x => fL r fun r => K (x :: r)

theorem fL_eq (l : List V) (K : List V → Prop) : fL l K = K l := by
  induction l generalizing K with
  | nil => rfl
  | cons x r ih => simp only [fL, fV_eq, ih]

/-- an element of a list is written over -/
def setK : Nat → V → List V → (List V → Prop) → Prop
  | _, _, [], K => K []
  | 0, v, _ :: l, K => K (v :: l)
  | n + 1, v, x :: l, K => setK n v l fun l => K (x :: l)

theorem setK_eq (n : Nat) (v : V) (l : List V) (K : List V → Prop) : setK n v l K = K (l.set n v) := by
  induction l generalizing n K with
  | nil => cases n <;> rfl
  | cons x r ih => cases n <;> simp [setK, ih]

/-- cells are written over from a place on -/
def setsK : Nat → List V → List V → (List V → Prop) → Prop
  | _, [], l, K => K l
  | n, v :: vs, l, K => setK n v l fun l => setsK (n + 1) vs l K

def sets : Nat → List V → List V → List V
  | _, [], l => l
  | n, v :: vs, l => sets (n + 1) vs (l.set n v)

theorem setsK_eq (vs : List V) : ∀ (n : Nat) (l : List V) (K : List V → Prop), setsK n vs l K = K (sets n vs l) := by
  induction vs with
  | nil => intro n l K; rfl
  | cons v vs ih => intro n l K; simp only [setsK, setK_eq, ih, sets]

def updK (n : Nat) (o : Ob) : Hp → (Hp → Prop) → Prop
  | [], K => K []
  | (k, v) :: l, K => bif Nat.beq k n then K ((k, o) :: l) else updK n o l fun l => K ((k, v) :: l)

def upd (n : Nat) (o : Ob) : Hp → Hp
  | [] => []
  | (k, v) :: l => bif Nat.beq k n then (k, o) :: l else (k, v) :: upd n o l

theorem updK_eq (n : Nat) (o : Ob) (l : Hp) (K : Hp → Prop) : updK n o l K = K (upd n o l) := by
  induction l generalizing K with
  | nil => rfl
  | cons x r ih =>
    obtain ⟨k, v⟩ := x
    simp only [updK, upd, ih]
    cases Nat.beq k n <;> rfl

def delK (n : Nat) : Hp → (Hp → Prop) → Prop
  | [], K => K []
  | (k, v) :: l, K => bif Nat.beq k n then K l else delK n l fun l => K ((k, v) :: l)

def del (n : Nat) : Hp → Hp
  | [] => []
  | (k, v) :: l => bif Nat.beq k n then l else (k, v) :: del n l

theorem delK_eq (n : Nat) (l : Hp) (K : Hp → Prop) : delK n l K = K (del n l) := by
  induction l generalizing K with
  | nil => rfl
  | cons x r ih =>
    obtain ⟨k, v⟩ := x
    simp only [delK, del, ih]
    cases Nat.beq k n <;> rfl

/-- is the second one weaker? flat ones -/
def leF (x y : V) : Prop := match y with
  | .junk => True
  | .isl p' sz' enc' ys => match x with
    | .nils => ys = []
    | .isl p sz enc xs => (p' = true → p = true) ∧ sz = sz' ∧ xs.map enc = ys.map enc'
    | _ => False
  | .int k' m => match x with
    | .int k n => k = k' ∧ n = m
    | _ => False
  | .bool b => match x with
    | .bool a => a = b
    | _ => False
  | .str t => match x with
    | .str s => s = t
    | _ => False
  | .ptr m o' => match x with
    | .ptr n o => n = m ∧ o = o'
    | _ => False
  | .vec m => match x with
    | .vec n => n = m
    | _ => False
  | y => x = y

def leFs : List V → List V → Prop
  | [], [] => True
  | x :: l, y :: m => leF x y ∧ leFs l m
  | _, _ => False

def leA (x y : V) : Prop := match y with
  | .agg ds => match x with
    | .agg cs => leFs cs ds
    | _ => False
  | y => leF x y

def leAs : List V → List V → Prop
  | [], [] => True
  | x :: l, y :: m => leA x y ∧ leAs l m
  | _, _ => False

def leT (x y : V) : Prop := match y with
  | .tup ds => match x with
    | .tup cs => leAs cs ds
    | _ => False
  | y => leA x y

def leTs : List V → List V → Prop
  | [], [] => True
  | x :: l, y :: m => leT x y ∧ leTs l m
  | _, _ => False

def leP (o : Option (Nat × V)) (y : V) : Prop := match o with
  | some p => leA p.2 y
  | none => False

/-- a test -/
def br (b : Bool) (A B : Prop) : Prop := match b with
  | true => A
  | false => B

theorem br_intro {b : Bool} {A B : Prop} (h : b = true → A) (k : b = false → B) : br b A B := by
  cases b
  · exact k rfl
  · exact h rfl

theorem br_dec {p : Prop} [Decidable p] {A B : Prop} (h : p → A) (k : ¬p → B) : br (decide p) A B :=
  br_intro (fun e => h (of_decide_eq_true e)) (fun e => k (of_decide_eq_false e))

/-- nothing is said of what comes there -/
inductive Stuck (why : String) : Prop

end Go.Sx
end

section
namespace Go.Sx

theorem beq_ne {k n : Nat} (h : k ≠ n) : Nat.beq k n = false := by
  cases h2 : Nat.beq k n
  · rfl
  · exact absurd (Nat.eq_of_beq_eq_true h2) h

/-- Where a name's block lies; of a row: its length, capacity, and an element's size. -/
structure Loc where
  blk : Option Nat
  len : Nat
  cap : Nat
  sz : Nat

structure Cx where
  J : Bool → Nat → Prop
  N : Nat → Loc

/-- values without names -/
inductive IR (h : Array Obj) (J : Bool → Nat → Prop) : V → Value → Prop
  | bool (b : Bool) : IR h J (.bool b) (.bool b)
  | int (k : IntKind) (n : Int) : IR h J (.int k n) (.int k n)
  | str (s : ByteArray) (l : List UInt8) (e : s.data.toList = l) : IR h J (.str l) (.string s)
  | nilp : IR h J .nilp (.pointer none)
  | nils : IR h J .nils (.slice none 0 0)
  | nilm : IR h J .nilm (.map none)
  | nilf : IR h J .nilf .nilFunc
  | nili : IR h J .nili .nilIface
  | islNil (p : Bool) (sz : Nat) {α : Type} (enc : α → V) (a : Option Addr) (cap : Nat) (ha : a = none → cap = 0) : IR h J (.isl p sz enc []) (.slice a 0 cap)
  | isl (p : Bool) (sz : Nat) {α : Type} (enc : α → V) (xs : List α) (b o cap : Nat) (arr : Array Value) (ty : TypeId) (fz : Nat × Nat) (cv : Nat → Nat → Value)
      (hj : J p b) (hb : h[b]? = some (.cells arr ty fz)) (hc : xs.length ≤ cap)
      (hs : ∀ (i : Nat) (x : α), xs[i]? = some x → (enc x).cells.length = sz)
      (ha : ∀ (i : Nat) (x : α) (j : Nat) (y : V), xs[i]? = some x → (enc x).cells[j]? = some y → arr[o + (i * sz + j)]? = some (cv i j))
      (hv : ∀ (i : Nat) (x : α) (j : Nat) (y : V), xs[i]? = some x → (enc x).cells[j]? = some y → IR h J y (cv i j))
      (ho : ∀ (i : Nat) (x : α) (j : Nat) (y : V), xs[i]? = some x → (enc x).cells[j]? = some y → (cv i j).oneCell' = true) :
      IR h J (.isl p sz enc xs) (.slice (some ⟨b, o, none⟩) xs.length cap)
  | func (f : FuncId) : IR h J (.func f [] []) (.func (.func f) #[] #[])
  | agg (cs : List V) (arr : Array Value) (hl : cs.length = arr.size) (hv : ∀ (i : Nat) (x : V) (v : Value), cs[i]? = some x → arr[i]? = some v → IR h J x v) : IR h J (.agg cs) (.agg arr)

/-- values -/
inductive VR (h : Array Obj) (C : Cx) (B : Nat) : V → Value → Prop
  | junk (v : Value) : VR h C B .junk v
  | imm (x : V) (v : Value) (e : IR h C.J x v) : VR h C B x v
  | ptr (n o b : Nat) (hn : n < B) (hb : (C.N n).blk = some b) : VR h C B (.ptr n o) (.pointer (some ⟨b, o, none⟩))
  | vec (n b : Nat) (hn : n < B) (hb : (C.N n).blk = some b) : VR h C B (.vec n) (.slice (some ⟨b, 0, none⟩) (C.N n).len (C.N n).cap)
  | vecNil (n : Nat) (hn : n < B) (hb : (C.N n).blk = none) : VR h C B (.vec n) (.slice none 0 0)
  | sub (n o l c b p : Nat) (hn : n < B) (hb : (C.N n).blk = some b) (hc : l ≤ c) (hl : o + l ≤ (C.N n).len) (hp : l = 0 ∨ p = o * (C.N n).sz) : VR h C B (.sub n o l) (.slice (some ⟨b, p, none⟩) l c)
  | subNil (n o : Nat) (hn : n < B) (hb : (C.N n).blk = none) : VR h C B (.sub n o 0) (.slice none 0 0)
  | eptr (n i off b : Nat) (hn : n < B) (hb : (C.N n).blk = some b) : VR h C B (.eptr n i off) (.pointer (some ⟨b, i * (C.N n).sz + off, none⟩))
  | elem (p : Bool) (x : V) (off b q : Nat) (arr : Array Value) (ty : TypeId) (fz : Nat × Nat) (cv : Nat → Value)
      (hj : C.J p b) (hb : h[b]? = some (.cells arr ty fz)) (ha : ∀ (j : Nat) (y : V), x.cells[j]? = some y → arr[q + j]? = some (cv j))
      (hv : ∀ (j : Nat) (y : V), x.cells[j]? = some y → IR h C.J y (cv j)) : VR h C B (.elem p x off) (.pointer (some ⟨b, q + off, none⟩))
  | map (n b : Nat) (hn : n < B) (hb : (C.N n).blk = some b) : VR h C B (.map n) (.map (some b))
  | func (f : FuncId) (a c : List V) (x y : Array Value) (ha : a.length = x.size) (hc : c.length = y.size) (hx : ∀ (i : Nat) (u : V) (v : Value), a[i]? = some u → x[i]? = some v → VR h C B u v)
      (hy : ∀ (i : Nat) (u : V) (v : Value), c[i]? = some u → y[i]? = some v → VR h C B u v) : VR h C B (.func f a c) (.func (.func f) x y)
  | agg (cs : List V) (arr : Array Value) (hl : cs.length = arr.size) (hv : ∀ (i : Nat) (x : V) (v : Value), cs[i]? = some x → arr[i]? = some v → VR h C B x v) : VR h C B (.agg cs) (.agg arr)
  | tup (cs : List V) (arr : Array Value) (hl : cs.length = arr.size) (hv : ∀ (i : Nat) (x : V) (v : Value), cs[i]? = some x → arr[i]? = some v → VR h C B x v) : VR h C B (.tup cs) (.tuple arr)
  | iface (t : TypeId) (x : V) (v : Value) (e : VR h C B x v) : VR h C B (.iface t x) (.iface t v)

/-- lists of values, place by place -/
def LR (h : Array Obj) (C : Cx) (B : Nat) (cs : List V) (arr : Array Value) : Prop :=
  cs.length = arr.size ∧ ∀ (i : Nat) (x : V) (v : Value), cs[i]? = some x → arr[i]? = some v → VR h C B x v

def Unfrozen (fz : Nat × Nat) (n : Nat) : Prop := ∀ p, p < n → ¬(fz.1 ≤ p ∧ p < fz.2)

/-- what an owned thing says; S: its blocks -/
def OR (h : Array Obj) (C : Cx) (B : Nat) (n : Nat) (S : Nat → Prop) : Ob → Prop
  | .cells ty cs => ∃ b arr, (C.N n).blk = some b ∧ h[b]? = some (.cells arr ty (0, 0)) ∧ LR h C B cs arr ∧ ∀ k, S k ↔ k = b
  | @Ob.row ty sz _ enc xs => (C.N n).len = xs.length ∧ (C.N n).sz = sz ∧
      (((C.N n).blk = none ∧ xs = [] ∧ (C.N n).cap = 0 ∧ ∀ k, ¬ S k) ∨
       ∃ b arr fz, (C.N n).blk = some b ∧ h[b]? = some (.cells arr ty fz) ∧ Unfrozen fz arr.size ∧ xs.length ≤ (C.N n).cap ∧ (C.N n).cap * sz ≤ arr.size ∧
        (∀ (i : Nat) x, xs[i]? = some x → (enc x).cells.length = sz) ∧
        (∀ (i : Nat) x (j : Nat) (y : V), xs[i]? = some x → (enc x).cells[j]? = some y → ∃ v, arr[i * sz + j]? = some v ∧ v.oneCell' = true ∧ IR h C.J y v) ∧ ∀ k, S k ↔ k = b)
  | .iter s pos => ∃ b st, (C.N n).blk = some b ∧ h[b]? = some (.stringIter st pos) ∧ st.data.toList = s ∧ ∀ k, S k ↔ k = b
  | @Ob.arr ty pre _ enc xs => ∃ b arr, (C.N n).blk = some b ∧ h[b]? = some (.cells arr ty (0, 0)) ∧ arr.size = pre.length + xs.length ∧ (∀ (i : Nat) (x : V) (v : Value), pre[i]? = some x → arr[i]? = some v → VR h C B x v) ∧
      (∀ (i : Nat) x, xs[i]? = some x → ∃ v, arr[pre.length + i]? = some v ∧ v.oneCell' = true ∧ IR h C.J (enc x) v) ∧ ∀ k, S k ↔ k = b

inductive HR (h : Array Obj) (C : Cx) (B : Nat) : Hp → (Nat → Prop) → Prop
  | nil (S : Nat → Prop) (e : ∀ b, ¬ S b) : HR h C B [] S
  | cons (n : Nat) (o : Ob) (l : Hp) (S1 S2 S : Nat → Prop) (hn : n < B) (hne : ∀ a ∈ l, a.1 ≠ n) (ho : OR h C B n S1 o) (hl : HR h C B l S2) (hd : ∀ b, S1 b → ¬ S2 b) (e : ∀ b, S b ↔ S1 b ∨ S2 b) : HR h C B ((n, o) :: l) S

structure HSat (hp : Hp) (nx : Nat) (C : Cx) (S : Nat → Prop) (w : World) : Prop where
  hr : HR w.heap C nx hp S
  lt : ∀ b, S b → b < w.heap.size
  jlt : ∀ p b, C.J p b → b < w.heap.size ∧ ¬ S b
  jj : ∀ b, C.J true b → C.J false b

/-- a slot -/
def TR (h : Array Obj) (C : Cx) (B : Nat) (tmc : Array Value) (t : Nat) : V → Prop
  | .whn g p x => (tmc[g]? = some (.bool p) ∧ ∃ v, tmc[t]? = some v ∧ VR h C B x v) ∨ (tmc[g]? ≠ some (.bool p) ∧ tmc[t]? = some undef)
  | x => ∃ v, tmc[t]? = some v ∧ VR h C B x v

structure TSat (tm : Tm) (nt : Nat) (C : Cx) (B : Nat) (h : Array Obj) (tmc : Array Value) : Prop where
  size : tmc.size = nt
  at_ : ∀ t, t < nt → TR h C B tmc t (lk t tm)
  out : ∀ t, nt ≤ t → lk t tm = .junk

structure Ext (ar : Nat) (C C' : Cx) (S S' : Nat → Prop) (w w' : World) : Prop where
  size : w.heap.size ≤ w'.heap.size
  keep : ∀ b, b < w.heap.size → ¬ S b → w'.heap[b]? = w.heap[b]?
  own : ∀ b, S' b → S b ∨ w.heap.size ≤ b
  jmono : ∀ p b, C.J p b → C'.J p b
  jnew : ∀ p b, C'.J p b → C.J p b ∨ S b ∨ w.heap.size ≤ b
  names : ∀ n, n < ar → C'.N n = C.N n
  os : w'.os = w.os
  tape : w'.tape = w.tape
  output : w'.output = w.output

theorem Ext.refl (ar : Nat) (C : Cx) (S : Nat → Prop) (w : World) : Ext ar C C S S w w :=
  ⟨Nat.le_refl _, fun _ _ _ => rfl, fun _ h => .inl h, fun _ _ h => h, fun _ _ h => .inl h, fun _ _ => rfl, rfl, rfl, rfl⟩

theorem Ext.trans {ar : Nat} {C C' C'' : Cx} {S S' S'' : Nat → Prop} {w w' w'' : World} (h : Ext ar C C' S S' w w') (k : Ext ar C' C'' S' S'' w' w'') : Ext ar C C'' S S'' w w'' where
  size := Nat.le_trans h.size k.size
  keep b hb hs := by
    rw [k.keep b (Nat.lt_of_lt_of_le hb h.size) (fun hs' => (h.own b hs').elim hs (fun hge => by omega)), h.keep b hb hs]
  own b hb := (k.own b hb).elim (fun hs => h.own b hs) (fun hge => .inr (Nat.le_trans h.size hge))
  jmono p b hj := k.jmono p b (h.jmono p b hj)
  jnew p b hj := by
    rcases k.jnew p b hj with hj | hs | hge
    · exact h.jnew p b hj
    · exact (h.own b hs).elim (fun x => .inr (.inl x)) (fun x => .inr (.inr x))
    · exact .inr (.inr (Nat.le_trans h.size hge))
  names n hn := (k.names n hn).trans (h.names n hn)
  os := k.os.trans h.os
  tape := k.tape.trans h.tape
  output := k.output.trans h.output

theorem Ext.le {ar ar' : Nat} {C C' : Cx} {S S' : Nat → Prop} {w w' : World} (h : Ext ar C C' S S' w w') (hle : ar' ≤ ar) : Ext ar' C C' S S' w w' :=
  { h with names := fun n hn => h.names n (Nat.lt_of_lt_of_le hn hle) }

theorem IR.mono {h h' : Array Obj} {J J' : Bool → Nat → Prop} {x : V} {v : Value} (e : IR h J x v) (hj : ∀ p b, J p b → J' p b ∧ h'[b]? = h[b]?) : IR h' J' x v := by
  induction e with
  | bool b => exact .bool b
  | int k n => exact .int k n
  | str s l e => exact .str s l e
  | nilp => exact .nilp
  | nils => exact .nils
  | nilm => exact .nilm
  | nilf => exact .nilf
  | nili => exact .nili
  | islNil p sz enc a cap ha => exact .islNil p sz enc a cap ha
  | isl p sz enc xs b o cap arr ty fz cv hj' hb hc hs ha hv ho ih =>
    exact .isl p sz enc xs b o cap arr ty fz cv (hj p b hj').1 ((hj p b hj').2.trans hb) hc hs ha ih ho
  | func f => exact .func f
  | agg cs arr hl hv ih => exact .agg cs arr hl ih

theorem VR.mono {h h' : Array Obj} {C C' : Cx} {B B' : Nat} {x : V} {v : Value} (e : VR h C B x v) (hj : ∀ p b, C.J p b → C'.J p b ∧ h'[b]? = h[b]?)
    (hN : ∀ n, n < B → C'.N n = C.N n) (hB : B ≤ B') : VR h' C' B' x v := by
  induction e with
  | junk v => exact .junk v
  | imm x v e => exact .imm x v (e.mono hj)
  | ptr n o b hn hb => exact .ptr n o b (by omega) ((congrArg Loc.blk (hN n hn)).trans hb)
  | vec n b hn hb =>
    rw [← hN n hn]
    exact .vec n b (by omega) ((congrArg Loc.blk (hN n hn)).trans hb)
  | vecNil n hn hb => exact .vecNil n (by omega) ((congrArg Loc.blk (hN n hn)).trans hb)
  | sub n o l c b p hn hb hc hl hp =>
    have e := hN n hn
    exact .sub n o l c b p (by omega) (by rw [e]; exact hb) hc (by rw [e]; exact hl) (by rw [e]; exact hp)
  | subNil n o hn hb => exact .subNil n o (by omega) ((congrArg Loc.blk (hN n hn)).trans hb)
  | eptr n i off b hn hb =>
    rw [← hN n hn]
    exact .eptr n i off b (by omega) ((congrArg Loc.blk (hN n hn)).trans hb)
  | elem p x off b q arr ty fz cv hj' hb ha hv =>
    exact .elem p x off b q arr ty fz cv (hj p b hj').1 ((hj p b hj').2.trans hb) ha (fun j y hy => (hv j y hy).mono hj)
  | map n b hn hb => exact .map n b (by omega) ((congrArg Loc.blk (hN n hn)).trans hb)
  | func f a c x y ha hc _ _ ihx ihy => exact .func f a c x y ha hc ihx ihy
  | agg cs arr hl _ ih => exact .agg cs arr hl ih
  | tup cs arr hl _ ih => exact .tup cs arr hl ih
  | iface t x v _ ih => exact .iface t x v ih

theorem LR.mono {h h' : Array Obj} {C C' : Cx} {B B' : Nat} {cs : List V} {arr : Array Value} (e : LR h C B cs arr) (hj : ∀ p b, C.J p b → C'.J p b ∧ h'[b]? = h[b]?)
    (hN : ∀ n, n < B → C'.N n = C.N n) (hB : B ≤ B') : LR h' C' B' cs arr :=
  ⟨e.1, fun i x v hx hv => (e.2 i x v hx hv).mono hj hN hB⟩

theorem OR.mono {h h' : Array Obj} {C C' : Cx} {B B' n : Nat} {S : Nat → Prop} {o : Ob} (e : OR h C B n S o) (hj : ∀ p b, C.J p b → C'.J p b ∧ h'[b]? = h[b]?)
    (hN : ∀ n, n < B → C'.N n = C.N n) (hB : B ≤ B') (hn : n < B) (hS : ∀ b, S b → h'[b]? = h[b]?) : OR h' C' B' n S o := by
  have eN := hN n hn
  cases o with
  | cells ty cs =>
    obtain ⟨b, arr, hb, hh, hl, hs⟩ := e
    exact ⟨b, arr, by rw [eN]; exact hb, (hS b ((hs b).2 rfl)).trans hh, hl.mono hj hN hB, hs⟩
  | row ty sz enc xs =>
    obtain ⟨h1, h2, h3⟩ := e
    refine ⟨by rw [eN]; exact h1, by rw [eN]; exact h2, ?_⟩
    rcases h3 with ⟨g1, g2, g3, g4⟩ | ⟨b, arr, fz, g1, g2, g3, g4, g5, g6, g7, g8⟩
    · exact .inl ⟨by rw [eN]; exact g1, g2, by rw [eN]; exact g3, g4⟩
    · refine .inr ⟨b, arr, fz, by rw [eN]; exact g1, (hS b ((g8 b).2 rfl)).trans g2, g3, by rw [eN]; exact g4, by rw [eN]; exact g5, g6, ?_, g8⟩
      intro i x j y hx hy
      obtain ⟨v, hv, hone, hr⟩ := g7 i x j y hx hy
      exact ⟨v, hv, hone, hr.mono hj⟩
  | iter s pos =>
    obtain ⟨b, st, hb, hh, hl, hs⟩ := e
    exact ⟨b, st, by rw [eN]; exact hb, (hS b ((hs b).2 rfl)).trans hh, hl, hs⟩
  | arr ty pre enc xs =>
    obtain ⟨b, arr, hb, hh, hsz, hl, hx, hs⟩ := e
    refine ⟨b, arr, by rw [eN]; exact hb, (hS b ((hs b).2 rfl)).trans hh, hsz, fun i x v h1 h2 => (hl i x v h1 h2).mono hj hN hB, fun i x h1 => ?_, hs⟩
    obtain ⟨v, h2, h3, h4⟩ := hx i x h1
    exact ⟨v, h2, h3, h4.mono hj⟩

theorem HR.mono {h h' : Array Obj} {C C' : Cx} {B B' : Nat} {l : Hp} {S : Nat → Prop} (e : HR h C B l S) (hj : ∀ p b, C.J p b → C'.J p b ∧ h'[b]? = h[b]?)
    (hN : ∀ n, n < B → C'.N n = C.N n) (hB : B ≤ B') (hS : ∀ b, S b → h'[b]? = h[b]?) : HR h' C' B' l S := by
  induction e with
  | nil S e => exact .nil S e
  | cons n o l S1 S2 S hn hne ho hl hd e ih =>
    exact .cons n o l S1 S2 S (by omega) hne (ho.mono hj hN hB hn (fun b hb => hS b ((e b).2 (.inl hb)))) (ih (fun b hb => hS b ((e b).2 (.inr hb)))) hd e

/-- an owned thing, by its name -/
theorem HR.get {h : Array Obj} {C : Cx} {B : Nat} {l : Hp} {S : Nat → Prop} (e : HR h C B l S) {n : Nat} {o : Ob} (ho : obj n l = some o) :
    ∃ S1, OR h C B n S1 o ∧ n < B ∧ ∀ b, S1 b → S b := by
  induction e with
  | nil S e => simp [obj] at ho
  | cons k o' l S1 S2 S hn hne hor hl hd e ih =>
    simp only [obj] at ho
    by_cases hk : k = n
    · subst hk
      simp at ho
      subst ho
      exact ⟨S1, hor, hn, fun b hb => (e b).2 (.inl hb)⟩
    · have : Nat.beq k n = false := beq_ne hk
      rw [this] at ho
      obtain ⟨S3, h3, h4, h5⟩ := ih ho
      exact ⟨S3, h3, h4, fun b hb => (e b).2 (.inr (h5 b hb))⟩

/-- an owned thing is another one from now on -/
theorem HR.set {h h' : Array Obj} {C : Cx} {B : Nat} {l : Hp} {S S1 : Nat → Prop} (e : HR h C B l S) {n : Nat} {o o' : Ob} (ho : obj n l = some o) (hor : OR h C B n S1 o)
    (hS1 : ∀ S2, OR h C B n S2 o → ∀ b, S2 b ↔ S1 b)
    (hor' : OR h' C B n S1 o') (hj : ∀ p b, C.J p b → h'[b]? = h[b]?) (hS : ∀ b, S b → ¬ S1 b → h'[b]? = h[b]?) : HR h' C B (upd n o' l) S := by
  induction e with
  | nil S e => simp [obj] at ho
  | cons k o'' l T1 T2 T hn hne hko hl hd e ih =>
    simp only [obj] at ho
    simp only [upd]
    by_cases hk : k = n
    · subst hk
      simp at ho
      subst ho
      simp only [Nat.beq_refl, cond_true]
      have ht := hS1 T1 hko
      refine .cons k o' l S1 T2 T hn hne hor' (hl.mono (fun p b hb => ⟨hb, hj p b hb⟩) (fun _ _ => rfl) (Nat.le_refl _) ?_) (fun b hb => hd b ((ht b).2 hb)) (fun b => by rw [e b, ht b])
      intro b hb
      exact hS b ((e b).2 (.inr hb)) (fun h1 => hd b ((ht b).2 h1) hb)
    · have hb : Nat.beq k n = false := beq_ne hk
      rw [hb] at ho
      simp only [hb, cond_false]
      obtain ⟨S3, h3, h4, h5⟩ := hl.get ho
      have h3' := hS1 S3 h3
      refine .cons k o'' (upd n o' l) T1 T2 T hn ?_ (hko.mono (fun p b hb => ⟨hb, hj p b hb⟩) (fun _ _ => rfl) (Nat.le_refl _) hn ?_) (ih ho (fun b hb => hS b ((e b).2 (.inr hb)))) hd e
      · intro a ha
        have : ∀ (l : Hp), (∀ a ∈ l, a.1 ≠ k) → ∀ a ∈ upd n o' l, a.1 ≠ k := by
          intro l
          induction l with
          | nil => intro _ a ha; simp [upd] at ha
          | cons c r ihr =>
            intro hl a ha
            obtain ⟨c1, c2⟩ := c
            simp only [upd] at ha
            cases hc : Nat.beq c1 n with
            | true =>
              simp only [hc, cond_true, List.mem_cons] at ha
              rcases ha with rfl | ha
              · exact hl (c1, c2) (by simp)
              · exact hl a (by simp [ha])
            | false =>
              simp only [hc, cond_false, List.mem_cons] at ha
              rcases ha with rfl | ha
              · exact hl (c1, c2) (by simp)
              · exact ihr (fun a ha => hl a (by simp [ha])) a ha
        exact this l hne a ha
      · intro b hb
        exact hS b ((e b).2 (.inl hb)) (fun h1 => hd b hb (h5 b ((h3' b).2 h1)))

/-- an owned thing is let go -/
theorem HR.del {h : Array Obj} {C : Cx} {B : Nat} {l : Hp} {S : Nat → Prop} (e : HR h C B l S) {n : Nat} {o : Ob} (ho : obj n l = some o) :
    ∃ S1 S2, OR h C B n S1 o ∧ HR h C B (del n l) S2 ∧ (∀ b, S1 b → ¬ S2 b) ∧ (∀ b, S b ↔ S1 b ∨ S2 b) ∧ (∀ a ∈ Sx.del n l, a.1 ≠ n) ∧ n < B := by
  induction e with
  | nil S e => simp [obj] at ho
  | cons k o' l S1 S2 S hn hne hor hl hd e ih =>
    simp only [obj] at ho
    simp only [Sx.del]
    by_cases hk : k = n
    · subst hk
      simp at ho
      subst ho
      simp only [Nat.beq_refl, cond_true]
      exact ⟨S1, S2, hor, hl, hd, e, hne, hn⟩
    · have hb : Nat.beq k n = false := beq_ne hk
      rw [hb] at ho
      simp only [hb, cond_false]
      obtain ⟨T1, T2, h1, h2, h3, h4, h5, h6⟩ := ih ho
      have hmem : ∀ (l : Hp) (a : Nat × Ob), a ∈ Sx.del n l → a ∈ l := by
        intro l
        induction l with
        | nil => intro a ha; simp [Sx.del] at ha
        | cons c r ihr =>
          intro a ha
          obtain ⟨c1, c2⟩ := c
          simp only [Sx.del] at ha
          cases hc : Nat.beq c1 n with
          | true => simp only [hc, cond_true] at ha; simp [ha]
          | false =>
            simp only [hc, cond_false, List.mem_cons] at ha
            rcases ha with rfl | ha
            · simp
            · simp [ihr a ha]
      refine ⟨T1, fun b => S1 b ∨ T2 b, h1, .cons k o' (Sx.del n l) S1 T2 _ hn (fun a ha => hne a (hmem l a ha)) hor h2 (fun b hb ht => hd b hb ((h4 b).2 (.inr ht))) (fun b => Iff.rfl), ?_, ?_, ?_, h6⟩
      · rintro b hb (h | h)
        · exact hd b h ((h4 b).2 (.inl hb))
        · exact h3 b hb h
      · intro b
        rw [e b, h4 b]
        constructor
        · rintro (h | h | h)
          · exact .inr (.inl h)
          · exact .inl h
          · exact .inr (.inr h)
        · rintro (h | h | h)
          · exact .inr (.inl h)
          · exact .inl h
          · exact .inr (.inr h)
      · intro a ha
        simp only [List.mem_cons] at ha
        rcases ha with rfl | ha
        · exact hk
        · exact h5 a ha

end Go.Sx
end

section
namespace Go.Sx
set_option linter.unusedVariables false

theorem ex_list {α : Type} {R : Nat → α → Prop} : ∀ n : Nat, (∀ i, i < n → ∃ x, R i x) → ∃ xs : List α, xs.length = n ∧ ∀ (i : Nat) x, xs[i]? = some x → R i x
  | 0, _ => ⟨[], rfl, fun i x h => by simp at h⟩
  | n + 1, h => by
    obtain ⟨xs, h1, h2⟩ := ex_list n (fun i hi => h i (by omega))
    obtain ⟨x, hx⟩ := h n (by omega)
    refine ⟨xs ++ [x], by simp [h1], fun i y hy => ?_⟩
    by_cases hi : i < n
    · rw [List.getElem?_append_left (by omega)] at hy
      exact h2 i y hy
    · have hin : i = n := by
        have := (List.getElem?_eq_some_iff.1 hy).1
        simp at this; omega
      subst hin
      rw [List.getElem?_append_right (by omega), h1] at hy
      simp at hy
      subst hy
      exact hx

theorem mapM_range {β : Type} {f : Nat → Option β} : ∀ (n : Nat) (l : List β), (List.range n).mapM f = some l → l.length = n ∧ ∀ i, i < n → ∃ y, f i = some y ∧ l[i]? = some y := by
  have key : ∀ (xs : List Nat) (l : List β), xs.mapM f = some l → l.length = xs.length ∧ ∀ (i : Nat) x, xs[i]? = some x → ∃ y, f x = some y ∧ l[i]? = some y := by
    intro xs
    induction xs with
    | nil => intro l h; simp at h; subst h; exact ⟨rfl, fun i x h => by simp at h⟩
    | cons x xs ih =>
      intro l h
      simp only [List.mapM_cons, Option.bind_eq_bind, Option.pure_def, Option.bind_eq_some_iff] at h
      obtain ⟨y, hy, l', hl', h⟩ := h
      cases h
      obtain ⟨h1, h2⟩ := ih l' hl'
      refine ⟨by simp [h1], fun i z hz => ?_⟩
      cases i with
      | zero => simp at hz; subst hz; exact ⟨y, hy, rfl⟩
      | succ i => simp at hz; simpa using h2 i z hz
  intro n l h
  obtain ⟨h1, h2⟩ := key _ _ h
  exact ⟨by simpa using h1, fun i hi => h2 i i (by simp [hi])⟩

theorem add_zero (a : Addr) : a.add 0 = a := by simp [Addr.add]
theorem add_none (b o k : Nat) : (⟨b, o, none⟩ : Addr).add k = ⟨b, o + k, none⟩ := by
  unfold Addr.add
  split
  · rename_i h; subst h; rfl
  · rfl

section
variable {H : Type} {enc : TypeId × Value → H} {P : Program} {W : World}

abbrev JJ (W : World) : Bool → Nat → Prop := fun _ b => b < W.heap.size

/-- what reads as a t is one of these -/
def Rd (enc : TypeId × Value → H) (P : Program) (W : World) (t : TypeId) (n : Nat) {α : Type} (e : α → V) (ok : α → Prop) : Prop :=
  ∀ (fuel : Nat) (cs : List Value) (d : DataW H) (ps : List MemPlace), cs.length = n → DataW.trod enc P W 0 (fun _ => true) true fuel t cs = some (d, ps) →
    ∃ x : α, ok x ∧ (e x).cells.length = n ∧ ∀ (j : Nat) (y : V) (v : Value), (e x).cells[j]? = some y → cs[j]? = some v → IR W.heap (JJ W) y v ∧ v.oneCell' = true

theorem Rd.map {t n : Nat} {α β : Type} {e : α → V} {ok : α → Prop} (h : Rd enc P W t n e ok) {e' : β → V} {ok' : β → Prop} (g : α → β) (h1 : ∀ x, ok x → e' (g x) = e x) (h2 : ∀ x, ok x → ok' (g x)) : Rd enc P W t n e' ok' := by
  intro fuel cs d ps hl ht
  obtain ⟨x, a, b, c⟩ := h fuel cs d ps hl ht
  exact ⟨g x, h2 x a, by rw [h1 x a]; exact b, by rw [h1 x a]; exact c⟩

theorem rd_int {t : TypeId} {k : IntKind} (ht : P.underlying t = some (.int k)) : Rd enc P W t 1 (fun n : Int => V.int k n) (fun n => k.min ≤ n ∧ n ≤ k.max) := by
  intro fuel cs d ps hl h
  cases fuel with
  | zero => simp [DataW.trod] at h
  | succ fuel =>
    obtain ⟨v, rfl⟩ := List.length_eq_one_iff.1 hl
    clear hl
    · skip
      simp only [DataW.trod, ht] at h
      cases v <;> simp at h
      rename_i k' n
      obtain ⟨⟨rfl, hw⟩, _⟩ := h
      refine ⟨n, by simpa [Lit.wf] using hw, rfl, fun j y v hy hv => ?_⟩
      cases j with
      | zero => simp [V.cells] at hy hv; subst hy; subst hv; exact ⟨.int _ _, rfl⟩
      | succ j => simp [V.cells] at hy

theorem rd_bool {t : TypeId} (ht : P.underlying t = some .bool) : Rd enc P W t 1 (fun b : Bool => V.bool b) (fun _ => True) := by
  intro fuel cs d ps hl h
  cases fuel with
  | zero => simp [DataW.trod] at h
  | succ fuel =>
    obtain ⟨v, rfl⟩ := List.length_eq_one_iff.1 hl
    clear hl
    · skip
      simp only [DataW.trod, ht] at h
      cases v <;> simp at h
      rename_i b
      refine ⟨b, trivial, rfl, fun j y v hy hv => ?_⟩
      cases j with
      | zero => simp [V.cells] at hy hv; subst hy; subst hv; exact ⟨.bool _, rfl⟩
      | succ j => simp [V.cells] at hy

theorem rd_str {t : TypeId} (ht : P.underlying t = some .string) : Rd enc P W t 1 (fun s : List UInt8 => V.str s) (fun s => s.length ≤ 9223372036854775807) := by
  intro fuel cs d ps hl h
  cases fuel with
  | zero => simp [DataW.trod] at h
  | succ fuel =>
    obtain ⟨v, rfl⟩ := List.length_eq_one_iff.1 hl
    clear hl
    · skip
      simp only [DataW.trod, ht] at h
      cases v <;> simp at h
      rename_i s
      refine ⟨s.data.toList, ?_, rfl, fun j y v hy hv => ?_⟩
      · have := h.1
        simp only [maxLen] at this
        have e : s.data.toList.length = s.size := by rw [Array.length_toList]; rfl
        omega
      cases j with
      | zero => simp [V.cells] at hy hv; subst hy; subst hv; exact ⟨.str _ _ rfl, rfl⟩
      | succ j => simp [V.cells] at hy

theorem rd_slice {t e : TypeId} {sz : Nat} {α : Type} {ee : α → V} {ok : α → Prop} (ht : P.underlying t = some (.slice e)) (hsz : P.cellsOf e = sz) (hp : 0 < sz) (hE : Rd enc P W e sz ee ok) :
    Rd enc P W t 1 (fun xs : List α => V.isl true sz ee xs) (fun xs => (∀ x ∈ xs, ok x) ∧ xs.length ≤ 9223372036854775807) := by
  intro fuel cs d ps hl h
  cases fuel with
  | zero => simp [DataW.trod] at h
  | succ fuel =>
    obtain ⟨v, rfl⟩ := List.length_eq_one_iff.1 hl
    clear hl
    · skip
      have fin : ∀ xs : List α, (∀ x ∈ xs, ok x) → xs.length ≤ 9223372036854775807 → IR W.heap (JJ W) (V.isl true sz ee xs) v → v.oneCell' = true →
          ∃ x : List α, ((∀ y ∈ x, ok y) ∧ x.length ≤ 9223372036854775807) ∧ (V.isl true sz ee x).cells.length = 1 ∧ ∀ (j : Nat) (y : V) (v' : Value), (V.isl true sz ee x).cells[j]? = some y → [v][j]? = some v' → IR W.heap (JJ W) y v' ∧ v'.oneCell' = true := by
        intro xs h1 h2 h3 h4
        refine ⟨xs, ⟨h1, h2⟩, rfl, fun j y v' hy hv => ?_⟩
        cases j with
        | zero => simp [V.cells] at hy hv; subst hy; subst hv; exact ⟨h3, h4⟩
        | succ j => simp [V.cells] at hy
      simp only [DataW.trod, ht] at h
      cases v <;> try (simp at h; done)
      rename_i ao len cap
      cases ao with
      | none =>
        cases len <;> cases cap <;> simp at h
        exact fin [] (by simp) (by simp) (.islNil _ _ _ none 0 (fun _ => rfl)) rfl
      | some a =>
        simp only at h
        split at h
        · rename_i hc
          obtain ⟨hc1, hc2, hc3⟩ := hc
          simp only [maxLen] at hc3
          simp only [Option.bind_eq_some_iff] at h
          obtain ⟨elems, hel, _⟩ := h
          obtain ⟨_, hel2⟩ := mapM_range len elems hel
          cases len with
          | zero => exact fin [] (by simp) (by simp) (.islNil _ _ _ (some a) cap (fun h => by cases h)) rfl
          | succ len =>
            have hsp : a.spot = none := by
              obtain ⟨y, hy, _⟩ := hel2 0 (by omega)
              simp only [Option.bind_eq_some_iff] at hy
              obtain ⟨ci, hci, _⟩ := hy
              unfold World.cells? at hci
              rw [hsz, if_pos (Nat.zero_le _)] at hci
              obtain ⟨_, l2⟩ := mapM_range sz ci hci
              obtain ⟨v, hv, _⟩ := l2 0 hp
              rw [Nat.zero_mul, add_zero, add_zero] at hv
              unfold World.cell? at hv
              split at hv
              · split at hv
                · cases hv
                · rename_i hs; simpa using hs
              · cases hv
            obtain ⟨b, o, sp⟩ := a
            simp only at hsp
            subst hsp
            have each : ∀ i, i < len + 1 → ∃ x : α, (ok x ∧ (ee x).cells.length = sz ∧ ∀ (j : Nat) (y : V), (ee x).cells[j]? = some y → ∃ v, W.cell? ⟨b, o + (i * sz + j), none⟩ = some v ∧ IR W.heap (JJ W) y v ∧ v.oneCell' = true) := by
              intro i hi
              obtain ⟨y, hy, _⟩ := hel2 i hi
              simp only [Option.bind_eq_some_iff] at hy
              obtain ⟨ci, hci, hy⟩ := hy
              unfold World.cells? at hci
              rw [hsz, if_pos (Nat.zero_le _)] at hci
              obtain ⟨l1, l2⟩ := mapM_range sz ci hci
              obtain ⟨d', ps'⟩ := y
              obtain ⟨x, g1, g2, g3⟩ := hE fuel ci d' ps' l1 hy
              refine ⟨x, g1, g2, fun j y hy => ?_⟩
              have hj : j < sz := by rw [← g2]; exact (List.getElem?_eq_some_iff.1 hy).1
              obtain ⟨v, hv1, hv2⟩ := l2 j hj
              refine ⟨v, ?_, g3 j y v hy hv2⟩
              rw [← hv1, add_none, add_none, Nat.add_assoc]
            obtain ⟨xs, x1, x2⟩ := ex_list (len + 1) each
            obtain ⟨x0, hx0⟩ : ∃ x, xs[0]? = some x := ⟨_, List.getElem?_eq_getElem (by omega)⟩
            obtain ⟨_, z1, z2⟩ := x2 0 x0 hx0
            obtain ⟨y0, hy0⟩ : ∃ y, (ee x0).cells[0]? = some y := ⟨_, List.getElem?_eq_getElem (by omega)⟩
            obtain ⟨v0, hv0, _⟩ := z2 0 y0 hy0
            unfold World.cell? at hv0
            split at hv0
            · rename_i arr ty fz hb
              have hlt : b < W.heap.size := (Array.getElem?_eq_some_iff.1 hb).1
              refine fin xs (fun x hx => ?_) (by omega) ?_ rfl
              · obtain ⟨i, hi⟩ := List.getElem?_of_mem hx
                exact (x2 i x hi).1
              · rw [← x1]
                have at_ : ∀ (i : Nat) (x : α) (j : Nat) (y : V), xs[i]? = some x → (ee x).cells[j]? = some y → arr[o + (i * sz + j)]? = some (arr.getD (o + (i * sz + j)) undef) ∧ IR W.heap (JJ W) y (arr.getD (o + (i * sz + j)) undef) ∧ (arr.getD (o + (i * sz + j)) undef).oneCell' = true := by
                  intro i x j y hx hy
                  obtain ⟨_, _, w⟩ := x2 i x hx
                  obtain ⟨v, hv, hr, ho⟩ := w j y hy
                  have hv : arr[o + (i * sz + j)]? = some v := by
                    unfold World.cell? at hv
                    simp only [hb] at hv
                    simpa using hv
                  have : arr.getD (o + (i * sz + j)) undef = v := by simp [Array.getD_eq_getD_getElem?, hv]
                  rw [this]
                  exact ⟨hv, hr, ho⟩
                exact .isl true sz ee xs b o cap arr ty fz (fun i j => arr.getD (o + (i * sz + j)) undef) hlt hb (by omega) (fun i x hx => (x2 i x hx).2.1) (fun i x j y hx hy => (at_ i x j y hx hy).1) (fun i x j y hx hy => (at_ i x j y hx hy).2.1) (fun i x j y hx hy => (at_ i x j y hx hy).2.2)
            · cases hv0
        · cases h

end
end Go.Sx
end

section
namespace Go.Sx

abbrev Post := V → Hp → Nat → Prop
abbrev Tab := TypeId → Option TI

/-- a byte, as a value -/
def encB (b : UInt8) : V := .int .u8 (b.toNat : Int)

def memG (g : Nat) (p : Bool) : List (Nat × Bool) → Bool
  | [] => false
  | (k, q) :: l => bif Nat.beq k g then (bif p then q else !q) else memG g p l

def strip (al : List (Nat × Bool)) : V → V
  | .whn g p x => bif memG g p al then x else .junk
  | v => v

/-- an operand's value, where the guards al hold -/
def evg (al : List (Nat × Bool)) (tm : Tm) (x : Operand) : V := strip al (ev tm x)

def evgs (al : List (Nat × Bool)) (tm : Tm) : List Operand → List V
  | [] => []
  | x :: l => evg al tm x :: evgs al tm l

def V.flat : V → Bool
  | .junk | .agg _ | .tup _ | .whn _ _ _ => false
  | _ => true

def flats : List V → Bool
  | [] => true
  | x :: l => V.flat x && flats l

/-- does it have known cells? -/
def V.known : V → Bool
  | .agg cs => flats cs
  | v => V.flat v

mutual
def V.isImm : V → Bool
  | .bool _ | .int _ _ | .str _ | .nilp | .nils | .nilm | .nilf | .nili | .isl _ _ _ _ => true
  | .func _ a c => a.isEmpty && c.isEmpty
  | .agg cs => allImm cs
  | _ => false
def allImm : List V → Bool
  | [] => true
  | x :: l => V.isImm x && allImm l
end

def bitI (op : BinOp) (k : IntKind) (x y : Int) : Int :=
  let a := BitVec.ofInt k.bits x
  let b := BitVec.ofInt k.bits y
  match op with
  | .and => k.wrap (a &&& b).toNat
  | .or => k.wrap (a ||| b).toNat
  | .xor => k.wrap (a ^^^ b).toNat
  | _ => k.wrap (a &&& ~~~b).toNat

def cmpI (op : BinOp) (x y : Int) : Option Bool := match op with
  | .eql => some (decide (x = y))
  | .neq => some (!decide (x = y))
  | .lss => some (decide (x < y))
  | .leq => some (decide (x ≤ y))
  | .gtr => some (decide (y < x))
  | .geq => some (decide (y ≤ x))
  | _ => none

/-- operations on two numbers that can't panic -/
def binI (op : BinOp) (k : IntKind) (x y : Int) : Option V := match op with
  | .add => some (.int k (k.wrap (x + y)))
  | .sub => some (.int k (k.wrap (x - y)))
  | .mul => some (.int k (k.wrap (x * y)))
  | .and | .or | .xor | .andNot => some (.int k (bitI op k x y))
  | .quo | .rem | .shl | .shr => none
  | op => (cmpI op x y).map .bool

def binS (op : BinOp) (x y : List UInt8) : Option V := match op with
  | .eql => some (.bool (x == y))
  | .neq => some (.bool (!(x == y)))
  | .lss => some (.bool (Op.bytesLess x y))
  | .leq => some (.bool (Op.bytesLess x y || x == y))
  | .gtr => some (.bool (!(Op.bytesLess x y || x == y)))
  | .geq => some (.bool (!Op.bytesLess x y))
  | _ => none

def kEq : IntKind → IntKind → Bool
  | .i8, .i8 | .i16, .i16 | .i32, .i32 | .i64, .i64 | .u8, .u8 | .u16, .u16 | .u32, .u32 | .u64, .u64 => true
  | _, _ => false

def isShift : BinOp → Bool
  | .shl | .shr => true
  | _ => false

/-- what needs neither memory nor luck -/
def binP (op : BinOp) (x y : V) : Option V := match x, y with
  | .int k a, .int k' b => bif isShift op then none else bif kEq k k' then binI op k a b else none
  | .str a, .str b => binS op a b
  | _, _ => none

/-- are two structs of plain parts the same? -/
def eqA (tab : Tab) : List (Nat × TypeId) → List V → List V → Option Bool
  | [], _, _ => some true
  | (o, t) :: fs, xs, ys => match tab t with
    | some ti => match ti.desc with
      | .int _ => match nth o xs, nth o ys with
        | some (.int k a), some (.int k' b) => bif kEq k k' then (eqA tab fs xs ys).map (decide (a = b) && ·) else none
        | _, _ => none
      | .bool => match nth o xs, nth o ys with
        | some (.bool a), some (.bool b) => (eqA tab fs xs ys).map ((a == b) && ·)
        | _, _ => none
      | .str => match nth o xs, nth o ys with
        | some (.str a), some (.str b) => (eqA tab fs xs ys).map ((a == b) && ·)
        | _, _ => none
      | _ => none
    | none => none

def eqV (op : BinOp) (r : Option Bool) : Option V := match op with
  | .eql => r.map .bool
  | .neq => r.map fun b => .bool (!b)
  | _ => none

/-- comparisons that look at their type -/
def eqP (tab : Tab) (op : BinOp) (t : TypeId) (x y : V) : Option V := match tab t with
  | some ⟨_, _, .bool, _, _⟩ => match x, y with
    | .bool a, .bool b => eqV op (some (a == b))
    | _, _ => none
  | some ⟨_, _, .ptr _, _, _⟩ => match x, y with
    | .nilp, .nilp => eqV op (some true)
    | .ptr _ _, .nilp => eqV op (some false)
    | .nilp, .ptr _ _ => eqV op (some false)
    | _, _ => none
  | some ⟨_, _, .struct fs, _, true⟩ => match x, y with
    | .agg xs, .agg ys => eqV op (eqA tab fs xs ys)
    | _, _ => none
  | _ => none

def pickP (c a b : V) : Option V := match c with
  | .bool c => match a with
    | .bool x => match b with
      | .bool y => some (.bool (bif c then x else y))
      | _ => match c with
        | true => some (.bool x)
        | false => none
    | _ => match b with
      | .bool y => match c with
        | true => none
        | false => some (.bool y)
      | _ => none
  | _ => none

/-- of a pick, what the one side is where the test says so -/
def side (c : Operand) (p : Bool) (al : List (Nat × Bool)) (tm : Tm) (x : Operand) : V := match c with
  | .tmp t => evg ((t, p) :: al) tm x
  | _ => evg al tm x

def foffs (n : Nat) : List (Nat × TypeId) → Option (Nat × TypeId)
  | [] => none
  | x :: l => match n with
    | 0 => some x
    | n + 1 => foffs n l

def fieldOff (tab : Tab) (t : TypeId) (f : Nat) : Option (Nat × TypeId) := match tab t with
  | some ⟨_, _, .struct fs, _, _⟩ => foffs f fs
  | _ => none

def fieldP (tab : Tab) (t : TypeId) (x : V) (f : Nat) : Option V := match fieldOff tab t f with
  | some (o, t') => match tab t' with
    | some ti => bif Nat.beq ti.size 0 then none else match x with
      | .ptr n q => some (.ptr n (q + o))
      | .eptr n i q => some (.eptr n i (q + o))
      | .elem p y q => some (.elem p y (q + o))
      | _ => none
    | none => none
  | none => none

def convP (tab : Tab) (s d : TypeId) (x : V) : Option V := match tab s with
  | none => none
  | some _ => match x with
    | .int _ n => match tab d with
      | some ⟨_, _, .int k, _, _⟩ => some (.int k (k.wrap n))
      | _ => none
    | .str s => match tab d with
      | some ⟨_, _, .str, _, _⟩ => some (.str s)
      | _ => none
    | _ => none

def lenP (tab : Tab) (t : TypeId) (hp : Hp) (x : V) : Option V := match tab t with
  | some ⟨_, _, .str, _, _⟩ => match x with
    | .str s => some (.int .i64 (s.length : Int))
    | _ => none
  | some ⟨_, _, .slice _, _, _⟩ => match x with
    | .nils => some (.int .i64 0)
    | .isl _ _ _ xs => some (.int .i64 (xs.length : Int))
    | .vec n => match obj n hp with
      | some (.row _ _ _ xs) => some (.int .i64 (xs.length : Int))
      | _ => none
    | .sub _ _ l => some (.int .i64 (l : Int))
    | _ => none
  | _ => none

def minP (x y : V) : Option V := match x, y with
  | .int k a, .int k' b => bif kEq k k' then some (.int k (if b < a then b else a)) else none
  | _, _ => none

def maxP (x y : V) : Option V := match x, y with
  | .int k a, .int k' b => bif kEq k k' then some (.int k (if a < b then b else a)) else none
  | _, _ => none

def callP (tab : Tab) (al : List (Nat × Bool)) (tm : Tm) (hp : Hp) (c : Call) : Option V := match c.callee with
  | .builtin b => match c.args.toList with
    | [x] => match b with
      | .len => match c.argTypes.toList with
        | [t] => lenP tab t hp (evg al tm x)
        | _ => none
      | _ => none
    | [x, y] => match b with
      | .min => minP (evg al tm x) (evg al tm y)
      | .max => maxP (evg al tm x) (evg al tm y)
      | _ => none
    | _ => none
  | _ => none

/-- operations that ask nothing of memory and can't fail -/
def apure (tab : Tab) (al : List (Nat × Bool)) (tm : Tm) (hp : Hp) : Op → Option V
  | .move x | .assign x => match evg al tm x with
    | .junk => none
    | v => some v
  | .pick c a b => pickP (evg al tm c) (side c true al tm a) (side c false al tm b)
  | .nilCheck x => match evg al tm x with
    | .ptr n o => some (.ptr n o)
    | .eptr n i o => some (.eptr n i o)
    | .elem p y o => some (.elem p y o)
    | .func f [] c => some (.func f [] c)
    | _ => none
  | .binOp op t x y _ => match binP op (evg al tm x) (evg al tm y) with
    | some v => some v
    | none => eqP tab op t (evg al tm x) (evg al tm y)
  | .unOp op _ x => match op, evg al tm x with
    | .not, .bool b => some (.bool (!b))
    | .neg, .int k n => some (.int k (k.wrap (0 - n)))
    | .xor, .int k n => some (.int k (bitI .xor k (if k.signed then -1 else k.max) n))
    | _, _ => none
  | .convert s d x => convP tab s d (evg al tm x)
  | .fieldAddr t x f => fieldP tab t (evg al tm x) f
  | .extract x i => match evg al tm x with
    | .tup vs => nth i vs
    | _ => none
  | .makeFunc fn first caps => match fn with
    | .func f => some (.func f (evgs al tm first.toList) (evgs al tm caps.toList))
    | _ => none
  | .call c => callP tab al tm hp c
  | _ => none

/-- cells from a place on, so many -/
def cut : Nat → Nat → List V → Option (List V)
  | 0, 0, _ => some []
  | 0, _ + 1, [] => none
  | 0, n + 1, x :: l => (cut 0 n l).map (x :: ·)
  | _ + 1, _, [] => none
  | o + 1, n, _ :: l => cut o n l

/-- a variable's value out of cells -/
def ldC (tab : Tab) (t : TypeId) (o : Nat) (cs : List V) : Option V := match tab t with
  | some ti => match ti.desc.isAgg with
    | true => (cut o ti.size cs).map .agg
    | false => nth o cs
  | none => none

/-- loads that can't fail -/
def aload (tab : Tab) (hp : Hp) (t : TypeId) (a : V) : Option V := match a with
  | .ptr n o => match obj n hp with
    | some (.cells _ cs) => ldC tab t o cs
    | some (.arr _ pre _ _) => match Nat.blt o pre.length with
      | true => ldC tab t o pre
      | false => none
    | _ => none
  | .elem _ x o => ldC tab t o x.cells
  | _ => none

/-- a bound, or what stands for it -/
def numOf (d : Int) : Option V → Option Int
  | none => some d
  | some (.int _ n) => some n
  | _ => none

/-- bounds of a slice expression over n elements -/
def bnd (n : Nat) (lo hi mx : Option V) (K : Nat → Nat → Prop) : Prop := match hi, mx with
  | none, some _ => Stuck "slice: bounds"
  | _, _ => match numOf 0 lo, numOf n hi, numOf n mx with
    | some l, some h, some m => (0 ≤ l ∧ l ≤ h ∧ h ≤ m ∧ m ≤ (n : Int)) ∧ K l.toNat h.toNat
    | _, _, _ => Stuck "slice: bounds"

/-- a part of a list -/
def seg {α : Type} (lo hi : Option V) (l h : Nat) (xs : List α) : List α := match lo, hi with
  | none, none => xs
  | none, some _ => xs.take h
  | some _, none => xs.drop l
  | some _, some _ => (xs.take h).drop l

def oSlice (tab : Tab) (t : TypeId) (hp : Hp) (x : V) (lo hi mx : Option V) (K : V → Prop) : Prop := match tab t with
  | some ⟨_, _, .str, _, _⟩ => match x with
    | .str s => match mx with
      | none => bnd s.length lo hi none fun l h => K (.str (seg lo hi l h s))
      | _ => Stuck "slice: a string"
    | _ => Stuck "slice: a string"
  | some ⟨_, _, .slice e, _, _⟩ => match tab e with
    | some te => match x with
      | .isl p sz enc xs => bif Nat.beq sz te.size then bnd xs.length lo hi mx fun l h => K (.isl p sz enc (seg lo hi l h xs)) else Stuck "slice: size"
      | .vec n => match obj n hp with
        | some (.row _ sz _ xs) => bif Nat.beq sz te.size then bnd xs.length lo hi mx fun l h => K (.sub n l (h - l)) else Stuck "slice: size"
        | _ => Stuck "slice: a row that is gone"
      | .sub n o c => match obj n hp with
        | some (.row _ sz _ _) => bif Nat.beq sz te.size then bnd c lo hi mx fun l h => K (.sub n (o + l) (h - l)) else Stuck "slice: size"
        | _ => Stuck "slice: a row that is gone"
      | .nils => bnd 0 lo hi mx fun _ _ => K .nils
      | _ => Stuck "slice"
    | none => Stuck "slice: no type"
  | _ => Stuck "slice: type"

def oIndexAddr (tab : Tab) (hp : Hp) (t : TypeId) (x i : V) (K : V → Prop) : Prop := match i with
  | .int _ n => match tab t with
    | some ⟨_, _, .slice e, _, _⟩ => match tab e with
      | some te => match x with
        | .vec m => match obj m hp with
          | some (.row _ sz _ xs) => bif Nat.beq sz te.size then (0 ≤ n ∧ n < (xs.length : Int)) ∧ K (.eptr m n.toNat 0) else Stuck "index: size"
          | _ => Stuck "index: a row that is gone"
        | .sub m o l => match obj m hp with
          | some (.row _ sz _ _) => bif Nat.beq sz te.size then (0 ≤ n ∧ n < (l : Int)) ∧ K (.eptr m (o + n.toNat) 0) else Stuck "index: size"
          | _ => Stuck "index: a row that is gone"
        | .isl p sz enc xs => bif Nat.beq sz te.size then (0 ≤ n ∧ n < (xs.length : Int)) ∧ ∀ y, xs[n.toNat]? = some y → fV (enc y) fun v => K (.elem p v 0) else Stuck "index: size"
        | _ => Stuck "index"
      | none => Stuck "index: no type"
    | some ⟨_, _, .arr len e, _, _⟩ => match tab e with
      | some te => match x with
        | .ptr m o => (0 ≤ n ∧ n < (len : Int)) ∧ K (.ptr m (n.toNat * te.size + o))
        | _ => Stuck "index: array"
      | none => Stuck "index: no type"
    | _ => Stuck "index: type"
  | _ => Stuck "index: no number"

/-- parts laid into cells -/
def fillK (place : Nat → Option (Nat × Nat)) : List (Nat × V) → List V → (List V → Prop) → Prop
  | [], cs, K => K cs
  | (i, v) :: r, cs, K => match place i with
    | some (o, n) => bif V.known v && (Nat.beq v.cells.length n && Nat.ble (o + n) cs.length) then setsK o v.cells cs fun cs => fillK place r cs K else Stuck "build: a part"
    | none => Stuck "build: no such part"

def evParts (al : List (Nat × Bool)) (tm : Tm) : List (Nat × Operand) → List (Nat × V)
  | [] => []
  | (i, x) :: l => (i, evg al tm x) :: evParts al tm l

def ofVals : List Value → List V
  | [] => []
  | x :: l => ofVal x :: ofVals l

def oBuild (tab : Tab) (t : TypeId) (ps : List (Nat × V)) (K : V → Prop) : Prop := match tab t with
  | some ⟨_, _, .struct fs, z, _⟩ => fL (ofVals z) fun cs => fillK (fun i => match foffs i fs with
      | some (o, t') => match tab t' with
        | some ti => some (o, ti.size)
        | none => none
      | none => none) ps cs fun cs => K (.agg cs)
  | some ⟨_, _, .arr _ e, z, _⟩ => match tab e with
    | some ti => fL (ofVals z) fun cs => fillK (fun i => some (i * ti.size, ti.size)) ps cs fun cs => K (.agg cs)
    | none => Stuck "build: no type"
  | _ => Stuck "build"

def oDiv (op : BinOp) (k : IntKind) (x y : Int) (K : V → Prop) : Prop := match op with
  | .quo => y ≠ 0 ∧ K (.int k (k.wrap (x.tdiv y)))
  | .rem => y ≠ 0 ∧ K (.int k (x.tmod y))
  | _ => Stuck "division"

def oShift (op : BinOp) (k : IntKind) (x y : Int) (K : V → Prop) : Prop := match op with
  | .shl => 0 ≤ y ∧ K (.int k (k.wrap (x * 2 ^ (min y.toNat k.bits))))
  | .shr => 0 ≤ y ∧ K (.int k (x.fdiv (2 ^ (min y.toNat k.bits))))
  | _ => Stuck "shift"

def optV (al : List (Nat × Bool)) (tm : Tm) : Option Operand → Option V
  | none => none
  | some x => some (evg al tm x)

/-- what it says of a slice that it is nil -/
def nilCase (hp : Hp) (u : V) (K : Prop → Prop) : Prop := match u with
  | .nils => K True
  | .isl _ _ _ xs => K (xs = [])
  | .vec n => match obj n hp with
    | some (.row _ _ _ xs) => K (xs = [])
    | _ => Stuck "nil: a row that is gone"
  | .sub _ _ l => K (l = 0)
  | _ => Stuck "nil: no slice"

def nilEq (tab : Tab) (hp : Hp) (op : BinOp) (t : TypeId) (u : V) (K : V → Prop) : Prop := match op with
  | .eql => match tab t with
    | some ⟨_, _, .slice _, _, _⟩ => nilCase hp u fun q => ∀ b : Bool, (b = true → q) → K (.bool b)
    | _ => Stuck "binOp: nil of what?"
  | _ => Stuck "binOp: nil"

/-- operations that ask nothing of memory -/
def aopW (tab : Tab) (al : List (Nat × Bool)) (tm : Tm) (hp : Hp) (o : Op) (K : V → Prop) : Prop := match apure tab al tm hp o with
  | some v => fV v K
  | none => match o with
    | .slice t x lo hi mx => oSlice tab t hp (evg al tm x) (optV al tm lo) (optV al tm hi) (optV al tm mx) K
    | .indexAddr t x i => oIndexAddr tab hp t (evg al tm x) (evg al tm i) K
    | .build t ps => oBuild tab t (evParts al tm ps.toList) K
    | .binOp op t x y _ => match evg al tm x, evg al tm y with
      | .int k a, .int k' b => bif isShift op then oShift op k a b K else bif kEq k k' then oDiv op k a b K else Stuck "kinds"
      | u, .nils => nilEq tab hp op t u K
      | _, _ => Stuck "binOp"
    | .index t x i => match tab t with
      | some ⟨_, _, .str, _, _⟩ => match evg al tm x, evg al tm i with
        | .str s, .int _ n => (0 ≤ n ∧ n < (s.length : Int)) ∧ ∀ b, s[n.toNat]? = some b → K (encB b)
        | _, _ => Stuck "index: string"
      | _ => Stuck "index: string"
    | .move _ | .assign _ => K .junk
    | _ => Stuck "an operation that is not known"

def isW : Op → Bool
  | .move _ | .assign _ | .pick _ _ _ | .nilCheck _ | .binOp _ _ _ _ _ | .unOp _ _ _ | .fieldAddr _ _ _ | .extract _ _ | .makeFunc _ _ _ | .slice _ _ _ _ _ | .indexAddr _ _ _ | .build _ _ | .index _ _ _ => true
  | .call c => match c.callee with
    | .builtin b => match b with
      | .len | .min | .max => true
      | _ => false
    | _ => false
  | _ => false

/-- what a slice or string holds, to be read at once (elements of sz cells) -/
def src (hp : Hp) (sz : Nat) (x : V) (K : (α : Type) → (α → V) → List α → Prop) : Prop := match x with
  | .nils => K Empty (fun e => nomatch e) []
  | .isl _ sz' enc xs => bif Nat.beq sz' sz then K _ enc xs else Stuck "size"
  | .str s => bif Nat.beq 1 sz then K _ encB s else Stuck "size"
  | .vec n => match obj n hp with
    | some (.row _ sz' enc xs) => bif Nat.beq sz' sz then K _ enc xs else Stuck "size"
    | _ => Stuck "a row that is gone"
  | .sub n o l => match obj n hp with
    | some (.row _ sz' enc xs) => bif Nat.beq sz' sz then K _ enc ((xs.drop o).take l) else Stuck "size"
    | _ => Stuck "a row that is gone"
  | _ => Stuck "no slice"

def oAppend (tab : Tab) (t : TypeId) (a b : V) (hp : Hp) (nx : Nat) (K : Post) : Prop := match tab t with
  | some ⟨_, _, .slice e, _, _⟩ => match tab e with
    | some te => bif Nat.beq te.bytes 0 then Stuck "append: bytes" else match a with
      | .nils => src hp te.size b fun _ enc ys => ys.length * te.bytes ≤ 2 ^ 47 ∧ K (.vec nx) ((nx, .row e te.size enc ys) :: hp) (nx + 1)
      | .vec n => match obj n hp with
        | some (@Ob.row e' sz α enc xs) => bif Nat.beq e' e && Nat.beq sz te.size then
            src hp te.size b fun _ enc' ys => ∃ zs : List α, ys.map enc' = zs.map enc ∧ (xs.length + zs.length) * te.bytes ≤ 2 ^ 47 ∧ delK n hp fun hp => K (.vec nx) ((nx, .row e sz enc (xs ++ zs)) :: hp) (nx + 1)
          else Stuck "append: types"
        | _ => Stuck "append: a row that is gone"
      | _ => Stuck "append"
    | none => Stuck "append: no type"
  | _ => Stuck "append: type"

def oBuildSlice (tab : Tab) (t : TypeId) (len : Nat) (ps : List (Nat × V)) (hp : Hp) (nx : Nat) (K : Post) : Prop := match tab t with
  | some ⟨_, _, .slice e, _, _⟩ => match tab e with
    | some te => bif Nat.beq ps.length len && (Nat.ble len 1000 && Nat.ble te.size 1000) then
        ∃ (α : Type) (enc : α → V) (xs : List α), xs.length = len ∧ (∀ (i : Nat) x, xs[i]? = some x → (ps[i]?).map (·.1) = some i ∧ (enc x).cells.length = te.size ∧ V.known (enc x) = true ∧ V.isImm (enc x) = true ∧ leP (ps[i]?) (enc x)) ∧
          K (.vec nx) ((nx, .row e te.size enc xs) :: hp) (nx + 1)
      else Stuck "buildSlice: parts"
    | none => Stuck "buildSlice: no type"
  | _ => Stuck "buildSlice: type"

def oMakeSlice (tab : Tab) (t : TypeId) (l c : V) (hp : Hp) (nx : Nat) (K : Post) : Prop := match tab t with
  | some ⟨_, _, .slice e, _, _⟩ => match tab e with
    | some te => match l, c with
      | .int .i64 n, .int .i64 m => (0 ≤ n ∧ n ≤ m ∧ m * te.bytes ≤ 2 ^ 47 ∧ m ≤ 2 ^ 47) ∧ ∃ (α : Type) (enc : α → V) (z : α), (enc z).cells = ofVals te.zero ∧ (enc z).cells.length = te.size ∧ V.isImm (enc z) = true ∧ K (.vec nx) ((nx, .row e te.size enc (List.replicate n.toNat z)) :: hp) (nx + 1)
      | _, _ => Stuck "make"
    | none => Stuck "make: no type"
  | _ => Stuck "make: type"

def oStore (tab : Tab) (t : TypeId) (a v : V) (hp : Hp) (nx : Nat) (K : Post) : Prop := match tab t with
  | some ti => bif V.known v && Nat.beq v.cells.length ti.size then match a with
      | .ptr n o => match obj n hp with
        | some (.cells ty cs) => bif Nat.ble (o + v.cells.length) cs.length then setsK o v.cells cs fun cs => updK n (.cells ty cs) hp fun hp => K .junk hp nx else Stuck "store: place"
        | some (@Ob.arr ty pre α enc xs) => match Nat.blt o pre.length with
          | true => bif Nat.ble (o + v.cells.length) pre.length then setsK o v.cells pre fun pre => updK n (.arr ty pre enc xs) hp fun hp => K .junk hp nx else Stuck "store: place"
          | false => bif V.isImm v then ∃ i, o = pre.length + i ∧ i < xs.length ∧ ∃ y : α, v.cells = [enc y] ∧ updK n (.arr ty pre enc (xs.set i y)) hp fun hp => K .junk hp nx else Stuck "store: a value with names"
        | _ => Stuck "store: no such variable"
      | .eptr n i o => match obj n hp with
        | some (@Ob.row ty sz α enc xs) => bif V.isImm v then i < xs.length ∧ ∀ x, xs[i]? = some x → ∃ y : α, (o + v.cells.length ≤ (enc x).cells.length ∧ (enc y).cells = sets o v.cells (enc x).cells) ∧ updK n (.row ty sz enc (xs.set i y)) hp fun hp => K .junk hp nx else Stuck "store: a value with names"
        | _ => Stuck "store: a row that is gone"
      | _ => Stuck "store"
    else Stuck "store: value"
  | none => Stuck "store: no type"

def oLoad (tab : Tab) (t : TypeId) (a : V) (hp : Hp) (nx : Nat) (K : Post) : Prop := match aload tab hp t a with
  | some v => fV v fun v => K v hp nx
  | none => match a with
    | .eptr n i o => match obj n hp with
      | some (.row _ _ enc xs) => i < xs.length ∧ ∀ x, xs[i]? = some x → match ldC tab t o (enc x).cells with
        | some v => fV v fun v => K v hp nx
        | none => Stuck "load: part"
      | _ => Stuck "load: a row that is gone"
    | .ptr n o => match obj n hp with
      | some (.arr _ pre enc xs) => ∃ i, o = pre.length + i ∧ i < xs.length ∧ ∀ x, xs[i]? = some x → match ldC tab t 0 [enc x] with
        | some v => fV v fun v => K v hp nx
        | none => Stuck "load: an array's part"
      | _ => Stuck "load: no such variable"
    | _ => Stuck "load"

def oConv (tab : Tab) (s d : TypeId) (x : V) (hp : Hp) (nx : Nat) (K : Post) : Prop := match convP tab s d x with
  | some v => K v hp nx
  | none => match tab d with
    | some ⟨_, _, .slice e, _, _⟩ => match tab s with
      | some ⟨_, _, .str, _, _⟩ => match tab e with
        | some ⟨_, _, .int .u8, _, _⟩ => match x with
          | .str s => K (.vec nx) ((nx, .row e 1 encB s) :: hp) (nx + 1)
          | _ => Stuck "convert"
        | _ => Stuck "convert: elements"
      | _ => Stuck "convert: source"
    | some ⟨_, _, .str, _, _⟩ => match tab s with
      | some ⟨_, _, .slice e, _, _⟩ => match tab e with
        | some ⟨_, _, .int .u8, _, _⟩ => match x with
          | .str _ => Stuck "convert"
          | x => src hp 1 x fun _ enc ys => ∃ bs : List UInt8, ys.map enc = bs.map encB ∧ K (.str bs) hp nx
        | _ => Stuck "convert: elements"
      | _ => Stuck "convert: source"
    | _ => Stuck "convert: type"

def oNext (it : V) (hp : Hp) (nx : Nat) (K : Post) : Prop := match it with
  | .ptr n 0 => match obj n hp with
    | some (.iter s pos) => br (decide (pos < s.length)) (∀ b, s[pos]? = some b → b.toNat < 128 ∧ updK n (.iter s (pos + 1)) hp fun hp => K (.tup [.bool true, .int .i64 pos, .int .i32 b.toNat]) hp nx) (K (.tup [.bool false]) hp nx)
    | _ => Stuck "next"
  | _ => Stuck "next: no reading"

/-- operations, but calls -/
def aop (tab : Tab) (al : List (Nat × Bool)) (tm : Tm) (hp : Hp) (nx : Nat) (o : Op) (K : Post) : Prop := match o with
  | .load t a => oLoad tab t (evg al tm a) hp nx K
  | .store t a v => fV (evg al tm v) fun v => oStore tab t (evg al tm a) v hp nx K
  | .alloc t => match tab t with
    | some ti => fL (ofVals ti.zero) fun cs => K (.ptr nx 0) ((nx, .cells t cs) :: hp) (nx + 1)
    | none => Stuck "alloc"
  | .box t x => bif V.known (evg al tm x) then fL (evg al tm x).cells fun cs => K (.ptr nx 0) ((nx, .cells t cs) :: hp) (nx + 1) else Stuck "box"
  | .buildSlice t n ps => oBuildSlice tab t n (evParts al tm ps.toList) hp nx K
  | .makeSlice t l c => oMakeSlice tab t (evg al tm l) (evg al tm c) hp nx K
  | .convert s d x => oConv tab s d (evg al tm x) hp nx K
  | .range t x => match tab t with
    | some ⟨_, _, .str, _, _⟩ => match evg al tm x with
      | .str s => K (.ptr nx 0) ((nx, .iter s 0) :: hp) (nx + 1)
      | _ => Stuck "range"
    | _ => Stuck "range: type"
  | .next it true => oNext (evg al tm it) hp nx K
  | .call c => match c.callee with
    | .builtin b => match b with
      | .append => match c.args.toList, c.argTypes.toList with
        | [a, b], [t, u] => match tab u with
          | some ⟨_, _, .slice _, _, _⟩ | some ⟨_, _, .str, _, _⟩ => oAppend tab t (evg al tm a) (evg al tm b) hp nx K
          | _ => Stuck "append: types"
        | _, _ => Stuck "append: arguments"
      | _ => bif isW o then aopW tab al tm hp o fun v => K v hp nx else Stuck "a builtin that is not known"
    | _ => Stuck "a call"
  | o => bif isW o then aopW tab al tm hp o fun v => K v hp nx else Stuck "an operation that is not known"

end Go.Sx
end

section
namespace Go.Sx

/-- what a table's row says of the program's types -/
def DescOk : TD → TypeDesc → Prop
  | .int k, d => d = .int k
  | .bool, d => d = .bool
  | .str, d => d = .string
  | .ptr e, d => d = .pointer e
  | .slice e, d => d = .slice e
  | .arr n e, d => d = .array n e
  | .map k e, d => d = .map k e
  | .struct fs, d => ∃ fields : Array Field, d = .struct fields ∧ fields.toList.map (fun f => (f.offset, f.type)) = fs
  | .func, d => ∃ a b c, d = .func a b c
  | .iface, d => ∃ ms, d = .interface ms
  | .other, d => (∀ fs, d ≠ .struct fs) ∧ ∀ n e, d ≠ .array n e

/-- what a struct's equality needs -/
def EqsOk (P : Program) (t : TypeId) : Prop := P.stoodInHeld t = false ∧ P.eqGuardType P.depth t = false ∧ ∀ f ∈ (P.fieldsOf t).toList, f.name ≠ "_"

def TabOk (P : Program) (tab : Tab) : Prop := ∀ t ti, tab t = some ti → ∃ i d z, P.info? t = some i ∧ P.underlying t = some d ∧ i.size = ti.size ∧ i.bytes = ti.bytes ∧ DescOk ti.desc d ∧
  i.zero = some z ∧ z.cells.toList = ti.zero ∧ (ti.zero.length = ti.size ∧ ∀ v ∈ ti.zero, v.oneCell' = true) ∧ (∀ fs, ti.desc = .struct fs → ∀ p ∈ fs, ∃ i', P.info? p.2 = some i') ∧ (ti.eqs = true → EqsOk P t)

section facts
variable {P : Program} {tab : Tab}

theorem run_info {t : TypeId} {i : TypeInfo} (h : P.info? t = some i) (w : World) : (typeInfo t).run P w = .ok i w := by simp [typeInfo, h]
theorem run_und {t : TypeId} {d : TypeDesc} (h : P.underlying t = some d) (w : World) : (underlying t).run P w = .ok d w := by simp [underlying, h]
theorem run_size {t : TypeId} {i : TypeInfo} (h : P.info? t = some i) (w : World) : (sizeOf t).run P w = .ok i.size w := by simp [sizeOf, run_info h]
theorem run_zero {t : TypeId} {i : TypeInfo} {z : Value} (h : P.info? t = some i) (hz : i.zero = some z) (w : World) : (zeroValue t).run P w = .ok z w := by simp [zeroValue, run_info h, hz]
theorem run_agg {t : TypeId} {D : TD} {d : TypeDesc} (h : P.underlying t = some d) (hd : DescOk D d) (w : World) : (isAgg t).run P w = .ok D.isAgg w := by
  simp only [isAgg, Sem.run_bind, run_und h, Result.andThen_ok]
  cases D <;> simp only [DescOk] at hd
  case struct => obtain ⟨fields, rfl, _⟩ := hd; rfl
  case func => obtain ⟨a, b, c, rfl⟩ := hd; rfl
  case iface => obtain ⟨a, rfl⟩ := hd; rfl
  case other => obtain ⟨h1, h2⟩ := hd; cases d <;> first | rfl | exact absurd rfl (h1 _) | exact absurd rfl (h2 _ _)
  all_goals (subst hd; rfl)
end facts

section inv
variable {h : Array Obj} {C : Cx} {B : Nat}

theorem VR.bool_inv {b : Bool} {v : Value} (e : VR h C B (.bool b) v) : v = .bool b := by
  cases e with
  | imm x v e => cases e; rfl
theorem VR.int_inv {k : IntKind} {n : Int} {v : Value} (e : VR h C B (.int k n) v) : v = .int k n := by
  cases e with
  | imm x v e => cases e; rfl
theorem VR.str_inv {l : List UInt8} {v : Value} (e : VR h C B (.str l) v) : ∃ s : ByteArray, v = .string s ∧ s.data.toList = l := by
  cases e with
  | imm x v e => cases e with | str s l e => exact ⟨s, rfl, e⟩
theorem VR.nilp_inv {v : Value} (e : VR h C B .nilp v) : v = .pointer none := by
  cases e with
  | imm x v e => cases e; rfl
theorem VR.nils_inv {v : Value} (e : VR h C B .nils v) : v = .slice none 0 0 := by
  cases e with
  | imm x v e => cases e; rfl
theorem VR.ptr_inv {n o : Nat} {v : Value} (e : VR h C B (.ptr n o) v) : ∃ b, n < B ∧ (C.N n).blk = some b ∧ v = .pointer (some ⟨b, o, none⟩) := by
  cases e with
  | imm x v e => cases e
  | ptr n o b hn hb => exact ⟨b, hn, hb, rfl⟩
theorem VR.vec_inv {n : Nat} {v : Value} (e : VR h C B (.vec n) v) : n < B ∧ ((∃ b, (C.N n).blk = some b ∧ v = .slice (some ⟨b, 0, none⟩) (C.N n).len (C.N n).cap) ∨ ((C.N n).blk = none ∧ v = .slice none 0 0)) := by
  cases e with
  | imm x v e => cases e
  | vec n b hn hb => exact ⟨hn, .inl ⟨b, hb, rfl⟩⟩
  | vecNil n hn hb => exact ⟨hn, .inr ⟨hb, rfl⟩⟩
theorem VR.sub_inv {n o l : Nat} {v : Value} (e : VR h C B (.sub n o l) v) : n < B ∧ ((∃ b c p, (C.N n).blk = some b ∧ l ≤ c ∧ o + l ≤ (C.N n).len ∧ (l = 0 ∨ p = o * (C.N n).sz) ∧ v = .slice (some ⟨b, p, none⟩) l c) ∨ ((C.N n).blk = none ∧ l = 0 ∧ v = .slice none 0 0)) := by
  cases e with
  | imm x v e => cases e
  | sub n o l c b p hn hb hc hl hp => exact ⟨hn, .inl ⟨b, c, p, hb, hc, hl, hp, rfl⟩⟩
  | subNil n o hn hb => exact ⟨hn, .inr ⟨hb, rfl, rfl⟩⟩
theorem VR.eptr_inv {n i o : Nat} {v : Value} (e : VR h C B (.eptr n i o) v) : ∃ b, n < B ∧ (C.N n).blk = some b ∧ v = .pointer (some ⟨b, i * (C.N n).sz + o, none⟩) := by
  cases e with
  | imm x v e => cases e
  | eptr n i o b hn hb => exact ⟨b, hn, hb, rfl⟩
theorem VR.elem_inv {p : Bool} {x : V} {o : Nat} {v : Value} (e : VR h C B (.elem p x o) v) : ∃ b q arr ty fz, ∃ cv : Nat → Value, C.J p b ∧ h[b]? = some (.cells arr ty fz) ∧
    (∀ (j : Nat) (y : V), x.cells[j]? = some y → arr[q + j]? = some (cv j)) ∧ (∀ (j : Nat) (y : V), x.cells[j]? = some y → IR h C.J y (cv j)) ∧ v = .pointer (some ⟨b, q + o, none⟩) := by
  cases e with
  | imm x v e => cases e
  | elem p x off b q arr ty fz cv hj hb ha hv => exact ⟨b, q, arr, ty, fz, cv, hj, hb, ha, hv, rfl⟩
theorem VR.isl_inv {p : Bool} {sz : Nat} {α : Type} {enc : α → V} {xs : List α} {v : Value} (e : VR h C B (.isl p sz enc xs) v) : (xs = [] ∧ ∃ (a : Option Addr) (cap : Nat), (a = none → cap = 0) ∧ v = .slice a 0 cap) ∨
    ∃ b o cap arr ty fz, ∃ cv : Nat → Nat → Value, C.J p b ∧ h[b]? = some (.cells arr ty fz) ∧ xs.length ≤ cap ∧ (∀ (i : Nat) (x : α), xs[i]? = some x → (enc x).cells.length = sz) ∧
      (∀ (i : Nat) (x : α) (j : Nat) (y : V), xs[i]? = some x → (enc x).cells[j]? = some y → arr[o + (i * sz + j)]? = some (cv i j)) ∧
      (∀ (i : Nat) (x : α) (j : Nat) (y : V), xs[i]? = some x → (enc x).cells[j]? = some y → IR h C.J y (cv i j)) ∧ (∀ (i : Nat) (x : α) (j : Nat) (y : V), xs[i]? = some x → (enc x).cells[j]? = some y → (cv i j).oneCell' = true) ∧ v = .slice (some ⟨b, o, none⟩) xs.length cap := by
  cases e with
  | imm x v e =>
    cases e with
    | islNil p sz enc a cap ha => exact .inl ⟨rfl, a, cap, ha, rfl⟩
    | isl p sz enc xs b o cap arr ty fz cv hj hb hc hs ha hv ho => exact .inr ⟨b, o, cap, arr, ty, fz, cv, hj, hb, hc, hs, ha, hv, ho, rfl⟩
theorem VR.agg_inv {cs : List V} {v : Value} (e : VR h C B (.agg cs) v) : ∃ arr, v = .agg arr ∧ LR h C B cs arr := by
  cases e with
  | imm x v e => cases e with | agg cs arr hl hv => exact ⟨arr, rfl, hl, fun i x v hx hv' => .imm x v (hv i x v hx hv')⟩
  | agg cs arr hl hv => exact ⟨arr, rfl, hl, hv⟩
theorem VR.tup_inv {cs : List V} {v : Value} (e : VR h C B (.tup cs) v) : ∃ arr, v = .tuple arr ∧ LR h C B cs arr := by
  cases e with
  | imm x v e => cases e
  | tup cs arr hl hv => exact ⟨arr, rfl, hl, hv⟩
theorem VR.func_inv {f : FuncId} {a c : List V} {v : Value} (e : VR h C B (.func f a c) v) : ∃ x y, v = .func (.func f) x y ∧ LR h C B a x ∧ LR h C B c y := by
  cases e with
  | imm x v e => cases e with | func f => exact ⟨#[], #[], rfl, ⟨rfl, by simp⟩, ⟨rfl, by simp⟩⟩
  | func f a c x y ha hc hx hy => exact ⟨x, y, rfl, ⟨ha, hx⟩, ⟨hc, hy⟩⟩
theorem VR.whn_inv {s : Nat} {p : Bool} {x : V} {v : Value} (e : VR h C B (.whn s p x) v) : False := by
  cases e with
  | imm x v e => cases e

theorem ofVal_ok (v : Value) : VR h C B (ofVal v) v := by
  unfold ofVal
  split <;> first | exact .junk _ | exact .imm _ _ (.str _ _ rfl) | exact .imm _ _ (by constructor)

theorem ofValue_ok (v : Value) : VR h C B (ofValue v) v := by
  unfold ofValue
  split
  · rename_i cs
    refine .agg _ _ (by simp) fun i x v hx hv => ?_
    simp only [List.getElem?_map, Array.getElem?_toList] at hx
    rw [hv] at hx
    simp at hx
    subst hx
    exact ofVal_ok v
  · exact ofVal_ok _
end inv

section ops
variable {P : Program} {tab : Tab} {w0 : World} {C : Cx} {B : Nat}

def GOk (al : List (Nat × Bool)) (tmc : Array Value) : Prop := ∀ g p, memG g p al = true → tmc[g]? = some (.bool p)

theorem GOk.nil (tmc : Array Value) : GOk [] tmc := fun g p h => by simp [memG] at h

theorem GOk.cons {al : List (Nat × Bool)} {tmc : Array Value} {t : Nat} {q : Bool} (h : GOk al tmc) (ht : tmc[t]? = some (.bool q)) : GOk ((t, q) :: al) tmc := by
  intro g p hm
  simp only [memG] at hm
  by_cases e : t = g
  · subst e
    simp only [Nat.beq_refl, cond_true] at hm
    cases p <;> cases q <;> simp_all
  · rw [beq_ne e] at hm
    exact h g p hm

theorem evg_ok {tm : Tm} {nt : Nat} {h : Array Obj} {a : Act} {al : List (Nat × Bool)} (ht : TSat tm nt C B h a.tmps) (hg : GOk al a.tmps) (x : Operand) : VR h C B (evg al tm x) (a.eval x) := by
  cases x with
  | tmp t =>
    by_cases hlt : t < nt
    · have h1 := ht.at_ t hlt
      simp only [evg, ev, Act.eval]
      cases hv : lk t tm <;> rw [hv] at h1 <;> simp only [TR] at h1 <;> simp only [strip]
      case whn g p x =>
        cases hm : memG g p al with
        | false => exact .junk _
        | true =>
          have hb := hg g p hm
          rcases h1 with ⟨_, v, hv, hr⟩ | hu
          · simp only [Array.getD_eq_getD_getElem?, hv, Option.getD_some, cond_true]; exact hr
          · exact absurd hb hu.1
      all_goals (obtain ⟨v, hv', hr⟩ := h1; simp only [Array.getD_eq_getD_getElem?, hv', Option.getD_some]; exact hr)
    · have e := ht.out t (Nat.le_of_not_lt hlt)
      simp only [evg, ev]
      rw [e]
      exact .junk _
  | const v =>
    have h1 := ofValue_ok (h := h) (C := C) (B := B) v
    simp only [evg, ev, Act.eval]
    cases hv : ofValue v <;> rw [hv] at h1 <;> simp only [strip] <;> first | exact h1 | exact h1.whn_inv.elim
  | global g => exact .junk _
  | func f => exact .imm _ _ (.func f)

theorem nth_eq : ∀ (n : Nat) (l : List V), nth n l = l[n]?
  | _, [] => by simp [nth]
  | 0, x :: _ => by simp [nth]
  | n + 1, _ :: l => by simp [nth, nth_eq n l]

theorem obj_row {tm : Hp} {S : Nat → Prop} {h : Array Obj} (e : HR h C B tm S) {n : Nat} {ty : TypeId} {sz : Nat} {α : Type} {enc : α → V} {xs : List α} (ho : obj n tm = some (.row ty sz enc xs)) :
    (C.N n).len = xs.length ∧ (C.N n).sz = sz := by
  obtain ⟨S1, h1, _, _⟩ := e.get ho
  exact ⟨h1.1, h1.2.1⟩

theorem kEq_eq {a b : IntKind} (h : kEq a b = true) : a = b := by cases a <;> cases b <;> first | rfl | cases h

theorem add_plain (b o n : Nat) : (⟨b, o, none⟩ : Addr).add n = ⟨b, o + n, none⟩ := by
  unfold Addr.add
  split
  · rename_i h; subst h; rfl
  · rfl

theorem LR.get {h : Array Obj} {cs : List V} {arr : Array Value} (e : LR h C B cs arr) {i : Nat} {x : V} (hx : cs[i]? = some x) : ∃ v, arr[i]? = some v ∧ VR h C B x v := by
  have hi : i < arr.size := by
    rw [← e.1]
    exact (List.getElem?_eq_some_iff.1 hx).1
  exact ⟨arr[i], by simp [hi], e.2 i x arr[i] hx (by simp [hi])⟩

theorem evgs_ok {tm : Tm} {nt : Nat} {h : Array Obj} {a : Act} {al : List (Nat × Bool)} (ht : TSat tm nt C B h a.tmps) (hg : GOk al a.tmps) (xs : List Operand) : LR h C B (evgs al tm xs) (xs.map a.eval).toArray := by
  induction xs with
  | nil => exact ⟨rfl, by simp [evgs]⟩
  | cons x l ih =>
    refine ⟨by simp [evgs, ih.1], ?_⟩
    intro i y v hy hv
    cases i with
    | zero =>
      simp [evgs] at hy hv
      subst hy hv
      exact evg_ok ht hg x
    | succ i =>
      simp only [evgs, List.getElem?_cons_succ] at hy
      simp at hv
      exact ih.2 i y v hy (by simpa using hv)

theorem cmpI_ok {op : BinOp} {x y : Int} {b : Bool} (h : cmpI op x y = some b) (w : World) : (Op.intCmp op x y).run P w = .ok (.bool b) w := by
  cases op <;> simp only [cmpI, Option.some.injEq, reduceCtorEq] at h <;> (subst h; simp [Op.intCmp]) <;> first | rfl | (simp only [bne, BEq.beq])

theorem binI_ok {op : BinOp} {k : IntKind} {x y : Int} {v : V} (h : binI op k x y = some v) (t : TypeId) : ∃ val, (∀ w, (binOp op t (.int k x) (.int k y)).run P w = .ok val w) ∧ IR w0.heap C.J v val := by
  cases op <;> simp only [binI, cmpI, Option.map_some, Option.some.injEq, reduceCtorEq] at h <;> subst h
  case add => exact ⟨.int k (k.wrap (x + y)), fun w => by simp [binOp, Op.intArith], .int _ _⟩
  case sub => exact ⟨.int k (k.wrap (x - y)), fun w => by simp [binOp, Op.intArith], .int _ _⟩
  case mul => exact ⟨.int k (k.wrap (x * y)), fun w => by simp [binOp, Op.intArith], .int _ _⟩
  case and => exact ⟨.int k (bitI .and k x y), fun w => by simp [binOp, Op.intBits, bitI], .int _ _⟩
  case or => exact ⟨.int k (bitI .or k x y), fun w => by simp [binOp, Op.intBits, bitI], .int _ _⟩
  case xor => exact ⟨.int k (bitI .xor k x y), fun w => by simp [binOp, Op.intBits, bitI], .int _ _⟩
  case andNot => exact ⟨.int k (bitI .andNot k x y), fun w => by simp [binOp, Op.intBits, bitI], .int _ _⟩
  case eql => exact ⟨.bool (decide (x = y)), fun w => by simp [binOp, cmpI_ok (op := .eql) rfl], .bool _⟩
  case neq => exact ⟨.bool (!decide (x = y)), fun w => by simp [binOp, cmpI_ok (op := .neq) rfl], .bool _⟩
  case lss => exact ⟨.bool (decide (x < y)), fun w => by simp [binOp, cmpI_ok (op := .lss) rfl], .bool _⟩
  case leq => exact ⟨.bool (decide (x ≤ y)), fun w => by simp [binOp, cmpI_ok (op := .leq) rfl], .bool _⟩
  case gtr => exact ⟨.bool (decide (y < x)), fun w => by simp [binOp, cmpI_ok (op := .gtr) rfl], .bool _⟩
  case geq => exact ⟨.bool (decide (y ≤ x)), fun w => by simp [binOp, cmpI_ok (op := .geq) rfl], .bool _⟩

theorem toList_mk (s : ByteArray) : s.toList = s.data.toList := Go.Lib.toList_data s

theorem binS_ok {op : BinOp} {x y : ByteArray} {v : V} (h : binS op x.data.toList y.data.toList = some v) (t : TypeId) : ∃ val, (∀ w, (binOp op t (.string x) (.string y)).run P w = .ok val w) ∧ IR w0.heap C.J v val := by
  cases op <;> simp only [binS, Option.some.injEq, reduceCtorEq] at h <;> subst h <;> exact ⟨.bool _, fun w => by simp [binOp, Op.stringOp, toList_mk], .bool _⟩

theorem eqGuard_int {op : BinOp} {t : TypeId} {x y : Operand} {k k' : IntKind} {a b : Int} (w : World) : (eqGuard op t x y (.int k a) (.int k' b)).run P w = .ok () w := by
  unfold eqGuard
  cases op <;> rfl

theorem eqGuard_str {op : BinOp} {t : TypeId} {x y : Operand} {a b : ByteArray} (w : World) : (eqGuard op t x y (.string a) (.string b)).run P w = .ok () w := by
  unfold eqGuard
  cases op <;> rfl

theorem foffs_eq : ∀ (n : Nat) (l : List (Nat × TypeId)), foffs n l = l[n]?
  | _, [] => by simp [foffs]
  | 0, x :: _ => by simp [foffs]
  | n + 1, _ :: l => by simp [foffs, foffs_eq n l]

/-- a field's place -/
theorem run_fieldAt (hT : TabOk P tab) {t f o : Nat} {t' : TypeId} (h : fieldOff tab t f = some (o, t')) {ti : TI} (ht : tab t' = some ti) (hz : ti.size ≠ 0) (b q : Nat) (w : World) :
    (Instr.fieldAt t (.pointer (some ⟨b, q, none⟩)) f).run P w = .ok (.pointer (some ⟨b, q + o, none⟩)) w := by
  unfold fieldOff at h
  cases hs : tab t with
  | none => rw [hs] at h; cases h
  | some T =>
    obtain ⟨s1, s2, D, s4, q5⟩ := T
    rw [hs] at h
    cases D <;> first | (cases h; done) | skip
    rename_i fs
    obtain ⟨is, ds, _, _, hsu, _, _, hdesc, _⟩ := hT t _ hs
    simp only [DescOk] at hdesc
    obtain ⟨fields, rfl, hfs⟩ := hdesc
    simp only [foffs_eq] at h
    rw [← hfs] at h
    simp only [List.getElem?_map, Array.getElem?_toList] at h
    cases hf : fields[f]? with
    | none => rw [hf] at h; simp at h
    | some fld =>
      rw [hf] at h
      simp at h
      obtain ⟨h1, h2⟩ := h
      obtain ⟨i, d, z, hi, _, hsz, _⟩ := hT t' _ ht
      have hsz' : i.size ≠ 0 := by rw [hsz]; exact hz
      simp only [Instr.fieldAt, Sem.run_bind, run_und hsu, Result.andThen_ok, hf]
      simp [Instr.sureAddr, fieldPlace, h2, run_size hi, hsz', add_plain, h1]

theorem execOp_of {a : Act} {o : Oper} {op : Op} (h : o.op = op) : execOp a.eval o = execOp a.eval { o with op := op } := by
  cases o; simp only at h; subst h; rfl

/-- pure ones -/
theorem eqGuard_plain {op : BinOp} {t : TypeId} {x y : Operand} {a b : Value} (h1 : ∀ cs, a ≠ .agg cs) (h2 : a ≠ .nilIface) (w : World) : (eqGuard op t x y a b).run P w = .ok () w := by
  unfold eqGuard
  cases op <;> first | rfl | (cases a <;> first | rfl | exact absurd rfl (h1 _) | exact absurd rfl h2)

theorem eqFields_ok (hT : TabOk P tab) {d : Nat} {xs ys : List V} {ax ay : Array Value} (hx : LR w0.heap C B xs ax) (hy : LR w0.heap C B ys ay) : ∀ (fields : List Field) {b : Bool}, (∀ f ∈ fields, f.name ≠ "_") → eqA tab (fields.map fun f => (f.offset, f.type)) xs ys = some b → ∀ w, (Op.eqFields (d + 1) ax ay fields).run P w = .ok b w
  | [], b, _, h, w => by
    simp only [List.map_nil, eqA, Option.some.injEq] at h
    subst h
    simp [Op.eqFields]
  | f :: fs, b, hn, h, w => by
    simp only [List.map_cons, eqA] at h
    have hnm := hn f (by simp)
    have at_ : ∀ {l : List V} {arr : Array Value} {v : V}, LR w0.heap C B l arr → nth f.offset l = some v → ∃ c, arr[f.offset]? = some c ∧ VR w0.heap C B v c := by
      intro l arr v hl hv
      have hv' : l[f.offset]? = some v := by
        rw [← hv]
        have : ∀ (i : Nat) (l : List V), l[i]? = nth i l := by
          intro i l
          induction l generalizing i with
          | nil => cases i <;> rfl
          | cons x l ih => cases i <;> simp [nth, ih]
        exact this _ _
      have hlt := (List.getElem?_eq_some_iff.1 hv').1
      rw [hl.1] at hlt
      exact ⟨arr[f.offset], Array.getElem?_eq_getElem hlt, hl.2 f.offset v _ hv' (Array.getElem?_eq_getElem hlt)⟩
    have step : ∀ {ti : TI} {a c : Value} {r : Bool}, tab f.type = some ti → ti.desc.isAgg = false → ax[f.offset]? = some a → ay[f.offset]? = some c → (∀ w, (Op.equalIn (d + 1) f.type a c).run P w = .ok r w) →
        ∀ {b' : Bool}, eqA tab (fs.map fun f => (f.offset, f.type)) xs ys = some b' → (Op.eqFields (d + 1) ax ay (f :: fs)).run P w = .ok (r && b') w := by
      intro ti a c r ht hag ha hc he b' hb'
      obtain ⟨i, d1, z, _, hu, _, _, hdesc, _⟩ := hT _ _ ht
      have ih := eqFields_ok hT (d := d) hx hy fs (fun f hf => hn f (by simp [hf])) hb' w
      simp only [Op.eqFields]
      rw [if_pos hnm]
      simp only [part, Sem.run_bind, run_agg hu hdesc, hag, Result.andThen_ok, ha, hc, he, if_neg, Bool.false_eq_true, if_false, Sem.run_pure]
      cases r
      · simp
      · simp [ih]
    cases ht : tab f.type with
    | none => rw [ht] at h; cases h
    | some ti =>
      rw [ht] at h
      simp only at h
      obtain ⟨i, d1, z, _, hu, _, _, hdesc, _⟩ := hT _ _ ht
      cases hd : ti.desc <;> rw [hd] at h hdesc <;> first | (cases h; done) | skip
      case int k0 =>
        simp only at h
        cases h1 : nth f.offset xs with
        | none => rw [h1] at h; cases h
        | some v1 =>
          cases h2 : nth f.offset ys with
          | none => rw [h1, h2] at h; cases v1 <;> cases h
          | some v2 =>
            rw [h1, h2] at h
            cases v1 <;> first | (cases h; done) | skip
            cases v2 <;> first | (cases h; done) | skip
            rename_i k a k' a'
            simp only at h
            cases hk : kEq k k' <;> rw [hk] at h <;> simp only [cond_true, cond_false, reduceCtorEq] at h
            have := kEq_eq hk
            subst this
            cases hr : eqA tab (fs.map fun f => (f.offset, f.type)) xs ys with
            | none => rw [hr] at h; cases h
            | some b' =>
              rw [hr] at h
              simp only [Option.map_some, Option.some.injEq] at h
              subst h
              obtain ⟨c1, g1, e1⟩ := at_ hx h1
              obtain ⟨c2, g2, e2⟩ := at_ hy h2
              rw [e1.int_inv] at g1
              rw [e2.int_inv] at g2
              simp only [DescOk] at hdesc
              subst hdesc
              exact step ht (by rw [hd]; rfl) g1 g2 (fun w => run_equalIn_int w d f.type k k0 a a' hu) hr
      case bool =>
        simp only at h
        cases h1 : nth f.offset xs with
        | none => rw [h1] at h; cases h
        | some v1 =>
          cases h2 : nth f.offset ys with
          | none => rw [h1, h2] at h; cases v1 <;> cases h
          | some v2 =>
            rw [h1, h2] at h
            cases v1 <;> first | (cases h; done) | skip
            cases v2 <;> first | (cases h; done) | skip
            rename_i a a'
            simp only at h
            cases hr : eqA tab (fs.map fun f => (f.offset, f.type)) xs ys with
            | none => rw [hr] at h; cases h
            | some b' =>
              rw [hr] at h
              simp only [Option.map_some, Option.some.injEq] at h
              subst h
              obtain ⟨c1, g1, e1⟩ := at_ hx h1
              obtain ⟨c2, g2, e2⟩ := at_ hy h2
              rw [e1.bool_inv] at g1
              rw [e2.bool_inv] at g2
              simp only [DescOk] at hdesc
              subst hdesc
              exact step ht (by rw [hd]; rfl) g1 g2 (fun w => run_equalIn_bool w d f.type a a' hu) hr
      case str =>
        simp only at h
        cases h1 : nth f.offset xs with
        | none => rw [h1] at h; cases h
        | some v1 =>
          cases h2 : nth f.offset ys with
          | none => rw [h1, h2] at h; cases v1 <;> cases h
          | some v2 =>
            rw [h1, h2] at h
            cases v1 <;> first | (cases h; done) | skip
            cases v2 <;> first | (cases h; done) | skip
            rename_i a a'
            simp only at h
            cases hr : eqA tab (fs.map fun f => (f.offset, f.type)) xs ys with
            | none => rw [hr] at h; cases h
            | some b' =>
              rw [hr] at h
              simp only [Option.map_some, Option.some.injEq] at h
              subst h
              obtain ⟨c1, g1, e1⟩ := at_ hx h1
              obtain ⟨c2, g2, e2⟩ := at_ hy h2
              obtain ⟨s1, rfl, rfl⟩ := e1.str_inv
              obtain ⟨s2, rfl, rfl⟩ := e2.str_inv
              simp only [DescOk] at hdesc
              subst hdesc
              have := fun w => run_equalIn_string (P := P) w d f.type s1 s2 hu
              simp only [toList_mk] at this
              exact step ht (by rw [hd]; rfl) g1 g2 this hr

theorem run_eq_nn {t e : TypeId} (w : World) (d : Nat) (h : P.underlying t = some (.pointer e)) : (Op.equalIn (d + 1) t (.pointer none) (.pointer none)).run P w = .ok true w := by simp [Op.equalIn, run_und h]
theorem run_eq_np {t e : TypeId} (w : World) (d : Nat) (a : Addr) (h : P.underlying t = some (.pointer e)) : (Op.equalIn (d + 1) t (.pointer none) (.pointer (some a))).run P w = .ok false w := by simp [Op.equalIn, run_und h]
theorem run_eq_pn {t e : TypeId} (w : World) (d : Nat) (a : Addr) (h : P.underlying t = some (.pointer e)) : (Op.equalIn (d + 1) t (.pointer (some a)) (.pointer none)).run P w = .ok false w := by simp [Op.equalIn, run_und h]

theorem eqP_ok (hT : TabOk P tab) {op : BinOp} {t : TypeId} {x y : V} {xo yo : Operand} {vx vy : Value} {v : V} (ex : VR w0.heap C B x vx) (ey : VR w0.heap C B y vy) (h : eqP tab op t x y = some v) :
    ∃ val, (∀ w, (eqGuard op t xo yo vx vy).run P w = .ok () w) ∧ (∀ w, (binOp op t vx vy).run P w = .ok val w) ∧ VR w0.heap C B v val := by
  unfold eqP at h
  have fin : ∀ {r : Bool}, (∀ w, (Op.equal t vx vy).run P w = .ok r w) → (∀ k a, vx ≠ .int k a) → (∀ s, vx ≠ .string s) → (∀ k n, vx ≠ .float k n) → (∀ k a b, vx ≠ .complex k a b) → eqV op (some r) = some v →
      ∃ val, (∀ w, (binOp op t vx vy).run P w = .ok val w) ∧ VR w0.heap C B v val := by
    intro r hr n1 n2 n3 n4 he
    cases op <;> simp only [eqV, Option.map_some, Option.some.injEq, reduceCtorEq] at he <;> subst he
    · refine ⟨.bool r, fun w => ?_, .imm _ _ (.bool _)⟩
      unfold binOp
      cases vx <;> first | exact absurd rfl (n1 _ _) | exact absurd rfl (n2 _) | exact absurd rfl (n3 _ _) | exact absurd rfl (n4 _ _ _) | (simp [hr])
    · refine ⟨.bool (!r), fun w => ?_, .imm _ _ (.bool _)⟩
      unfold binOp
      cases vx <;> first | exact absurd rfl (n1 _ _) | exact absurd rfl (n2 _) | exact absurd rfl (n3 _ _) | exact absurd rfl (n4 _ _ _) | (simp [hr])
  split at h
  · rename_i s1 s2 z q hti
    obtain ⟨i, d1, z1, _, hu, _, _, hdesc, _⟩ := hT _ _ hti
    simp only [DescOk] at hdesc
    subst hdesc
    cases x <;> first | (cases h; done) | skip
    cases y <;> first | (cases h; done) | skip
    rename_i a b
    rw [ex.bool_inv, ey.bool_inv] at fin ⊢
    obtain ⟨val, h1, h2⟩ := fin (fun w => run_equal_bool w t a b hu) (by simp) (by simp) (by simp) (by simp) h
    exact ⟨val, fun w => eqGuard_plain (by simp) (by simp) w, h1, h2⟩
  · rename_i s1 s2 e z q hti
    obtain ⟨i, d1, z1, _, hu, _, _, hdesc, _⟩ := hT _ _ hti
    simp only [DescOk] at hdesc
    subst hdesc
    cases x <;> first | (cases h; done) | skip
    · cases y <;> first | (cases h; done) | skip
      · rw [ex.nilp_inv, ey.nilp_inv] at fin ⊢
        obtain ⟨val, h1, h2⟩ := fin (r := true) (fun w => run_eq_nn w 9999 hu) (by simp) (by simp) (by simp) (by simp) h
        exact ⟨val, fun w => eqGuard_plain (by simp) (by simp) w, h1, h2⟩
      · obtain ⟨b, _, _, hb⟩ := ey.ptr_inv
        rw [ex.nilp_inv, hb] at fin ⊢
        obtain ⟨val, h1, h2⟩ := fin (r := false) (fun w => run_eq_np w 9999 _ hu) (by simp) (by simp) (by simp) (by simp) h
        exact ⟨val, fun w => eqGuard_plain (by simp) (by simp) w, h1, h2⟩
    · cases y <;> first | (cases h; done) | skip
      obtain ⟨b, _, _, hb⟩ := ex.ptr_inv
      rw [ey.nilp_inv, hb] at fin ⊢
      obtain ⟨val, h1, h2⟩ := fin (r := false) (fun w => run_eq_pn w 9999 _ hu) (by simp) (by simp) (by simp) (by simp) h
      exact ⟨val, fun w => eqGuard_plain (by simp) (by simp) w, h1, h2⟩
  · rename_i s1 s2 fs z hti
    obtain ⟨i, d1, z1, _, hu, _, _, hdesc, _, _, _, _, heq⟩ := hT _ _ hti
    obtain ⟨hst, hgt, hnm⟩ := heq rfl
    simp only [DescOk] at hdesc
    obtain ⟨fields, rfl, hfs⟩ := hdesc
    have hfo : P.fieldsOf t = fields := by simp [Program.fieldsOf, hu]
    cases x <;> first | (cases h; done) | skip
    cases y <;> first | (cases h; done) | skip
    rename_i xs ys
    obtain ⟨ax, rfl, hax⟩ := ex.agg_inv
    obtain ⟨ay, rfl, hay⟩ := ey.agg_inv
    simp only at h
    cases hr : eqA tab fs xs ys with
    | none => rw [hr] at h; cases op <;> cases h
    | some r =>
      rw [hr] at h
      rw [← hfs] at hr
      rw [hfo] at hnm
      have he : ∀ w, (Op.equal t (.agg ax) (.agg ay)).run P w = .ok r w := by
        intro w
        simp only [Op.equal, Op.maxDepth]
        rw [run_equalIn_struct w 9999 t ax ay (by rw [hfo]; exact hu) hst, hfo]
        exact eqFields_ok hT (d := 9998) hax hay fields.toList hnm hr w
      obtain ⟨val, h1, h2⟩ := fin he (by simp) (by simp) (by simp) (by simp) h
      exact ⟨val, fun w => run_eqGuard_agg w op t xo yo ax ay hgt, h1, h2⟩
  · cases h

theorem apure_ok (hT : TabOk P tab) {tm : Tm} {nt : Nat} {hp : Hp} {S : Nat → Prop} {a : Act} {al : List (Nat × Bool)} (ht : TSat tm nt C B w0.heap a.tmps) (hg : GOk al a.tmps) (hr : HR w0.heap C B hp S)
    {o : Oper} {v : V} (h : apure tab al tm hp o.op = some v) : ∃ val, (∀ w, (execOp a.eval o).run P w = .ok (.value val) w) ∧ VR w0.heap C B v val := by
  have ev := fun x => evg_ok ht hg x
  cases hop : o.op <;> rw [hop] at h <;> simp only [apure] at h <;> try (cases h; done)
  case move x =>
    have e := ev x
    refine ⟨a.eval x, fun w => by simp [execOp, hop], ?_⟩
    cases hv : evg al tm x <;> rw [hv] at h e <;> cases h <;> exact e
  case assign x =>
    have e := ev x
    refine ⟨a.eval x, fun w => by simp [execOp, hop], ?_⟩
    cases hv : evg al tm x <;> rw [hv] at h e <;> cases h <;> exact e
  case pick c x y =>
    have ec := ev c
    cases hc : evg al tm c <;> rw [hc] at h ec <;> first | (cases h; done) | skip
    rename_i cb
    simp only [pickP] at h
    have hcv := ec.bool_inv
    have hS : ∀ (p : Bool) (z : Operand) (zb : Bool), cb = p → side c p al tm z = .bool zb → a.eval z = .bool zb := by
      intro p z zb hcb hz
      subst hcb
      cases c with
      | tmp t =>
        have ht' : a.tmps[t]? = some (.bool cb) := by
          simp only [Act.eval, Array.getD_eq_getD_getElem?] at hcv
          cases hq : a.tmps[t]? with
          | none => rw [hq] at hcv; simp [undef] at hcv
          | some q => rw [hq] at hcv; simp at hcv; rw [hcv]
        have e2 := evg_ok ht (hg.cons ht') z
        simp only [side] at hz
        rw [hz] at e2
        exact e2.bool_inv
      | const v => simp only [side] at hz; have e2 := ev z; rw [hz] at e2; exact e2.bool_inv
      | global g => simp only [side] at hz; have e2 := ev z; rw [hz] at e2; exact e2.bool_inv
      | func f => simp only [side] at hz; have e2 := ev z; rw [hz] at e2; exact e2.bool_inv
    have run : ∀ {zb : Bool}, a.eval (if cb then x else y) = .bool zb → (∀ w, (execOp a.eval o).run P w = .ok (.value (.bool zb)) w) := by
      intro zb hz w
      simp only [execOp, hop, hcv, asBool]
      cases cb
      · simp at hz; simp [hz]
      · simp at hz; simp [hz]
    cases hx : side c true al tm x <;> rw [hx] at h <;> cases hy : side c false al tm y <;> rw [hy] at h <;> first | (cases h; done) | skip
    case bool.bool xb yb =>
      simp only [Option.some.injEq] at h
      subst h
      refine ⟨.bool (bif cb then xb else yb), run ?_, .imm _ _ (.bool _)⟩
      cases cb
      · simpa using hS false y yb rfl hy
      · simpa using hS true x xb rfl hx
    all_goals first
      | (rename_i xb; cases cb
         · cases h
         · simp only [Option.some.injEq] at h
           subst h
           exact ⟨.bool _, run (by simpa using hS true x _ rfl hx), .imm _ _ (.bool _)⟩)
      | (cases cb
         · simp only [Option.some.injEq] at h
           subst h
           exact ⟨.bool _, run (by simpa using hS false y _ rfl hy), .imm _ _ (.bool _)⟩
         · cases h)
  case nilCheck x =>
    have e := ev x
    cases hv : evg al tm x <;> rw [hv] at h e <;> first | (cases h; done) | skip
    case ptr n q => cases h; obtain ⟨b, _, _, hb⟩ := e.ptr_inv; exact ⟨a.eval x, fun w => by simp [execOp, hop, hb], e⟩
    case eptr n i q => cases h; obtain ⟨b, _, _, hb⟩ := e.eptr_inv; exact ⟨a.eval x, fun w => by simp [execOp, hop, hb], e⟩
    case elem p y q => cases h; obtain ⟨b, _, _, _, _, _, _, _, _, _, hb⟩ := e.elem_inv; exact ⟨a.eval x, fun w => by simp [execOp, hop, hb], e⟩
    case func f first caps =>
      cases first with
      | nil =>
        simp only [Option.some.injEq] at h
        subst h
        obtain ⟨x1, y1, hb, _, _⟩ := e.func_inv
        exact ⟨a.eval x, fun w => by simp [execOp, hop, hb], e⟩
      | cons _ _ => simp at h
  case binOp op t x y u =>
    have ex := ev x
    have ey := ev y
    cases hbp : binP op (evg al tm x) (evg al tm y) with
    | none =>
      rw [hbp] at h
      obtain ⟨val, hg', hw, hr⟩ := eqP_ok (hT := hT) (xo := x) (yo := y) ex ey h
      exact ⟨val, fun w => by simp [execOp, hop, hg', hw], hr⟩
    | some v' =>
    rw [hbp] at h
    simp only [Option.some.injEq] at h
    subst h
    have h := hbp
    cases hx : evg al tm x <;> rw [hx] at h ex <;> simp only [binP, reduceCtorEq] at h <;> cases hy : evg al tm y <;> rw [hy] at h ey <;> simp only [reduceCtorEq] at h
    case int.int k1 n1 k2 n2 =>
      cases hsh : isShift op <;> rw [hsh] at h <;> simp only [cond_true, cond_false, reduceCtorEq] at h
      cases hk : kEq k1 k2 <;> rw [hk] at h <;> simp only [cond_true, cond_false, reduceCtorEq] at h
      have hk' := kEq_eq hk
      subst hk'
      obtain ⟨val, hw, hir⟩ := binI_ok (P := P) (w0 := w0) (C := C) h t
      refine ⟨val, fun w => ?_, .imm _ _ hir⟩
      simp only [execOp, hop, ex.int_inv, ey.int_inv]
      simp [eqGuard_int, hw]
    case str.str l1 l2 =>
      obtain ⟨s1, hs1, rfl⟩ := ex.str_inv
      obtain ⟨s2, hs2, rfl⟩ := ey.str_inv
      obtain ⟨val, hw, hir⟩ := binS_ok (P := P) (w0 := w0) (C := C) h t
      refine ⟨val, fun w => ?_, .imm _ _ hir⟩
      simp only [execOp, hop, hs1, hs2]
      simp [eqGuard_str, hw]
  case unOp op t x =>
    have e := ev x
    cases op <;> first | (cases h; done) | skip
    all_goals (cases hv : evg al tm x <;> rw [hv] at h e <;> first | (cases h; done) | skip)
    all_goals cases h
    · exact ⟨.int _ _, fun w => by simp [execOp, hop, e.int_inv, Op.unary, Op.intArith], .imm _ _ (.int _ _)⟩
    · exact ⟨.int _ _, fun w => by simp [execOp, hop, e.int_inv, Op.unary, Op.intBits, bitI], .imm _ _ (.int _ _)⟩
    · exact ⟨.bool _, fun w => by simp [execOp, hop, e.bool_inv, Op.unary], .imm _ _ (.bool _)⟩
  case convert s d x =>
    have e := ev x
    simp only [convP] at h
    cases hs : tab s <;> rw [hs] at h <;> first | (cases h; done) | skip
    obtain ⟨is, ds, _, _, hsu, _⟩ := hT s _ hs
    cases hv : evg al tm x <;> rw [hv] at h e <;> first | (cases h; done) | skip
    case int k n =>
      simp only at h
      cases hd : tab d <;> rw [hd] at h <;> first | (cases h; done) | skip
      rename_i ti _ td
      obtain ⟨id, dd, _, _, hdu, _, _, hdesc, _⟩ := hT d _ hd
      obtain ⟨s1, s2, D, s4, q5⟩ := td
      cases D <;> first | (cases h; done) | skip
      cases h
      simp only [DescOk] at hdesc
      subst hdesc
      refine ⟨_, fun w => ?_, .imm _ _ (.int _ _)⟩
      simp only [execOp, hop, e.int_inv, Sem.run_bind, convert, run_und hsu, run_und hdu, Result.andThen_ok]
      simp [Conv.intToInt]
    case str l =>
      simp only at h
      cases hd : tab d <;> rw [hd] at h <;> first | (cases h; done) | skip
      rename_i ti _ td
      obtain ⟨id, dd, _, _, hdu, _, _, hdesc, _⟩ := hT d _ hd
      obtain ⟨s1, s2, D, s4, q5⟩ := td
      cases D <;> first | (cases h; done) | skip
      cases h
      simp only [DescOk] at hdesc
      subst hdesc
      obtain ⟨sv, hsv, hl⟩ := e.str_inv
      refine ⟨.string sv, fun w => ?_, .imm _ _ (.str _ _ hl)⟩
      simp only [execOp, hop, hsv, Sem.run_bind, convert, run_und hsu, run_und hdu, Result.andThen_ok]
      cases ds <;> rfl
  case fieldAddr t x f =>
    have e := ev x
    simp only [fieldP] at h
    cases ho : fieldOff tab t f <;> rw [ho] at h <;> first | (cases h; done) | skip
    rename_i ot
    obtain ⟨o', t'⟩ := ot
    simp only at h
    cases ht' : tab t' <;> rw [ht'] at h <;> first | (cases h; done) | skip
    rename_i ti
    simp only at h
    cases hz : Nat.beq ti.size 0 <;> rw [hz] at h <;> first | (cases h; done) | skip
    have hz' : ti.size ≠ 0 := fun e => by rw [e] at hz; cases hz
    simp only [cond_false] at h
    cases hv : evg al tm x <;> rw [hv] at h e <;> first | (cases h; done) | skip
    case ptr n q =>
      cases h
      obtain ⟨b, hn, hb, hv'⟩ := e.ptr_inv
      exact ⟨.pointer (some ⟨b, q + o', none⟩), fun w => by simp [execOp, hop, hv', run_fieldAt hT ho ht' hz'], .ptr _ _ _ hn hb⟩
    case eptr n i q =>
      cases h
      obtain ⟨b, hn, hb, hv'⟩ := e.eptr_inv
      refine ⟨.pointer (some ⟨b, i * (C.N n).sz + (q + o'), none⟩), fun w => by simp [execOp, hop, hv', run_fieldAt hT ho ht' hz', Nat.add_assoc], .eptr _ _ _ _ hn hb⟩
    case elem p y q =>
      cases h
      obtain ⟨b, q', arr, ty, fz, cv, hj, hb, ha, hv2, hv'⟩ := e.elem_inv
      exact ⟨.pointer (some ⟨b, q' + (q + o'), none⟩), fun w => by simp [execOp, hop, hv', run_fieldAt hT ho ht' hz', Nat.add_assoc], .elem p y (q + o') b q' arr ty fz cv hj hb ha hv2⟩
  case extract x i =>
    have e := ev x
    cases hv : evg al tm x <;> rw [hv] at h e <;> first | (cases h; done) | skip
    rename_i vs
    simp only [nth_eq] at h
    obtain ⟨arr, hv', hl⟩ := e.tup_inv
    obtain ⟨val, hval, hr'⟩ := hl.get h
    exact ⟨val, fun w => by simp [execOp, hop, hv', Instr.extract, hval], hr'⟩
  case makeFunc fn first caps =>
    cases fn <;> first | (cases h; done) | skip
    rename_i f
    cases h
    have h1 := evgs_ok ht hg first.toList
    have h2 := evgs_ok ht hg caps.toList
    refine ⟨.func (.func f) (first.map a.eval) (caps.map a.eval), fun w => by simp [execOp, hop, Instr.makeFunc], ?_⟩
    have e1 : (first.toList.map a.eval).toArray = first.map a.eval := by rw [← Array.toList_map]
    have e2 : (caps.toList.map a.eval).toArray = caps.map a.eval := by rw [← Array.toList_map]
    rw [e1] at h1
    rw [e2] at h2
    exact .func f _ _ _ _ h1.1 h2.1 h1.2 h2.2
  case call c =>
    simp only [callP] at h
    cases hc : c.callee <;> rw [hc] at h <;> first | (cases h; done) | skip
    rename_i bi
    simp only at h
    obtain ⟨cns, hargs⟩ : ∃ cns, ∀ w, (resolve a.eval c o.type).run P w = .ok { target := .builtin bi c.argTypes o.type cns, args := c.args.map a.eval } w := ⟨_, fun w => by simp only [resolve, hc]; rfl⟩
    cases hal : c.args.toList with
    | nil => rw [hal] at h; cases h
    | cons x l =>
      have hca : c.args = (x :: l).toArray := by rw [← hal]
      rw [hal] at h
      cases l with
      | nil =>
        cases bi <;> first | (cases h; done) | skip
        simp only at h
        cases hat : c.argTypes.toList with
        | nil => rw [hat] at h; cases h
        | cons t l =>
          rw [hat] at h
          cases l with
          | cons _ _ => cases h
          | nil =>
            have hct : c.argTypes = #[t] := by rw [← Array.toArray_toList (xs := c.argTypes), hat]
            have e := ev x
            simp only [lenP] at h
            cases hs : tab t <;> rw [hs] at h <;> first | (cases h; done) | skip
            rename_i ti
            obtain ⟨s1, s2, D, s4, q5⟩ := ti
            obtain ⟨i, d, z, hi, hu, _, _, hdesc, _⟩ := hT t _ hs
            have key : ∀ val, (∀ w, (Builtin.len_ #[t] o.type #[a.eval x]).run P w = .ok val w) → ∀ w, (execOp a.eval o).run P w = .ok (.value val) w := by
              intro val hval w
              simp only [execOp, hop, Sem.run_bind, hargs, Result.andThen_ok]
              simp [invoke, builtin, hct, hca, hval]
            cases D <;> first | (cases h; done) | skip
            case str =>
              simp only [DescOk] at hdesc
              subst hdesc
              cases hv : evg al tm x <;> rw [hv] at h e <;> first | (cases h; done) | skip
              cases h
              obtain ⟨sv, hsv, hl⟩ := e.str_inv
              exact ⟨.int .i64 _, key _ fun w => by simp only [Builtin.len_, hsv]; rw [← hl, ← Go.Lib.size_eq]; simp [run_und hu, goInt], .imm _ _ (.int _ _)⟩
            case slice el =>
              simp only [DescOk] at hdesc
              subst hdesc
              have sl : ∀ A n c, a.eval x = .slice A n c → ∀ w, (execOp a.eval o).run P w = .ok (.value (.int .i64 n)) w := fun A n c he => key _ fun w => by
                simp [Builtin.len_, run_und hu, he, goInt]
              cases hv : evg al tm x <;> rw [hv] at h e <;> first | (cases h; done) | skip
              case nils => cases h; exact ⟨_, sl _ _ _ e.nils_inv, .imm _ _ (.int _ _)⟩
              case isl p sz α enc xs =>
                cases h
                rcases e.isl_inv with ⟨rfl, _, _, _, he⟩ | ⟨b, q, cap, arr, ty, fz, cv, _, _, _, _, _, _, _, he⟩
                · exact ⟨_, sl _ _ _ he, .imm _ _ (.int _ _)⟩
                · exact ⟨_, sl _ _ _ he, .imm _ _ (.int _ _)⟩
              case vec n =>
                simp only at h
                cases hob : obj n hp <;> rw [hob] at h <;> first | (cases h; done) | skip
                rename_i ob
                cases ob <;> first | (cases h; done) | skip
                cases h
                have hlen := (obj_row hr hob).1
                obtain ⟨_, ⟨b, _, he⟩ | ⟨hb, he⟩⟩ := e.vec_inv
                · rw [hlen] at he; exact ⟨_, sl _ _ _ he, .imm _ _ (.int _ _)⟩
                · obtain ⟨S1, h1, _, _⟩ := hr.get hob
                  rcases h1.2.2 with ⟨_, hx, _⟩ | ⟨b, _, _, hb', _⟩
                  · rw [hx]; exact ⟨_, sl _ _ _ he, .imm _ _ (.int _ _)⟩
                  · rw [hb] at hb'; cases hb'
              case sub n q l =>
                cases h
                obtain ⟨_, ⟨b, c', p, _, _, _, _, he⟩ | ⟨_, h0, he⟩⟩ := e.sub_inv
                · exact ⟨_, sl _ _ _ he, .imm _ _ (.int _ _)⟩
                · subst h0; exact ⟨_, sl _ _ _ he, .imm _ _ (.int _ _)⟩
      | cons y l =>
        cases l with
        | cons _ _ => cases h
        | nil =>
          have ex := ev x
          have ey := ev y
          have key : ∀ val, (∀ w, (builtin bi c.argTypes o.type cns #[a.eval x, a.eval y]).run P w = .ok (.value val) w) → ∀ w, (execOp a.eval o).run P w = .ok (.value val) w := by
            intro val hval w
            simp only [execOp, hop, Sem.run_bind, hargs, Result.andThen_ok]
            have : (c.args.map a.eval) = #[a.eval x, a.eval y] := by rw [hca]; simp
            simp only [invoke, this, hval]
          cases bi <;> first | (cases h; done) | skip
          case max =>
            simp only [maxP] at h
            cases hx : evg al tm x <;> rw [hx] at h ex <;> first | (cases h; done) | skip
            cases hy : evg al tm y <;> rw [hy] at h ey <;> first | (cases h; done) | skip
            rename_i k1 n1 k2 n2
            simp only at h
            cases hk : kEq k1 k2 <;> rw [hk] at h <;> first | (cases h; done) | skip
            have hk' := kEq_eq hk
            subst hk'
            cases h
            exact ⟨.int k1 _, key _ fun w => by simp [builtin, Builtin.max_, ex.int_inv, ey.int_inv, Builtin.max2], .imm _ _ (.int _ _)⟩
          case min =>
            simp only [minP] at h
            cases hx : evg al tm x <;> rw [hx] at h ex <;> first | (cases h; done) | skip
            cases hy : evg al tm y <;> rw [hy] at h ey <;> first | (cases h; done) | skip
            rename_i k1 n1 k2 n2
            simp only at h
            cases hk : kEq k1 k2 <;> rw [hk] at h <;> first | (cases h; done) | skip
            have hk' := kEq_eq hk
            subst hk'
            cases h
            exact ⟨.int k1 _, key _ fun w => by simp [builtin, Builtin.min_, ex.int_inv, ey.int_inv, Builtin.min2], .imm _ _ (.int _ _)⟩

end ops
end Go.Sx
end

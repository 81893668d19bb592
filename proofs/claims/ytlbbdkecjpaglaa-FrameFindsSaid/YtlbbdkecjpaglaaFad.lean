/- The computed weakest precondition of code, and its soundness; no condition. Names are given anew: what is reachable from some values, in its order; no condition. Weaker values; values that last; what is lent for a call; the call's rule. No condition. -/
import Derived.OrdersHeld
import Derived.Test.YtlbbdkecjpaglaaFac

set_option linter.all false

section
namespace Go.Sx

section
variable {P : Program} {tab : Tab} {hp : Hp} {nx nt : Nat} {C : Cx} {S : Nat → Prop} {w : World}

/-- the order's questions, by plain recursion -/
def noSelW : List Oper → Bool
  | [] => true
  | o :: l => match o.op with
    | .select _ _ => false
    | _ => noSelW l

def nthB : Nat → List Bool → Bool
  | _, [] => false
  | 0, b :: _ => b
  | n + 1, _ :: l => nthB n l

def bindsW (e : Edge) : Bool := match e.ground with
  | .textOnly _ | .gcOnly _ => false
  | _ => true

def edgesW (listed : List Bool) : List Edge → Bool
  | [] => true
  | e :: l => bif bindsW e then (bif nthB e.on listed then edgesW listed l else false) else edgesW listed l

def readyW (listed : List Bool) : List Oper → List Bool → Nat → List Nat
  | o :: os, b :: bs, i => bif b then readyW listed os bs (i + 1) else bif edgesW listed o.after.toList then i :: readyW listed os bs (i + 1) else readyW listed os bs (i + 1)
  | _, _, _ => []

def isT (d : Nat) : Operand → Bool
  | .tmp t => Nat.beq t d
  | _ => false

def usesL (d : Nat) : List Operand → Bool
  | [] => false
  | x :: l => bif isT d x then true else usesL d l

def usesP (d : Nat) : List (Nat × Operand) → Bool
  | [] => false
  | x :: l => bif isT d x.2 then true else usesP d l

def optT (d : Nat) : Option Operand → Bool
  | some x => isT d x
  | none => false

def usesOp (d : Nat) : Op → Bool
  | .alloc _ => false
  | .move x | .assign x | .box _ x | .load _ x | .nilCheck x | .unOp _ _ x | .convert _ _ x | .fieldAddr _ x _ | .range _ x | .next x _ | .extract x _ => isT d x
  | .pick c a b => isT d c || (isT d a || isT d b)
  | .build _ ps | .buildSlice _ _ ps => usesP d ps.toList
  | .store _ a v | .binOp _ _ a v _ | .makeSlice _ a v | .indexAddr _ a v | .index _ a v => isT d a || isT d v
  | .makeFunc _ f c => usesL d f.toList || usesL d c.toList
  | .slice _ x l h m => isT d x || (optT d l || (optT d h || optT d m))
  | .call c => (match c.callee with
    | .value f => isT d f
    | .builtin _ => false
    | _ => true) || usesL d c.args.toList
  | _ => true

def usesO (ops : Array Oper) (d : Nat) (o : Oper) : Bool := usesOp d o.op || match o.guard with
  | some (g, _) => match gslot ops g with
    | some t => Nat.beq t d
    | none => false
  | none => false

def apartW (ops : Array Oper) (x y : Oper) : Bool :=
  (match x.dst with
   | some d => !usesO ops d y && (match y.dst with
     | some e => !Nat.beq e d
     | none => true)
   | none => true) && (match y.dst with
   | some d => !usesO ops d x
   | none => true)

def hasEdge (i : Nat) : List Edge → Bool
  | [] => false
  | e :: l => bif bindsW e then (bif Nat.beq e.on i then true else hasEdge i l) else hasEdge i l

def freeW (ops : Array Oper) (i : Nat) (oi : Oper) : List Oper → List Bool → Nat → Bool
  | o :: os, b :: bs, j => bif Nat.beq j i || b then freeW ops i oi os bs (j + 1) else bif hasEdge i o.after.toList then freeW ops i oi os bs (j + 1) else bif apartW ops oi o then freeW ops i oi os bs (j + 1) else false
  | _, _, _ => true

theorem noSelW_ok {ops : Array Oper} (h : noSelW ops.toList = true) : Region.noSelect ops = true := by
  have : ∀ l : List Oper, noSelW l = true → ∀ o ∈ l, (match o.op with | .select .. => false | _ => true) = true := by
    intro l
    induction l with
    | nil => intro _ o ho; cases ho
    | cons x l ih =>
      intro h o ho
      simp only [noSelW] at h
      split at h
      · cases h
      · rename_i hx
        simp only [List.mem_cons] at ho
        rcases ho with rfl | ho
        · split
          · rename_i cs b he; exact absurd he (hx cs b)
          · rfl
        · exact ih h o ho
  unfold Region.noSelect
  rw [Array.all_eq_true_iff_forall_mem]
  intro o ho
  exact this ops.toList h o (by simpa using ho)

theorem nthB_eq (n : Nat) (l : List Bool) : nthB n l = l.toArray.getD n false := by
  have : nthB n l = (l[n]?).getD false := by
    induction l generalizing n with
    | nil => cases n <;> rfl
    | cons b l ih => cases n <;> simp [nthB, ih]
  rw [this, Array.getD_eq_getD_getElem?]
  simp

theorem bindsW_eq (e : Edge) : bindsW e = Region.binds .any e := by
  unfold bindsW Region.binds
  cases e.ground <;> rfl

theorem edgesW_eq (listed : List Bool) (l : List Edge) : edgesW listed l = l.all fun e => !Region.binds .any e || listed.toArray.getD e.on false := by
  induction l with
  | nil => rfl
  | cons e l ih =>
    simp only [edgesW, List.all_cons, bindsW_eq, nthB_eq, ih]
    cases Region.binds .any e <;> cases (listed.toArray.getD e.on false) <;> simp

theorem ready_eq (ops : Array Oper) (listed : List Bool) : Region.ready .any ops listed.toArray = readyW listed ops.toList listed 0 := by
  have key : ∀ (os : List Oper) (bs : List Bool) (k : Nat), (∀ j, os[j]? = ops[k + j]?) → (∀ j, bs[j]? = listed[k + j]?) →
      (List.range' k os.length).filter (fun i => !listed.toArray.getD i true && ((ops[i]?).map (·.after.all fun e => !Region.binds .any e || listed.toArray.getD e.on false)).getD false) = readyW listed os bs k := by
    intro os
    induction os with
    | nil => intro bs k _ _; cases bs <;> rfl
    | cons o os ih =>
      intro bs k ho hb
      have ho0 : ops[k]? = some o := by simpa using (ho 0).symm
      simp only [List.length_cons, List.range'_succ, List.filter_cons]
      cases bs with
      | nil =>
        have hnone : ∀ j, listed[k + j]? = none := fun j => by simpa using (hb j).symm
        simp only [readyW]
        have : ∀ (n m : Nat), k ≤ m → (List.range' m n).filter (fun i => !listed.toArray.getD i true && ((ops[i]?).map (·.after.all fun e => !Region.binds .any e || listed.toArray.getD e.on false)).getD false) = [] := by
          intro n m hm
          apply List.filter_eq_nil_iff.2
          intro i hi
          have hi' : k ≤ i := by
            have := List.mem_range'.1 hi
            omega
          have h2 := hnone (i - k)
          rw [show k + (i - k) = i by omega] at h2
          simp [Array.getD_eq_getD_getElem?, h2]
        have h2 := hnone 0
        simp only [Nat.add_zero] at h2
        rw [this _ (k + 1) (by omega)]
        simp [Array.getD_eq_getD_getElem?, h2]
      | cons b bs =>
        have hb0 : listed[k]? = some b := by simpa using (hb 0).symm
        have ih' := ih bs (k + 1) (fun j => by have := ho (j + 1); simp only [List.getElem?_cons_succ] at this; rw [this]; congr 1; omega) (fun j => by have := hb (j + 1); simp only [List.getElem?_cons_succ] at this; rw [this]; congr 1; omega)
        simp only [readyW]
        rw [ih', ho0, edgesW_eq]
        have e1 : listed.toArray.getD k true = b := by simp [Array.getD_eq_getD_getElem?, hb0]
        rw [e1]
        simp only [Option.map_some, Option.getD_some, Array.all_toList]
        cases b <;> simp <;> rfl
  unfold Region.ready
  rw [List.range_eq_range']
  have := key ops.toList listed 0 (fun j => by simp) (fun j => by simp)
  simpa using this

theorem isT_ok {d : Nat} {x : Operand} (h : isT d x = false) : x ≠ .tmp d := by
  intro e; subst e; simp [isT] at h

theorem usesL_ok {d : Nat} : ∀ {l : List Operand}, usesL d l = false → .tmp d ∉ l
  | [], _, hm => by cases hm
  | x :: l, h, hm => by
    simp only [usesL] at h
    cases hx : isT d x <;> rw [hx] at h
    · simp only [cond_false] at h
      simp only [List.mem_cons] at hm
      rcases hm with rfl | hm
      · exact isT_ok hx rfl
      · exact usesL_ok h hm
    · cases h

theorem usesP_ok {d : Nat} : ∀ {l : List (Nat × Operand)}, usesP d l = false → .tmp d ∉ l.map (·.2)
  | [], _, hm => by cases hm
  | x :: l, h, hm => by
    simp only [usesP] at h
    cases hx : isT d x.2 <;> rw [hx] at h
    · simp only [cond_false] at h
      simp only [List.map_cons, List.mem_cons] at hm
      rcases hm with he | hm
      · exact isT_ok hx he.symm
      · exact usesP_ok h hm
    · cases h

theorem optT_ok {d : Nat} {x : Option Operand} (h : optT d x = false) : .tmp d ∉ x.toArray := by
  cases x with
  | none => simp
  | some x => simp only [optT] at h; simpa using fun e => isT_ok h e.symm

theorem usesOp_ok {d : Nat} {o : Op} (h : usesOp d o = false) : .tmp d ∉ o.operands.toList := by
  cases o <;> simp only [usesOp, reduceCtorEq, Bool.or_eq_false_iff] at h <;> simp only [Op.operands]
  case alloc => simp
  case pick => simpa using ⟨fun e => isT_ok h.1 e.symm, fun e => isT_ok h.2.1 e.symm, fun e => isT_ok h.2.2 e.symm⟩
  case build => simpa using usesP_ok h
  case buildSlice => simpa using usesP_ok h
  case makeFunc =>
    have h1 := usesL_ok h.1
    have h2 := usesL_ok h.2
    simp only [Array.toList_append, List.mem_append]
    rintro (h | h)
    · exact h1 h
    · exact h2 h
  case slice =>
    have h2 := optT_ok h.2.1
    have h3 := optT_ok h.2.2.1
    have h4 := optT_ok h.2.2.2
    simp only [Array.toList_append, List.mem_append]
    rintro (((hm | hm) | hm) | hm)
    · simp at hm; exact isT_ok h.1 hm.symm
    · exact h2 (by simpa using hm)
    · exact h3 (by simpa using hm)
    · exact h4 (by simpa using hm)
  case call c =>
    obtain ⟨h1, h2⟩ := h
    have h2 := usesL_ok h2
    simp only [Call.operands, Array.toList_append, List.mem_append]
    rintro (hm | hm)
    · cases hc : c.callee <;> rw [hc] at h1 hm
      · simp at hm; exact isT_ok h1 hm.symm
      · cases h1
      · simp at hm
    · exact h2 hm
  all_goals first
    | (simpa using fun e => isT_ok h e.symm)
    | (simpa using ⟨fun e => isT_ok h.1 e.symm, fun e => isT_ok h.2 e.symm⟩)

theorem usesO_ok {ops : Array Oper} {d : Nat} {o : Oper} (h : usesO ops d o = false) : d ∉ o.looksAt ops := by
  simp only [usesO, Bool.or_eq_false_iff] at h
  obtain ⟨h1, h2⟩ := h
  have h1 := usesOp_ok h1
  unfold Oper.looksAt
  rw [List.mem_append]
  rintro (hm | hm)
  · rw [List.mem_filterMap] at hm
    obtain ⟨x, hx, he⟩ := hm
    cases x <;> simp at he
    subst he
    exact h1 hx
  · cases hg : o.guard with
    | none => rw [hg] at hm; cases hm
    | some gp =>
      obtain ⟨g, pol⟩ := gp
      rw [hg] at hm h2
      simp only at hm h2
      cases hs : gslot ops g with
      | none => simp only [gslot] at hs; rw [hs] at hm; cases hm
      | some t =>
        rw [hs] at h2
        simp only [gslot] at hs
        rw [hs] at hm
        simp at hm
        subst hm
        simp at h2

theorem apartW_ok {ops : Array Oper} {x y : Oper} (h : apartW ops x y = true) : x.apart ops y = true := by
  simp only [apartW, Bool.and_eq_true] at h
  obtain ⟨h1, h2⟩ := h
  unfold Oper.apart
  rw [Bool.and_eq_true]
  constructor
  · cases hx : x.dst with
    | none => rfl
    | some d =>
      rw [hx] at h1
      simp only [Bool.and_eq_true, Bool.not_eq_true'] at h1
      have := usesO_ok h1.1
      simp only [Bool.and_eq_true, Bool.not_eq_true', bne_iff_ne, ne_eq]
      refine ⟨by simpa using this, ?_⟩
      cases hy : y.dst with
      | none => simp
      | some e =>
        rw [hy] at h1
        have h3 := h1.2
        simp only [Bool.not_eq_true'] at h3
        intro he
        simp at he
        subst he
        simp at h3
  · cases hy : y.dst with
    | none => rfl
    | some d =>
      rw [hy] at h2
      simp only [Bool.not_eq_true'] at h2
      have := usesO_ok h2
      simpa using this

theorem hasEdge_ok {i : Nat} : ∀ {l : List Edge}, hasEdge i l = true → l.any (fun e => Region.binds .any e && e.on == i) = true
  | [], h => by cases h
  | e :: l, h => by
    simp only [hasEdge] at h
    simp only [List.any_cons, Bool.or_eq_true]
    cases hb : bindsW e <;> rw [hb] at h
    · exact .inr (hasEdge_ok h)
    · simp only [cond_true] at h
      cases hi : Nat.beq e.on i <;> rw [hi] at h
      · exact .inr (hasEdge_ok h)
      · left
        rw [← bindsW_eq, hb]
        simpa using Nat.eq_of_beq_eq_true hi

theorem freeW_ok {ops : Array Oper} {listed : List Bool} {i : Nat} {oi : Oper} (hi : ops[i]? = some oi) (h : freeW ops i oi ops.toList listed 0 = true) : Region.free .any ops listed.toArray i = true := by
  have key : ∀ (os : List Oper) (bs : List Bool) (k : Nat), (∀ j, os[j]? = ops[k + j]?) → (∀ j, bs[j]? = listed[k + j]?) → freeW ops i oi os bs k = true →
      ∀ j, k ≤ j → j < k + os.length → (j == i || listed.toArray.getD j true || match ops[j]? with | some oj => oj.after.any (fun e => Region.binds .any e && e.on == i) || oi.apart ops oj | none => true) = true := by
    intro os
    induction os with
    | nil => intro bs k _ _ _ j h1 h2; simp at h2; omega
    | cons o os ih =>
      intro bs k ho hb hf j h1 h2
      cases bs with
      | nil =>
        have : listed[j]? = none := by
          have := hb (j - k)
          rw [show k + (j - k) = j by omega] at this
          simpa using this.symm
        simp [Array.getD_eq_getD_getElem?, this]
      | cons b bs =>
        have ho0 : ops[k]? = some o := by simpa using (ho 0).symm
        have hb0 : listed[k]? = some b := by simpa using (hb 0).symm
        have ih' := fun hf => ih bs (k + 1) (fun j => by have := ho (j + 1); simp only [List.getElem?_cons_succ] at this; rw [this]; congr 1; omega) (fun j => by have := hb (j + 1); simp only [List.getElem?_cons_succ] at this; rw [this]; congr 1; omega) hf j
        simp only [freeW] at hf
        simp only [List.length_cons] at h2
        by_cases hjk : j = k
        · subst hjk
          rw [ho0]
          have e1 : listed.toArray.getD j true = b := by simp [Array.getD_eq_getD_getElem?, hb0]
          rw [e1]
          cases hc : (Nat.beq j i || b) <;> rw [hc] at hf
          · simp only [cond_false] at hf
            cases he : hasEdge i o.after.toList <;> rw [he] at hf
            · simp only [cond_false] at hf
              cases ha : apartW ops oi o <;> rw [ha] at hf
              · cases hf
              · simp [apartW_ok ha]
            · have := hasEdge_ok he
              simp only [Array.any_toList] at this
              simp [this]
          · simp only [Bool.or_eq_true] at hc
            rcases hc with hc | hc
            · have := Nat.eq_of_beq_eq_true hc
              simp [this]
            · simp [hc]
        · have hrest : freeW ops i oi os bs (k + 1) = true := by
            cases hc : (Nat.beq k i || b) <;> rw [hc] at hf
            · simp only [cond_false] at hf
              cases he : hasEdge i o.after.toList <;> rw [he] at hf
              · simp only [cond_false] at hf
                cases ha : apartW ops oi o <;> rw [ha] at hf
                · cases hf
                · exact hf
              · exact hf
            · exact hf
          exact ih' hrest (by omega) (by omega)
  unfold Region.free
  rw [hi]
  simp only [List.all_eq_true, List.mem_range]
  intro j hj
  exact key ops.toList listed 0 (fun j => by simp) (fun j => by simp) h j (by omega) (by simpa using hj)

def setBK : Nat → List Bool → (List Bool → Prop) → Prop
  | _, [], K => K []
  | 0, _ :: l, K => K (true :: l)
  | n + 1, b :: l, K => setBK n l fun l => K (b :: l)

theorem setBK_eq (n : Nat) (l : List Bool) (K : List Bool → Prop) : setBK n l K = K (l.set n true) := by
  induction l generalizing n K with
  | nil => cases n <;> rfl
  | cons b l ih => cases n <;> simp [setBK, ih]

/-- the first ready operation that asks nothing of memory and may be done at once -/
def pickT (ops : Array Oper) (listed : List Bool) : List Nat → Option Nat
  | [] => none
  | i :: rs => match ops[i]? with
    | some o => bif isW o.op then (bif freeW ops i o ops.toList listed 0 then some i else pickT ops listed rs) else pickT ops listed rs
    | none => none

/-- it is done -/
def takeK (tab : Tab) (nt : Nat) (all : Array Oper) (o : Oper) (gs : List Nat) (tm : Tm) (hp : Hp) (K : List Nat → Tm → Prop) : Prop := match o.guard with
  | none => aopW tab [] tm hp o.op fun v => putK nt gs o.dst v tm fun tm => K gs tm
  | some (j, pol) => match gslot all j with
    | none => Stuck "a guard without a slot"
    | some g => match apure tab (allow 4 g pol tm) tm hp o.op with
      | some v => fV v fun v => fV (bif isWhn v then .junk else .whn g pol v) fun v => putK nt (g :: gs) o.dst v tm fun tm => K (g :: gs) tm
      | none => guardK 4 g pol tm (fun tm => aopW tab [] tm hp o.op fun v => putK nt gs o.dst v tm fun tm => K gs tm) (fun tm => putK nt gs o.dst (.tup []) tm fun tm => K gs tm)

def allR (F : Nat → Prop) : List Nat → Prop
  | [] => True
  | i :: rs => F i ∧ allR F rs

/-- a step's end: what comes behind it is told only when it is asked for -/
structure Box (p : Prop) : Prop where
  out : p

def bxP (bx : Bool) (p : Prop) : Prop := match bx with
  | true => Box p
  | false => p

theorem bxP_out {bx : Bool} {p : Prop} (h : bxP bx p) : p := by
  cases bx
  · exact h
  · exact h.out

abbrev DrawT := List Bool → List Nat → Tm → Hp → Nat → PostT → Prop

def adraw0 (ops : Array Oper) : DrawT := fun listed gs tm hp nx K => match readyW listed ops.toList listed 0 with
  | [] => endK gs tm hp nx K
  | _ => Stuck "a region's end"

def adrawS (bx : Bool) (P : Program) (tab : Tab) (nt : Nat) (ops : Array Oper) (ih : DrawT) : DrawT := fun listed gs tm hp nx K => match readyW listed ops.toList listed 0 with
  | [] => endK gs tm hp nx K
  | r :: rs => match pickT ops listed (r :: rs) with
    | some i => match ops[i]? with
      | some o => takeK tab nt ops o gs tm hp fun gs tm => setBK i listed fun listed => bxP bx (ih listed gs tm hp nx K)
      | none => Stuck "no such operation"
    | none => allR (fun i => match ops[i]? with
      | some o => oneK P tab nt ops o gs tm hp nx fun gs tm hp nx => setBK i listed fun listed => bxP bx (ih listed gs tm hp nx K)
      | none => Stuck "no such operation") (r :: rs)

/-- a region whose order is open; by the recursor itself, so that the kernel's unfolding and the elaborator's are the same -/
noncomputable def adraw (bx : Bool) (P : Program) (tab : Tab) (nt : Nat) (ops : Array Oper) (n : List Bool) : DrawT :=
  List.rec (motive := fun _ => DrawT) (adraw0 ops) (fun _ _ ih => adrawS bx P tab nt ops ih) n

theorem adraw_nil (bx : Bool) (P : Program) (tab : Tab) (nt : Nat) (ops : Array Oper) : adraw bx P tab nt ops [] = adraw0 ops := rfl
theorem adraw_cons (bx : Bool) (P : Program) (tab : Tab) (nt : Nat) (ops : Array Oper) (b : Bool) (n : List Bool) : adraw bx P tab nt ops (b :: n) = adrawS bx P tab nt ops (adraw bx P tab nt ops n) := rfl

def isIntT (tab : Tab) (t : TypeId) : Bool := match tab t with
  | some ⟨_, _, .int _, _, _⟩ => true
  | _ => false

/-- a region in which nothing is written: loads may come first -/
def rdOnly (tab : Tab) : List Oper → Bool
  | [] => true
  | o :: os => (isW o.op || match o.op with
    | .load _ _ => match o.guard with
      | none => true
      | some _ => false
    | .convert s d _ => isIntT tab s && isIntT tab d
    | _ => false) && rdOnly tab os

def pickR (ops : Array Oper) (listed : List Bool) : List Nat → Option Nat
  | [] => none
  | i :: rs => match ops[i]? with
    | some o => bif freeW ops i o ops.toList listed 0 then some i else pickR ops listed rs
    | none => none

def takeR (tab : Tab) (nt : Nat) (all : Array Oper) (o : Oper) (gs : List Nat) (tm : Tm) (hp : Hp) (nx : Nat) (K : List Nat → Tm → Prop) : Prop := match o.op with
  | .load t x => match o.guard with
    | none => oLoad tab t (evg [] tm x) hp nx fun v _ _ => putK nt gs o.dst v tm fun tm => K gs tm
    | some _ => Stuck "a guarded load"
  | _ => takeK tab nt all o gs tm hp K

def adrawRS (bx : Bool) (tab : Tab) (nt : Nat) (ops : Array Oper) (ih : DrawT) : DrawT := fun listed gs tm hp nx K => match readyW listed ops.toList listed 0 with
  | [] => endK gs tm hp nx K
  | r :: rs => match pickR ops listed (r :: rs) with
    | some i => match ops[i]? with
      | some o => takeR tab nt ops o gs tm hp nx fun gs tm => setBK i listed fun listed => bxP bx (ih listed gs tm hp nx K)
      | none => Stuck "no such operation"
    | none => Stuck "nothing may come first"

noncomputable def adrawR (bx : Bool) (tab : Tab) (nt : Nat) (ops : Array Oper) (n : List Bool) : DrawT :=
  List.rec (motive := fun _ => DrawT) (adraw0 ops) (fun _ _ ih => adrawRS bx tab nt ops ih) n

theorem adrawR_nil (bx : Bool) (tab : Tab) (nt : Nat) (ops : Array Oper) : adrawR bx tab nt ops [] = adraw0 ops := rfl
theorem adrawR_cons (bx : Bool) (tab : Tab) (nt : Nat) (ops : Array Oper) (b : Bool) (n : List Bool) : adrawR bx tab nt ops (b :: n) = adrawRS bx tab nt ops (adrawR bx tab nt ops n) := rfl

def fillB : Nat → List Bool
  | 0 => []
  | n + 1 => false :: fillB n

def fuelK : List Oper → (List Bool → Prop) → Prop
  | [], K => K []
  | _ :: os, K => fuelK os fun l => K (false :: l)

theorem fuelK_eq (os : List Oper) (K : List Bool → Prop) : fuelK os K = K (fillB os.length) := by
  induction os generalizing K with
  | nil => rfl
  | cons o os ih => simp only [fuelK, ih, List.length_cons, fillB]

abbrev CodeT := PostC → Tm → Hp → Nat → Prop

def wSkip : CodeT := fun Q tm hp nx => Q .normal tm hp nx
def wStop : CodeT := fun _ _ _ _ => Stuck "code that is not known"
noncomputable def wRegion (P : Program) (tab : Tab) (nt : Nat) (ops : Array Oper) (draw : Bool) : CodeT := fun Q tm hp nx => match draw with
  | false => aops P tab nt ops ops.toList [] tm hp nx fun tm hp nx => Q .normal tm hp nx
  | true => bif noSelW ops.toList then (bif rdOnly tab ops.toList && Nat.blt 14 ops.size then fuelK ops.toList fun fl => adrawR true tab nt ops fl fl [] tm hp nx fun tm hp nx => Q .normal tm hp nx else match Nat.blt 14 ops.size with
    | true => fuelK ops.toList fun fl => adraw true P tab nt ops fl fl [] tm hp nx fun tm hp nx => Q .normal tm hp nx
    | false => fuelK ops.toList fun fl => adraw false P tab nt ops fl fl [] tm hp nx fun tm hp nx => Q .normal tm hp nx) else Stuck "a select"
def wSeq (a b : CodeT) : CodeT := fun Q tm hp nx => a (fun e tm hp nx => match e with
  | .normal => b Q tm hp nx
  | e => Q e tm hp nx) tm hp nx
def wCond (c : Operand) (a b : CodeT) : CodeT := fun Q tm hp nx => match evg [] tm c with
  | .bool t => br t (a Q tm hp nx) (b Q tm hp nx)
  | _ => Stuck "a test"
def wBlock (id : Nat) (c : CodeT) : CodeT := fun Q tm hp nx => c (fun e tm hp nx => match e with
  | .exit i => bif Nat.beq i id then Q .normal tm hp nx else Q (.exit i) tm hp nx
  | e => Q e tm hp nx) tm hp nx
def wLoop (P : Program) (nt ar : Nat) (c : Code) : CodeT := fun Q tm hp nx => LoopOb P nt ar c Q tm hp nx
def wExit (id : Nat) : CodeT := fun Q tm hp nx => Q (.exit id) tm hp nx
def wRet : CodeT := fun Q tm hp nx => Q .ret tm hp nx

/-- code; by the recursor itself, so that the kernel's unfolding and the elaborator's are the same -/
noncomputable def awp (P : Program) (tab : Tab) (nt ar : Nat) (c : Code) : CodeT :=
  Code.rec (motive := fun _ => CodeT) wSkip (fun _ ops draw => wRegion P tab nt ops draw) (fun _ _ a b => wSeq a b) (fun c _ _ a b => wCond c a b) (fun id _ c => wBlock id c) (fun c _ => wLoop P nt ar c)
    (fun _ _ _ _ _ _ => wStop) (fun id => wExit id) (fun _ _ => wStop) (fun _ => wStop) (fun _ => wStop) wRet (fun _ => wStop) c

/-- what a region comes to, from where it began -/
def RegR (nx0 nt : Nat) (C0 : Cx) (S0 : Nat → Prop) (w0 : World) (K : PostT) (a : Act) (w : World) : Prop :=
  a.defers = [] ∧ ∃ tm hp nx C S, K tm hp nx ∧ HSat hp nx C S w ∧ TSat tm nt C nx w.heap a.tmps ∧ Ext nx0 C0 C S0 S w0 w ∧ nx0 ≤ nx ∧ noW tm = true

theorem lk_clr (t : Nat) (tm : Tm) : lk t (clr tm) = clrV (lk t tm) := by
  induction tm with
  | nil => rfl
  | cons e l ih =>
    obtain ⟨k, x⟩ := e
    simp only [clr, lk]
    cases Nat.beq k t
    · simp only [cond_false]; exact ih
    · rfl

theorem noW_clr (tm : Tm) : noW (clr tm) = true := by
  induction tm with
  | nil => rfl
  | cons e l ih =>
    obtain ⟨k, x⟩ := e
    simp only [clr, noW, ih, Bool.and_true]
    cases x <;> rfl

theorem endK_ok {nx0 : Nat} {C0 : Cx} {S0 : Nat → Prop} {w0 : World} {gs : List Nat} {tm : Tm} {a : Act} {K : PostT} (hd : a.defers = []) (hs : HSat hp nx C S w) (ht : TSat tm nt C nx w.heap a.tmps) (hw : WL gs tm) (he : Ext nx0 C0 C S0 S w0 w) (hle : nx0 ≤ nx) (h : endK gs tm hp nx K) :
    RegR nx0 nt C0 S0 w0 K a w := by
  cases gs with
  | nil => exact ⟨hd, tm, hp, nx, C, S, h, hs, ht, he, hle, noW_WL.2 hw⟩
  | cons g gs =>
    simp only [endK, clrK_eq] at h
    refine ⟨hd, _, hp, nx, C, S, h, hs, ⟨ht.size, fun t hlt => ?_, fun t hle => by rw [lk_clr, ht.out t hle]; rfl⟩, he, hle, noW_clr tm⟩
    rw [lk_clr]
    have h1 := ht.at_ t hlt
    cases hl : lk t tm <;> rw [hl] at h1 <;> simp only [clrV] <;> first | exact h1 | skip
    simp only [TR] at h1
    rcases h1 with ⟨_, v, hv, _⟩ | ⟨_, hv⟩
    · exact ⟨v, hv, .junk _⟩
    · exact ⟨_, hv, .junk _⟩

theorem aops_ok (hT : TabOk P tab) {ops : Array Oper} {nx0 : Nat} {C0 : Cx} {S0 : Nat → Prop} {w0 : World} {K : PostT} : ∀ (os : List Oper) (k : Nat) (gs : List Nat) (tm : Tm) (hp : Hp) (nx : Nat) (C : Cx) (S : Nat → Prop) (w : World) (a : Act),
    (∀ j, os[j]? = ops[k + j]?) → a.defers = [] → HSat hp nx C S w → TSat tm nt C nx w.heap a.tmps → WL gs tm → Ext nx0 C0 C S0 S w0 w → nx0 ≤ nx → aops P tab nt ops os gs tm hp nx K →
    wpOps P ops (onlyN (RegR nx0 nt C0 S0 w0 K)) (List.range' k os.length) a w
  | [], k, gs, tm, hp, nx, C, S, w, a, ho, hd, hs, ht, hw, he, hle, h => ⟨rfl, endK_ok hd hs ht hw he hle h⟩
  | o :: os, k, gs, tm, hp, nx, C, S, w, a, ho, hd, hs, ht, hw, he, hle, h => by
    simp only [List.length_cons, List.range'_succ]
    rw [wpOps_cons]
    have hi : ops[k]? = some o := by have := ho 0; simpa using this.symm
    refine wpOp_mono ?_ (oneK_ok hT hi hd hs ht hw (Q := onlyN (RegR nx0 nt C0 S0 w0 K)) h)
    rintro a' w' ⟨hd', gs', tm', hp', nx', C', S', hk, hs', ht', hw', he', hle'⟩
    exact aops_ok hT os (k + 1) gs' tm' hp' nx' C' S' w' a' (fun j => by
      have := ho (j + 1)
      simp only [List.getElem?_cons_succ] at this
      rw [this]; congr 1; omega) hd' hs' ht' hw' (he.trans (he'.le hle)) (by omega) hk

theorem takeK_ok (hT : TabOk P tab) {ops : Array Oper} {o : Oper} {gs : List Nat} {tm : Tm} {a : Act} (hs : HSat hp nx C S w) (ht : TSat tm nt C nx w.heap a.tmps) (hw : WL gs tm) {K : List Nat → Tm → Prop} (h : takeK tab nt ops o gs tm hp K) :
    ∃ val gs' tm', Yields P ops o val a ∧ K gs' tm' ∧ TSat tm' nt C nx w.heap (a.put o.dst val).tmps ∧ WL gs' tm' := by
  unfold takeK at h
  have fin : ∀ tm1, TSat tm1 nt C nx w.heap a.tmps → WL gs tm1 → Region.wanted o (yielded ops a.tmps) = true → aopW tab [] tm1 hp o.op (fun v => putK nt gs o.dst v tm1 fun tm => K gs tm) →
      ∃ val gs' tm', Yields P ops o val a ∧ K gs' tm' ∧ TSat tm' nt C nx w.heap (a.put o.dst val).tmps ∧ WL gs' tm' := by
    intro tm1 ht1 hw1 hwant h1
    obtain ⟨v, val, r1, r2, r3⟩ := aopW_ok hT ht1 (GOk.nil _) hs.hr h1
    obtain ⟨tm', q1, q2, q3⟩ := putK_ok ht1 hw1 r2 (isWhn_VR r2) r3
    exact ⟨val, gs, tm', .inl ⟨hwant, r1⟩, q1, q2, q3⟩
  cases hgd : o.guard with
  | none =>
    rw [hgd] at h
    exact fin tm ht hw (by simp [Region.wanted, hgd]) h
  | some jp =>
    obtain ⟨j, pol⟩ := jp
    rw [hgd] at h
    simp only at h
    cases hgs : gslot ops j with
    | none => rw [hgs] at h; cases h
    | some g =>
      rw [hgs] at h
      simp only at h
      have hwant : Region.wanted o (yielded ops a.tmps) = true ↔ a.tmps[g]? = some (.bool pol) := by
        simp only [Region.wanted, hgd, gslot_yield hgs]
        constructor
        · intro h
          split at h
          · rename_i b hb
            rw [hb]
            simp at h
            rw [h]
          · simp at h
        · intro h
          rw [h]
          simp
      cases hgp : apure tab (allow 4 g pol tm) tm hp o.op with
      | none =>
        rw [hgp] at h
        simp only at h
        rcases guardK_ok 4 g pol tm _ _ ht hw h with ⟨hwt, tm', ht', hw', h1⟩ | ⟨hwt, tm', ht', hw', h1⟩
        · exact fin tm' ht' hw' (hwant.2 hwt) h1
        · obtain ⟨tm2, h2, h3, h4⟩ := putK_ok (val := undef) ht' hw' (.tup _ _ rfl (by simp)) rfl h1
          exact ⟨undef, gs, tm2, .inr ⟨by
            cases hx : Region.wanted o (yielded ops a.tmps) with
            | false => rfl
            | true => exact absurd (hwant.1 hx) hwt, rfl⟩, h2, h3, h4⟩
      | some v =>
        rw [hgp] at h
        simp only [fV_eq] at h
        have hw' : WL (g :: gs) tm := hw.mono (fun g hg => by simp [hg])
        have main : ∀ val, Yields P ops o val a → (a.tmps[g]? = some (.bool pol) → VR w.heap C nx v val) → (a.tmps[g]? ≠ some (.bool pol) → val = undef) →
            ∃ val gs' tm', Yields P ops o val a ∧ K gs' tm' ∧ TSat tm' nt C nx w.heap (a.put o.dst val).tmps ∧ WL gs' tm' := by
          intro val hy hyes hno
          cases hdst : o.dst with
          | none =>
            rw [hdst] at h
            exact ⟨val, g :: gs, tm, hy, h, ht, hw'⟩
          | some t =>
            rw [hdst] at h
            simp only [putK] at h
            cases hc : (Nat.blt t nt && !memN t (g :: gs)) with
            | false => rw [hc] at h; cases h
            | true =>
              rw [hc] at h
              simp only [Bool.and_eq_true, Bool.not_eq_true'] at hc
              have hlt : t < nt := by have := hc.1; rwa [Nat.blt_eq] at this
              have hne := memN_false hc.2
              have hsz := ht.size
              have e1 : (a.tmps.setIfInBounds t val)[t]? = some val := by simp [hsz, hlt]
              have e2 : (a.tmps.setIfInBounds t val)[g]? = a.tmps[g]? := Array.getElem?_setIfInBounds_ne (fun e => hne (by simp [e]))
              refine ⟨val, g :: gs, _, hy, h, put_TSat ht hw' hlt hne ?_, ?_⟩
              · cases hv : isWhn v
                · simp only [cond_false, TR]
                  rw [e1, e2]
                  by_cases hwt : a.tmps[g]? = some (.bool pol)
                  · exact .inl ⟨hwt, val, rfl, (hyes hwt).mono (fun p b hj => ⟨hj, rfl⟩) (fun _ _ => rfl) (Nat.le_refl _)⟩
                  · exact .inr ⟨hwt, by rw [hno hwt]⟩
                · simp only [cond_true, TR]
                  exact ⟨_, e1, .junk _⟩
              · intro e he g' p x hx
                simp only [List.mem_cons] at he
                rcases he with rfl | he
                · simp only at hx
                  cases hv : isWhn v <;> rw [hv] at hx
                  · simp only [cond_false, V.whn.injEq] at hx
                    obtain ⟨rfl, rfl, rfl⟩ := hx
                    exact ⟨by simp, hv⟩
                  · cases hx
                · exact hw' e he g' p x hx
        by_cases hwt : a.tmps[g]? = some (.bool pol)
        · obtain ⟨val, h1, h2⟩ := apure_ok (P := P) hT ht (allow_ok ht 4 g pol hwt) hs.hr hgp
          exact main val (.inl ⟨hwant.2 hwt, h1⟩) (fun _ => h2) (fun hn => absurd hwt hn)
        · exact main undef (.inr ⟨by
            cases hx : Region.wanted o (yielded ops a.tmps) with
            | false => rfl
            | true => exact absurd (hwant.1 hx) hwt, rfl⟩) (fun hy => absurd hy hwt) (fun _ => rfl)

theorem pickT_ok {ops : Array Oper} {listed : List Bool} : ∀ {rs : List Nat} {i : Nat}, pickT ops listed rs = some i → i ∈ rs ∧ Region.free .any ops listed.toArray i = true
  | [], _, h => by cases h
  | k :: rs, i, h => by
    simp only [pickT] at h
    cases ho : ops[k]? with
    | none => rw [ho] at h; cases h
    | some o =>
      rw [ho] at h
      simp only at h
      have rest : pickT ops listed rs = some i → i ∈ k :: rs ∧ Region.free .any ops listed.toArray i = true := fun h => by
        obtain ⟨h1, h2⟩ := pickT_ok h
        exact ⟨by simp [h1], h2⟩
      cases hc : isW o.op <;> rw [hc] at h
      · exact rest h
      · simp only [cond_true] at h
        cases hf : freeW ops k o ops.toList listed 0 <;> rw [hf] at h
        · exact rest h
        · simp only [cond_true, Option.some.injEq] at h
          subst h
          exact ⟨by simp, freeW_ok ho hf⟩

theorem allR_ok {F : Nat → Prop} : ∀ {rs : List Nat}, allR F rs → ∀ i ∈ rs, F i
  | [], _, i, hi => by cases hi
  | k :: rs, h, i, hi => by
    simp only [List.mem_cons] at hi
    rcases hi with rfl | hi
    · exact h.1
    · exact allR_ok h.2 i hi

theorem adraw_ok (bx : Bool) (hT : TabOk P tab) {ops : Array Oper} (hns : Region.noSelect ops = true) {nx0 : Nat} {C0 : Cx} {S0 : Nat → Prop} {w0 : World} {K : PostT} : ∀ (n : List Bool) (listed : List Bool) (gs : List Nat) (tm : Tm) (hp : Hp) (nx : Nat) (C : Cx) (S : Nat → Prop) (w : World) (a : Act),
    a.defers = [] → HSat hp nx C S w → TSat tm nt C nx w.heap a.tmps → WL gs tm → Ext nx0 C0 C S0 S w0 w → nx0 ≤ nx → adraw bx P tab nt ops n listed gs tm hp nx K →
    wpAny P .any ops (onlyN (RegR nx0 nt C0 S0 w0 K)) n.length listed.toArray a w
  | [], listed, gs, tm, hp, nx, C, S, w, a, hd, hs, ht, hw, he, hle, h => by
    simp only [adraw_nil, adraw0, ← ready_eq] at h
    cases hr : Region.ready .any ops listed.toArray with
    | nil => rw [hr] at h; exact ⟨hr, rfl, endK_ok hd hs ht hw he hle h⟩
    | cons _ _ => rw [hr] at h; cases h
  | f0 :: n, listed, gs, tm, hp, nx, C, S, w, a, hd, hs, ht, hw, he, hle, h => by
    simp only [adraw_cons, adrawS, ← ready_eq] at h
    rw [List.length_cons]
    cases hr : Region.ready .any ops listed.toArray with
    | nil => rw [hr] at h; exact wpAny_done hr ⟨rfl, endK_ok hd hs ht hw he hle h⟩ (n.length + 1)
    | cons r rs =>
      rw [hr] at h
      simp only at h
      cases hp1 : pickT ops listed (r :: rs) with
      | some i =>
        rw [hp1] at h
        simp only at h
        obtain ⟨hmem, hfree⟩ := pickT_ok hp1
        cases ho : ops[i]? with
        | none => rw [ho] at h; cases h
        | some o =>
          rw [ho] at h
          simp only [setBK_eq] at h
          obtain ⟨val, gs', tm', hy, hk, ht', hw'⟩ := takeK_ok hT hs ht hw h
          refine wpAny_take ho hns hfree (by rw [hr]; simpa using hmem) (fun c a w hq => by cases hq.1) hy ?_
          have := adraw_ok bx hT hns n (listed.set i true) gs' tm' hp nx C S w (a.put o.dst val) (put_defers hd _ _) hs ht' hw' he hle (bxP_out hk)
          rw [List.setIfInBounds_toArray]
          exact this
      | none =>
        rw [hp1] at h
        simp only at h
        refine wpAny_all hr (by simp) fun i hi => ?_
        have h1 := allR_ok h i hi
        cases ho : ops[i]? with
        | none => rw [ho] at h1; cases h1
        | some o =>
          rw [ho] at h1
          simp only [setBK_eq] at h1
          refine wpOp_mono ?_ (oneK_ok hT ho hd hs ht hw (Q := onlyN (RegR nx0 nt C0 S0 w0 K)) h1)
          rintro a' w' ⟨hd', gs', tm', hp', nx', C', S', hk, hs', ht', hw', he', hle'⟩
          have := adraw_ok bx hT hns n (listed.set i true) gs' tm' hp' nx' C' S' w' a' hd' hs' ht' hw' (he.trans (he'.le hle)) (by omega) (bxP_out hk)
          rw [List.setIfInBounds_toArray]
          exact this

theorem takeR_ok (hT : TabOk P tab) {ops : Array Oper} {o : Oper} {gs : List Nat} {tm : Tm} {a : Act} (hs : HSat hp nx C S w) (ht : TSat tm nt C nx w.heap a.tmps) (hw : WL gs tm) {K : List Nat → Tm → Prop} (h : takeR tab nt ops o gs tm hp nx K) :
    ∃ val gs' tm', YieldsIf P ops (fun w' => w' = w) o val a ∧ K gs' tm' ∧ TSat tm' nt C nx w.heap (a.put o.dst val).tmps ∧ WL gs' tm' := by
  have other : takeK tab nt ops o gs tm hp K → ∃ val gs' tm', YieldsIf P ops (fun w' => w' = w) o val a ∧ K gs' tm' ∧ TSat tm' nt C nx w.heap (a.put o.dst val).tmps ∧ WL gs' tm' := fun h => by
    obtain ⟨val, gs', tm', h1, h2⟩ := takeK_ok hT hs ht hw h
    exact ⟨val, gs', tm', h1.yieldsIf, h2⟩
  unfold takeR at h
  cases hop : o.op <;> rw [hop] at h <;> first | exact other h | skip
  rename_i t x
  simp only at h
  cases hgd : o.guard with
  | some _ => rw [hgd] at h; cases h
  | none =>
    rw [hgd] at h
    simp only at h
    obtain ⟨v, val, r1, r2, r3⟩ := load_here hT hs (evg_ok ht (GOk.nil _) x) h
    obtain ⟨tm', q1, q2, q3⟩ := putK_ok ht hw r2 (isWhn_VR r2) r3
    refine ⟨val, gs, tm', .inl ⟨by simp [Region.wanted, hgd], fun w' e => ?_⟩, q1, q2, q3⟩
    subst e
    simp [execOp, hop, r1]

theorem pickR_ok {ops : Array Oper} {listed : List Bool} : ∀ {rs : List Nat} {i : Nat}, pickR ops listed rs = some i → i ∈ rs ∧ Region.free .any ops listed.toArray i = true
  | k :: rs, i, h => by
    simp only [pickR] at h
    cases ho : ops[k]? with
    | none => rw [ho] at h; cases h
    | some o =>
      rw [ho] at h
      simp only at h
      cases hf : freeW ops k o ops.toList listed 0 with
      | true =>
        rw [hf] at h
        simp only [cond_true, Option.some.injEq] at h
        subst h
        exact ⟨by simp, freeW_ok ho hf⟩
      | false =>
        rw [hf] at h
        simp only [cond_false] at h
        obtain ⟨h1, h2⟩ := pickR_ok h
        exact ⟨by simp [h1], h2⟩

theorem adrawR_ok (bx : Bool) (hT : TabOk P tab) {ops : Array Oper} (hns : Region.noSelect ops = true) {nx0 : Nat} {C0 : Cx} {S0 : Nat → Prop} {w0 : World} {K : PostT} : ∀ (n : List Bool) (listed : List Bool) (gs : List Nat) (tm : Tm) (hp : Hp) (nx : Nat) (C : Cx) (S : Nat → Prop) (w : World) (a : Act),
    a.defers = [] → HSat hp nx C S w → TSat tm nt C nx w.heap a.tmps → WL gs tm → Ext nx0 C0 C S0 S w0 w → nx0 ≤ nx → adrawR bx tab nt ops n listed gs tm hp nx K →
    wpAnyH P .any ops (onlyN (RegR nx0 nt C0 S0 w0 K)) (fun w' => w' = w) n.length listed.toArray a w
  | [], listed, gs, tm, hp, nx, C, S, w, a, hd, hs, ht, hw, he, hle, h => by
    simp only [adrawR_nil, adraw0, ← ready_eq] at h
    cases hr : Region.ready .any ops listed.toArray with
    | nil => rw [hr] at h; exact ⟨hr, rfl, endK_ok hd hs ht hw he hle h⟩
    | cons _ _ => rw [hr] at h; cases h
  | f0 :: n, listed, gs, tm, hp, nx, C, S, w, a, hd, hs, ht, hw, he, hle, h => by
    simp only [adrawR_cons, adrawRS, ← ready_eq] at h
    rw [List.length_cons]
    cases hr : Region.ready .any ops listed.toArray with
    | nil => rw [hr] at h; exact wpAnyH_done hr ⟨rfl, endK_ok hd hs ht hw he hle h⟩ (n.length + 1)
    | cons r rs =>
      rw [hr] at h
      simp only at h
      cases hp1 : pickR ops listed (r :: rs) with
      | none => rw [hp1] at h; cases h
      | some i =>
        rw [hp1] at h
        simp only at h
        obtain ⟨hmem, hfree⟩ := pickR_ok hp1
        cases ho : ops[i]? with
        | none => rw [ho] at h; cases h
        | some o =>
          rw [ho] at h
          simp only [setBK_eq] at h
          obtain ⟨val, gs', tm', hy, hk, ht', hw'⟩ := takeR_ok hT hs ht hw h
          refine wpAnyH_take ho hns hfree (by rw [hr]; simpa using hmem) (fun c a w hq => by cases hq.1) hy rfl ?_
          have := adrawR_ok bx hT hns n (listed.set i true) gs' tm' hp nx C S w (a.put o.dst val) (put_defers hd _ _) hs ht' hw' he hle (bxP_out hk)
          rw [List.setIfInBounds_toArray]
          exact this

theorem fillB_len : ∀ n : Nat, (fillB n).length = n
  | 0 => rfl
  | n + 1 => by simp only [fillB, List.length_cons, fillB_len n]

theorem fillB_eq (n : Nat) : (fillB n).toArray = Array.replicate n false := by
  have : fillB n = List.replicate n false := by
    induction n with
    | zero => rfl
    | succ n ih => simp [fillB, ih, List.replicate_succ]
  rw [this]
  simp

/-- it is right -/
theorem awp_good (hT : TabOk P tab) (hm : P.follows .mixedOrders = true) {nt ar : Nat} : ∀ (c : Code) (Q : PostC) (tm : Tm) (hp : Hp) (nx : Nat), awp P tab nt ar c Q tm hp nx → Good P nt ar c Q tm hp nx := by
  intro c
  induction c with
  | skip =>
    intro Q tm hp nx h C S w a hd har hs ht hw
    exact wp_skip ⟨hd, tm, hp, nx, C, S, h, hs, ht, .refl _ _ _ _, har, hw⟩
  | region id ops draw =>
    intro Q tm hp nx h C S w a hd har hs ht hw
    have conv : ∀ e a' w', onlyN (RegR nx nt C S w fun tm hp nx => Q .normal tm hp nx) e a' w' → (fun e a' w' => a'.defers = [] ∧ ∃ tm' hp' nx' C' S', Q e tm' hp' nx' ∧ HSat hp' nx' C' S' w' ∧ TSat tm' nt C' nx' w'.heap a'.tmps ∧ Ext ar C C' S S' w w' ∧ ar ≤ nx' ∧ noW tm' = true) e a' w' := by
      rintro e a' w' ⟨rfl, hd', tm', hp', nx', C', S', h1, h2, h3, h4, h5, h6⟩
      exact ⟨hd', tm', hp', nx', C', S', h1, h2, h3, h4.le har, by omega, h6⟩
    cases draw with
    | false =>
      simp only [awp, wRegion] at h
      refine wp_mono (wp_region ?_) conv
      have := aops_ok hT ops.toList 0 [] tm hp nx C S w a (fun j => by simp) hd hs ht (noW_WL.1 hw) (.refl _ _ _ _) (Nat.le_refl _) h
      rw [List.range_eq_range']
      simpa using this
    | true =>
      simp only [awp, wRegion] at h
      cases hns' : noSelW ops.toList <;> rw [hns'] at h
      · cases h
      · have hns := noSelW_ok hns'
        simp only [cond_true] at h
        obtain ⟨hs1, he1⟩ := drew_sat (w' := { w with drawn := w.drawn + 1 }) hs rfl rfl rfl rfl
        refine wp_mono (wp_region_any hm ?_) conv
        rw [← fillB_eq]
        simp only [fuelK_eq] at h
        cases hro : (rdOnly tab ops.toList && Nat.blt 14 ops.size) with
        | true =>
          rw [hro] at h
          simp only [cond_true] at h
          have hfl2 : ops.toList.length = ops.size := by simp
          rw [hfl2] at h
          have g1 := adrawR_ok (w0 := w) (S0 := S) (C0 := C) (nx0 := nx) (K := fun tm hp nx => Q .normal tm hp nx) true hT hns (fillB ops.size) (fillB ops.size) [] tm hp nx C S _ a hd hs1 ht (noW_WL.1 hw) (he1 nx) (Nat.le_refl _) h
          rw [fillB_len] at g1
          have g2 := wpAny_of_held _ _ _ _ g1
          rw [fillB_eq] at g2 ⊢
          exact g2
        | false =>
        rw [hro] at h
        simp only [cond_false] at h
        have hfl : (fillB ops.size).length = ops.size := fillB_len _
        have hfl2 : ops.toList.length = ops.size := by simp
        rw [hfl2] at h
        have goal1 := fun bx => adraw_ok (w0 := w) (S0 := S) (C0 := C) (nx0 := nx) (K := fun tm hp nx => Q .normal tm hp nx) bx hT hns (fillB ops.size) (fillB ops.size) [] tm hp nx C S _ a hd hs1 ht (noW_WL.1 hw) (he1 nx) (Nat.le_refl _)
        rw [hfl] at goal1
        split at h
        · exact goal1 _ h
        · exact goal1 _ h
  | seq x y ihx ihy =>
    intro Q tm hp nx h C S w a hd har hs ht hw
    have h : wSeq (awp P tab nt ar x) (awp P tab nt ar y) Q tm hp nx := h
    simp only [wSeq] at h
    refine wp_seq (wp_mono (ihx _ tm hp nx h C S w a hd har hs ht hw) ?_)
    rintro e a' w' ⟨hd', tm', hp', nx', C', S', h1, h2, h3, h4, h5, h6⟩
    cases e with
    | normal =>
      simp only [Exit.then]
      refine wp_mono (ihy Q tm' hp' nx' h1 C' S' w' a' hd' h5 h2 h3 h6) ?_
      rintro e a2 w2 ⟨hd2, tm2, hp2, nx2, C2, S2, g1, g2, g3, g4, g5, g6⟩
      exact ⟨hd2, tm2, hp2, nx2, C2, S2, g1, g2, g3, h4.trans g4, g5, g6⟩
    | _ => exact ⟨hd', tm', hp', nx', C', S', h1, h2, h3, h4, h5, h6⟩
  | cond c x y ihx ihy =>
    intro Q tm hp nx h C S w a hd har hs ht hw
    have h : wCond c (awp P tab nt ar x) (awp P tab nt ar y) Q tm hp nx := h
    simp only [wCond] at h
    have ec := evg_ok ht (GOk.nil _) c
    cases hc : evg [] tm c <;> rw [hc] at h ec <;> first | (cases h; done) | skip
    rename_i t
    refine wp_cond_split ec.bool_inv (fun e => ?_) (fun e => ?_)
    · subst e; exact ihx Q tm hp nx h C S w a hd har hs ht hw
    · subst e; exact ihy Q tm hp nx h C S w a hd har hs ht hw
  | block id x ih =>
    intro Q tm hp nx h C S w a hd har hs ht hw
    have h : wBlock id (awp P tab nt ar x) Q tm hp nx := h
    simp only [wBlock] at h
    refine wp_block (wp_mono (ih _ tm hp nx h C S w a hd har hs ht hw) ?_)
    rintro e a' w' ⟨hd', tm', hp', nx', C', S', h1, h2⟩
    cases e with
    | exit i =>
      simp only [Exit.inBlock]
      by_cases hi : i = id
      · subst hi
        simp only [Nat.beq_refl, cond_true] at h1
        rw [if_pos rfl]
        exact ⟨hd', tm', hp', nx', C', S', h1, h2⟩
      · simp only [beq_ne hi, cond_false] at h1
        rw [if_neg hi]
        exact ⟨hd', tm', hp', nx', C', S', h1, h2⟩
    | _ => exact ⟨hd', tm', hp', nx', C', S', h1, h2⟩
  | loop x ih =>
    intro Q tm hp nx h
    exact h.out
  | exit id =>
    intro Q tm hp nx h C S w a hd har hs ht hw
    exact wp_exit ⟨hd, tm, hp, nx, C, S, h, hs, ht, .refl _ _ _ _, har, hw⟩
  | ret =>
    intro Q tm hp nx h C S w a hd har hs ht hw
    exact wp_ret ⟨hd, tm, hp, nx, C, S, h, hs, ht, .refl _ _ _ _, har, hw⟩
  | _ => intro Q tm hp nx h; cases h

end
end Go.Sx
end

section
namespace Go.Sx

/-- old names and new ones, in order -/
abbrev Mp := List (Nat × Nat)

def findM (n : Nat) : Mp → Option Nat
  | [] => none
  | (k, m) :: l => bif Nat.beq k n then some m else findM n l

def snocMK (n m : Nat) : Mp → (Mp → Prop) → Prop
  | [], K => K [(n, m)]
  | (a, b) :: l, K => snocMK n m l fun l => K ((a, b) :: l)

theorem snocMK_eq (n m : Nat) (l : Mp) (K : Mp → Prop) : snocMK n m l K = K (l ++ [(n, m)]) := by
  induction l generalizing K with
  | nil => rfl
  | cons x l ih => obtain ⟨a, b⟩ := x; simp only [snocMK, ih, List.cons_append]

def snocHK (n : Nat) (o : Ob) : Hp → (Hp → Prop) → Prop
  | [], K => K [(n, o)]
  | (a, b) :: l, K => snocHK n o l fun l => K ((a, b) :: l)

theorem snocHK_eq (n : Nat) (o : Ob) (l : Hp) (K : Hp → Prop) : snocHK n o l K = K (l ++ [(n, o)]) := by
  induction l generalizing K with
  | nil => rfl
  | cons x l ih => obtain ⟨a, b⟩ := x; simp only [snocHK, ih, List.cons_append]

def visN (B n : Nat) (μ : Mp) (nx : Nat) (K : Nat → Mp → Nat → Prop) : Prop := match findM n μ with
  | some m => K m μ nx
  | none => bif Nat.blt n B then snocMK n nx μ fun μ => K nx μ (nx + 1) else Stuck "a name that is none"

def visL (B : Nat) : Nat → List V → Mp → Nat → (List V → Mp → Nat → Prop) → Prop
  | 0, _, _, _, _ => Stuck "values too deep"
  | _ + 1, [], μ, nx, K => K [] μ nx
  | f + 1, x :: l, μ, nx, K => match x with
    | .ptr n o => visN B n μ nx fun n μ nx => visL B f l μ nx fun l μ nx => K (.ptr n o :: l) μ nx
    | .vec n => visN B n μ nx fun n μ nx => visL B f l μ nx fun l μ nx => K (.vec n :: l) μ nx
    | .sub n o c => visN B n μ nx fun n μ nx => visL B f l μ nx fun l μ nx => K (.sub n o c :: l) μ nx
    | .eptr n i o => visN B n μ nx fun n μ nx => visL B f l μ nx fun l μ nx => K (.eptr n i o :: l) μ nx
    | .map n => visN B n μ nx fun n μ nx => visL B f l μ nx fun l μ nx => K (.map n :: l) μ nx
    | .agg cs => visL B f cs μ nx fun cs μ nx => visL B f l μ nx fun l μ nx => K (.agg cs :: l) μ nx
    | .tup cs => visL B f cs μ nx fun cs μ nx => visL B f l μ nx fun l μ nx => K (.tup cs :: l) μ nx
    | .func g a c => visL B f a μ nx fun a μ nx => visL B f c μ nx fun c μ nx => visL B f l μ nx fun l μ nx => K (.func g a c :: l) μ nx
    | .iface t x => visL B f [x] μ nx fun r μ nx => match r with
      | [x] => visL B f l μ nx fun l μ nx => K (.iface t x :: l) μ nx
      | _ => Stuck "an interface's value"
    | .whn _ _ _ => Stuck "a value that is there only sometimes"
    | x => visL B f l μ nx fun l μ nx => K (x :: l) μ nx

/-- a value with other names -/
inductive Ren (R : Nat → Nat → Prop) : V → V → Prop
  | refl (x : V) (h : ∀ {h : Array Obj} {C : Cx} {B B' : Nat} {v : Value} {N : Nat → Loc}, VR h C B x v → VR h { C with N := N } B' x v) : Ren R x x
  | ptr (n m o : Nat) (h : R n m) : Ren R (.ptr n o) (.ptr m o)
  | vec (n m : Nat) (h : R n m) : Ren R (.vec n) (.vec m)
  | sub (n m o l : Nat) (h : R n m) : Ren R (.sub n o l) (.sub m o l)
  | eptr (n m i o : Nat) (h : R n m) : Ren R (.eptr n i o) (.eptr m i o)
  | map (n m : Nat) (h : R n m) : Ren R (.map n) (.map m)
  | agg (cs ds : List V) (hl : cs.length = ds.length) (h : ∀ (i : Nat) (x y : V), cs[i]? = some x → ds[i]? = some y → Ren R x y) : Ren R (.agg cs) (.agg ds)
  | tup (cs ds : List V) (hl : cs.length = ds.length) (h : ∀ (i : Nat) (x y : V), cs[i]? = some x → ds[i]? = some y → Ren R x y) : Ren R (.tup cs) (.tup ds)
  | func (f : FuncId) (as bs cs ds : List V) (ha : as.length = bs.length) (hc : cs.length = ds.length) (h1 : ∀ (i : Nat) (x y : V), as[i]? = some x → bs[i]? = some y → Ren R x y)
      (h2 : ∀ (i : Nat) (x y : V), cs[i]? = some x → ds[i]? = some y → Ren R x y) : Ren R (.func f as cs) (.func f bs ds)
  | iface (t : TypeId) (x y : V) (h : Ren R x y) : Ren R (.iface t x) (.iface t y)

/-- lists, place by place -/
def RenL (R : Nat → Nat → Prop) (cs ds : List V) : Prop := cs.length = ds.length ∧ ∀ (i : Nat) (x y : V), cs[i]? = some x → ds[i]? = some y → Ren R x y

theorem Ren.mono {R R' : Nat → Nat → Prop} (hR : ∀ n m, R n m → R' n m) {x y : V} (h : Ren R x y) : Ren R' x y := by
  induction h with
  | refl x h => exact .refl x h
  | ptr n m o h => exact .ptr n m o (hR _ _ h)
  | vec n m h => exact .vec n m (hR _ _ h)
  | sub n m o l h => exact .sub n m o l (hR _ _ h)
  | eptr n m i o h => exact .eptr n m i o (hR _ _ h)
  | map n m h => exact .map n m (hR _ _ h)
  | agg cs ds hl h ih => exact .agg cs ds hl ih
  | tup cs ds hl h ih => exact .tup cs ds hl ih
  | func f as bs cs ds ha hc h1 h2 i1 i2 => exact .func f as bs cs ds ha hc i1 i2
  | iface t x y h ih => exact .iface t x y ih

theorem RenL.mono {R R' : Nat → Nat → Prop} (hR : ∀ n m, R n m → R' n m) {x y : List V} (h : RenL R x y) : RenL R' x y :=
  ⟨h.1, fun i a b ha hb => (h.2 i a b ha hb).mono hR⟩

theorem RenL.nil {R : Nat → Nat → Prop} : RenL R [] [] := ⟨rfl, fun i x y h => by simp at h⟩

theorem RenL.cons {R : Nat → Nat → Prop} {x y : V} {l m : List V} (h : Ren R x y) (hl : RenL R l m) : RenL R (x :: l) (y :: m) := by
  refine ⟨by simp [hl.1], fun i a b ha hb => ?_⟩
  cases i with
  | zero => simp at ha hb; subst ha; subst hb; exact h
  | succ i => simp at ha hb; exact hl.2 i a b ha hb

theorem RenL.single {R : Nat → Nat → Prop} {x y : V} (h : RenL R [x] [y]) : Ren R x y := h.2 0 x y rfl rfl

section
variable {h : Array Obj} {C : Cx} {B B' : Nat} {R : Nat → Nat → Prop} {N : Nat → Loc}

theorem VR.ren (hR : ∀ n m, R n m → n < B → m < B' ∧ N m = C.N n) {x y : V} (e : Ren R x y) : ∀ {v : Value}, VR h C B x v → VR h { C with N := N } B' y v := by
  induction e with
  | refl x hx => intro v hv; exact hx hv
  | ptr n m o hr =>
    intro v hv
    cases hv with
    | imm _ _ e => cases e
    | ptr _ _ b hn hb => obtain ⟨h1, h2⟩ := hR n m hr hn; exact .ptr m o b h1 (by simp only; rw [h2]; exact hb)
  | vec n m hr =>
    intro v hv
    cases hv with
    | imm _ _ e => cases e
    | vec _ b hn hb =>
      obtain ⟨h1, h2⟩ := hR n m hr hn
      have := VR.vec (h := h) (C := { C with N := N }) (B := B') m b h1 (by simp only; rw [h2]; exact hb)
      simp only [h2] at this
      exact this
    | vecNil _ hn hb => obtain ⟨h1, h2⟩ := hR n m hr hn; exact .vecNil m h1 (by simp only; rw [h2]; exact hb)
  | sub n m o l hr =>
    intro v hv
    cases hv with
    | imm _ _ e => cases e
    | sub _ _ _ c b p hn hb hc hl hp =>
      obtain ⟨h1, h2⟩ := hR n m hr hn
      exact .sub m o l c b p h1 (by simp only; rw [h2]; exact hb) hc (by simp only; rw [h2]; exact hl) (by simp only; rw [h2]; exact hp)
    | subNil _ _ hn hb => obtain ⟨h1, h2⟩ := hR n m hr hn; exact .subNil m o h1 (by simp only; rw [h2]; exact hb)
  | eptr n m i o hr =>
    intro v hv
    cases hv with
    | imm _ _ e => cases e
    | eptr _ _ _ b hn hb =>
      obtain ⟨h1, h2⟩ := hR n m hr hn
      have := VR.eptr (h := h) (C := { C with N := N }) (B := B') m i o b h1 (by simp only; rw [h2]; exact hb)
      simp only [h2] at this
      exact this
  | map n m hr =>
    intro v hv
    cases hv with
    | imm _ _ e => cases e
    | map _ b hn hb => obtain ⟨h1, h2⟩ := hR n m hr hn; exact .map m b h1 (by simp only; rw [h2]; exact hb)
  | agg cs ds hd hr ih =>
    intro v hv
    have fin : ∀ arr, cs.length = arr.size → (∀ (i : Nat) (x : V) (v : Value), cs[i]? = some x → arr[i]? = some v → VR h C B x v) → VR h { C with N := N } B' (.agg ds) (.agg arr) := by
      intro arr hl hv
      obtain ⟨h1, h2⟩ := lift_ix (Q' := fun y v => VR h { C with N := N } B' y v) hl hd hv (fun i x y v hx hy hq => ih i x y hx hy hq)
      exact .agg ds arr h1 h2
    cases hv with
    | imm _ _ e =>
      cases e with
      | agg _ arr hl hv => exact fin arr hl (fun i x v hx hv' => .imm _ _ (hv i x v hx hv'))
    | agg _ arr hl hv => exact fin arr hl hv
  | tup cs ds hd hr ih =>
    intro v hv
    cases hv with
    | imm _ _ e => cases e
    | tup _ arr hl hv =>
      obtain ⟨h1, h2⟩ := lift_ix (Q' := fun y v => VR h { C with N := N } B' y v) hl hd hv (fun i x y v hx hy hq => ih i x y hx hy hq)
      exact .tup ds arr h1 h2
  | func f as bs cs ds ha hc hr1 hr2 i1 i2 =>
    intro v hv
    cases hv with
    | imm _ _ e =>
      cases e
      have e1 : bs = [] := List.eq_nil_of_length_eq_zero ha.symm
      have e2 : ds = [] := List.eq_nil_of_length_eq_zero hc.symm
      subst e1; subst e2
      exact .imm _ _ (.func f)
    | func _ _ _ x y hx hy gx gy =>
      obtain ⟨h1, h2⟩ := lift_ix (Q' := fun y v => VR h { C with N := N } B' y v) hx ha gx (fun i x y v hx hy hq => i1 i x y hx hy hq)
      obtain ⟨h3, h4⟩ := lift_ix (Q' := fun y v => VR h { C with N := N } B' y v) hy hc gy (fun i x y v hx hy hq => i2 i x y hx hy hq)
      exact .func f bs ds x y h1 h3 h2 h4
  | iface t x y hr ih =>
    intro v hv
    cases hv with
    | imm _ _ e => cases e
    | iface _ _ v hv => exact .iface t y v (ih hv)

theorem LR.ren (hR : ∀ n m, R n m → n < B → m < B' ∧ N m = C.N n) {cs ds : List V} {arr : Array Value} (e : RenL R cs ds) (hv : LR h C B cs arr) : LR h { C with N := N } B' ds arr :=
  lift_ix (Q' := fun y v => VR h { C with N := N } B' y v) hv.1 e.1 hv.2 (fun i x y _ hx hy hq => VR.ren hR (e.2 i x y hx hy) hq)

/-- things -/
inductive RenO (R : Nat → Nat → Prop) : Ob → Ob → Prop
  | cells (ty : TypeId) (cs ds : List V) (h : RenL R cs ds) : RenO R (.cells ty cs) (.cells ty ds)
  | row (ty sz : Nat) {α : Type} (enc : α → V) (xs : List α) : RenO R (.row ty sz enc xs) (.row ty sz enc xs)
  | iter (s : List UInt8) (pos : Nat) : RenO R (.iter s pos) (.iter s pos)
  | arr (ty : TypeId) (cs ds : List V) {α : Type} (enc : α → V) (xs : List α) (h : RenL R cs ds) : RenO R (.arr ty cs enc xs) (.arr ty ds enc xs)

theorem RenO.mono {R R' : Nat → Nat → Prop} (hR : ∀ n m, R n m → R' n m) {x y : Ob} (h : RenO R x y) : RenO R' x y := by
  cases h with
  | cells ty cs ds h => exact .cells ty cs ds (h.mono hR)
  | row => exact .row ..
  | iter => exact .iter ..
  | arr ty cs ds enc xs h => exact .arr ty cs ds enc xs (h.mono hR)

theorem OR.ren {n m : Nat} {S : Nat → Prop} {o o' : Ob} (hR : ∀ n m, R n m → n < B → m < B' ∧ N m = C.N n) (e : RenO R o o') (hnm : N m = C.N n) (ho : OR h C B n S o) : OR h { C with N := N } B' m S o' := by
  cases e with
  | cells ty cs ds e =>
    obtain ⟨b, arr, hb, hh, hl, hs⟩ := ho
    exact ⟨b, arr, by simp only; rw [hnm]; exact hb, hh, hl.ren hR e, hs⟩
  | row ty sz enc xs => simp only [OR, hnm] at ho ⊢; exact ho
  | iter s pos => simp only [OR, hnm] at ho ⊢; exact ho
  | arr ty cs ds enc xs e =>
    obtain ⟨b, arr, hb, hh, hsz, hl, hx, hs⟩ := ho
    refine ⟨b, arr, by simp only; rw [hnm]; exact hb, hh, by rw [← e.1]; exact hsz, fun i y v hy hv => ?_, fun i x h1 => by rw [← e.1]; exact hx i x h1, hs⟩
    have hi : i < cs.length := by rw [e.1]; exact (List.getElem?_eq_some_iff.1 hy).1
    have hx' : cs[i]? = some cs[i] := List.getElem?_eq_getElem hi
    exact VR.ren hR (e.2 i _ y hx' hy) (hl i _ v hx' hv)

end

def visO (B : Nat) (o : Ob) (μ : Mp) (nx : Nat) (K : Ob → Mp → Nat → Prop) : Prop := match o with
  | .cells ty cs => visL B 4000 cs μ nx fun cs μ nx => K (.cells ty cs) μ nx
  | .row ty sz enc xs => K (.row ty sz enc xs) μ nx
  | .iter s pos => K (.iter s pos) μ nx
  | .arr ty pre enc xs => visL B 4000 pre μ nx fun pre μ nx => K (.arr ty pre enc xs) μ nx

def nthM : Nat → Mp → Option (Nat × Nat)
  | _, [] => none
  | 0, x :: _ => some x
  | n + 1, _ :: l => nthM n l

/-- the named things' own names, one by one -/
def proc (B : Nat) : Nat → Nat → Mp → Nat → Hp → Hp → (Mp → Nat → Hp → Hp → Prop) → Prop
  | 0, _, _, _, _, _, _ => Stuck "too many names"
  | f + 1, i, μ, nx, hp, out, K => match nthM i μ with
    | none => K μ nx hp out
    | some (n, m) => match obj n hp with
      | none => proc B f (i + 1) μ nx hp out K
      | some o => delK n hp fun hp => visO B o μ nx fun o μ nx => snocHK m o out fun out => proc B f (i + 1) μ nx hp out K

/-- values, and what is reachable from them, with new names (fx: these have theirs; st: the first one that is free); rest: what isn't reachable -/
def normK (fx : Mp) (st B : Nat) (vs : List V) (hp : Hp) (K : List V → Hp → Nat → Mp → Hp → Prop) : Prop :=
  visL B 4000 vs fx st fun vs μ nx => proc B 4000 0 μ nx hp [] fun μ nx rest out => K vs out nx μ rest

structure WfM (fx : Mp) (st B : Nat) (μ : Mp) (nx : Nat) : Prop where
  keys : ∀ n m m', (n, m) ∈ μ → (n, m') ∈ μ → m = m'
  vals : ∀ n n' m, (n, m) ∈ μ → (n', m) ∈ μ → n = n'
  lt : ∀ n m, (n, m) ∈ μ → m < nx
  old : ∀ n m, (n, m) ∈ μ → (n, m) ∈ fx ∨ (st ≤ m ∧ n < B)
  le : st ≤ nx
  sub : ∀ e, e ∈ fx → e ∈ μ

theorem findM_some {n m : Nat} : ∀ {μ : Mp}, findM n μ = some m → (n, m) ∈ μ
  | [], h => by cases h
  | (k, x) :: l, h => by
    simp only [findM] at h
    cases hk : Nat.beq k n <;> rw [hk] at h
    · simp only [cond_false] at h
      exact List.mem_cons_of_mem _ (findM_some h)
    · simp only [cond_true, Option.some.injEq] at h
      have := Nat.eq_of_beq_eq_true hk
      subst this; subst h
      simp

theorem findM_none {n : Nat} : ∀ {μ : Mp}, findM n μ = none → ∀ m, (n, m) ∉ μ
  | [], _, m, hm => by cases hm
  | (k, x) :: l, h, m, hm => by
    simp only [findM] at h
    cases hk : Nat.beq k n <;> rw [hk] at h
    · simp only [cond_false] at h
      simp only [List.mem_cons, Prod.mk.injEq] at hm
      rcases hm with ⟨rfl, _⟩ | hm
      · simp at hk
      · exact findM_none h m hm
    · cases h

section
variable {fx : Mp} {st B : Nat}

theorem visN_ok {n : Nat} {μ : Mp} {nx : Nat} {K : Nat → Mp → Nat → Prop} (hw : WfM fx st B μ nx) (h : visN B n μ nx K) :
    ∃ m μ' nx', K m μ' nx' ∧ (n, m) ∈ μ' ∧ (∀ e ∈ μ, e ∈ μ') ∧ WfM fx st B μ' nx' := by
  unfold visN at h
  cases hf : findM n μ with
  | some m => rw [hf] at h; exact ⟨m, μ, nx, h, findM_some hf, fun _ he => he, hw⟩
  | none =>
    rw [hf] at h
    simp only at h
    cases hb : Nat.blt n B <;> rw [hb] at h
    · cases h
    · simp only [cond_true, snocMK_eq] at h
      have hnb : n < B := by rwa [Nat.blt_eq] at hb
      have hn := findM_none hf
      refine ⟨nx, _, _, h, by simp, fun e he => by simp [he], ⟨?_, ?_, ?_, ?_, ?_, ?_⟩⟩
      · intro a m m' h1 h2
        simp only [List.mem_append, List.mem_singleton, Prod.mk.injEq] at h1 h2
        rcases h1 with h1 | ⟨rfl, rfl⟩ <;> rcases h2 with h2 | ⟨h3, rfl⟩
        · exact hw.keys a m m' h1 h2
        · subst h3; exact absurd h1 (hn m)
        · exact absurd h2 (hn m')
        · rfl
      · intro a a' m h1 h2
        simp only [List.mem_append, List.mem_singleton, Prod.mk.injEq] at h1 h2
        rcases h1 with h1 | ⟨rfl, rfl⟩ <;> rcases h2 with h2 | ⟨rfl, h3⟩
        · exact hw.vals a a' m h1 h2
        · subst h3; have := hw.lt a m h1; omega
        · have := hw.lt a' m h2; omega
        · rfl
      · intro a m h1
        simp only [List.mem_append, List.mem_singleton, Prod.mk.injEq] at h1
        rcases h1 with h1 | ⟨rfl, rfl⟩
        · have := hw.lt a m h1; omega
        · omega
      · intro a m h1
        simp only [List.mem_append, List.mem_singleton, Prod.mk.injEq] at h1
        rcases h1 with h1 | ⟨rfl, rfl⟩
        · exact hw.old a m h1
        · exact .inr ⟨hw.le, hnb⟩
      · have := hw.le; omega
      · intro e he; simp [hw.sub e he]

theorem visL_ok : ∀ (f : Nat) (vs : List V) {μ : Mp} {nx : Nat} {K : List V → Mp → Nat → Prop}, WfM fx st B μ nx → visL B f vs μ nx K →
    ∃ ws μ' nx', K ws μ' nx' ∧ RenL (fun n m => (n, m) ∈ μ') vs ws ∧ (∀ e ∈ μ, e ∈ μ') ∧ WfM fx st B μ' nx'
  | 0, _, _, _, _, _, h => by cases h
  | _ + 1, [], μ, nx, K, hw, h => ⟨[], μ, nx, h, .nil, fun _ he => he, hw⟩
  | f + 1, x :: l, μ, nx, K, hw, h => by
    have tail : ∀ (c : Nat → V) (n : Nat), (∀ (R : Nat → Nat → Prop) m, R n m → Ren R (c n) (c m)) →
        visN B n μ nx (fun n μ nx => visL B f l μ nx fun l μ nx => K (c n :: l) μ nx) →
        ∃ ws μ' nx', K ws μ' nx' ∧ RenL (fun n m => (n, m) ∈ μ') (c n :: l) ws ∧ (∀ e ∈ μ, e ∈ μ') ∧ WfM fx st B μ' nx' := by
      intro c n hc h
      obtain ⟨m, μ1, nx1, h1, h2, h3, h4⟩ := visN_ok hw h
      obtain ⟨ws, μ2, nx2, g1, g2, g3, g4⟩ := visL_ok f l h4 h1
      exact ⟨_, μ2, nx2, g1, .cons (hc _ m (g3 _ h2)) g2, fun e he => g3 e (h3 e he), g4⟩
    have keep : ∀ x, (∀ {h : Array Obj} {C : Cx} {B B' : Nat} {v : Value} {N : Nat → Loc}, VR h C B x v → VR h { C with N := N } B' x v) →
        visL B f l μ nx (fun l μ nx => K (x :: l) μ nx) →
        ∃ ws μ' nx', K ws μ' nx' ∧ RenL (fun n m => (n, m) ∈ μ') (x :: l) ws ∧ (∀ e ∈ μ, e ∈ μ') ∧ WfM fx st B μ' nx' := by
      intro x hx h
      obtain ⟨ws, μ2, nx2, g1, g2, g3, g4⟩ := visL_ok f l hw h
      exact ⟨_, μ2, nx2, g1, .cons (.refl x hx) g2, g3, g4⟩
    have imm : ∀ x, (∀ {h : Array Obj} {C : Cx} {B : Nat} {v : Value}, VR h C B x v → IR h C.J x v) →
        ∀ {h : Array Obj} {C : Cx} {B B' : Nat} {v : Value} {N : Nat → Loc}, VR h C B x v → VR h { C with N := N } B' x v :=
      fun x hx _ C _ _ _ _ hv => .imm _ _ (hx (C := C) hv)
    cases x with
    | ptr n o => exact tail (fun n => .ptr n o) n (fun R m h => .ptr n m o h) h
    | vec n => exact tail (fun n => .vec n) n (fun R m h => .vec n m h) h
    | sub n o c => exact tail (fun n => .sub n o c) n (fun R m h => .sub n m o c h) h
    | eptr n i o => exact tail (fun n => .eptr n i o) n (fun R m h => .eptr n m i o h) h
    | map n => exact tail (fun n => .map n) n (fun R m h => .map n m h) h
    | agg cs =>
      simp only [visL] at h
      obtain ⟨ws, μ1, nx1, h1, h2, h3, h4⟩ := visL_ok f cs hw h
      obtain ⟨ws', μ2, nx2, g1, g2, g3, g4⟩ := visL_ok f l h4 h1
      have h2' := h2.mono (R' := fun n m => (n, m) ∈ μ2) (fun n m hm => g3 _ hm)
      exact ⟨_, μ2, nx2, g1, .cons (.agg cs ws h2'.1 h2'.2) g2, fun e he => g3 e (h3 e he), g4⟩
    | tup cs =>
      simp only [visL] at h
      obtain ⟨ws, μ1, nx1, h1, h2, h3, h4⟩ := visL_ok f cs hw h
      obtain ⟨ws', μ2, nx2, g1, g2, g3, g4⟩ := visL_ok f l h4 h1
      have h2' := h2.mono (R' := fun n m => (n, m) ∈ μ2) (fun n m hm => g3 _ hm)
      exact ⟨_, μ2, nx2, g1, .cons (.tup cs ws h2'.1 h2'.2) g2, fun e he => g3 e (h3 e he), g4⟩
    | func g a c =>
      simp only [visL] at h
      obtain ⟨as, μ1, nx1, h1, h2, h3, h4⟩ := visL_ok f a hw h
      obtain ⟨cs, μ2, nx2, g1, g2, g3, g4⟩ := visL_ok f c h4 h1
      obtain ⟨ws', μ3, nx3, k1, k2, k3, k4⟩ := visL_ok f l g4 g1
      have h2' := h2.mono (R' := fun n m => (n, m) ∈ μ3) (fun n m hm => k3 _ (g3 _ hm))
      have g2' := g2.mono (R' := fun n m => (n, m) ∈ μ3) (fun n m hm => k3 _ hm)
      exact ⟨_, μ3, nx3, k1, .cons (.func g a as c cs h2'.1 g2'.1 h2'.2 g2'.2) k2, fun e he => k3 e (g3 e (h3 e he)), k4⟩
    | iface t x =>
      simp only [visL] at h
      obtain ⟨ws, μ1, nx1, h1, h2, h3, h4⟩ := visL_ok f [x] hw h
      cases ws with
      | nil => cases h1
      | cons y r =>
        cases r with
        | nil =>
          simp only at h1
          obtain ⟨ws', μ2, nx2, g1, g2, g3, g4⟩ := visL_ok f l h4 h1
          exact ⟨_, μ2, nx2, g1, .cons (.iface t x y (h2.mono (fun n m hm => g3 _ hm)).single) g2, fun e he => g3 e (h3 e he), g4⟩
        | cons _ _ => cases h1
    | whn _ _ _ => cases h
    | junk => exact keep _ (fun _ => .junk _) h
    | elem p x off =>
      refine keep _ (fun {h C B B' v N} hv => ?_) h
      cases hv with
      | imm _ _ e => cases e
      | elem _ _ _ b q arr ty fz cv hj hb ha hv => exact .elem p x off b q arr ty fz cv hj hb ha hv
    | bool _ => exact keep _ (imm _ (fun hv => by cases hv; assumption)) h
    | int _ _ => exact keep _ (imm _ (fun hv => by cases hv; assumption)) h
    | str _ => exact keep _ (imm _ (fun hv => by cases hv; assumption)) h
    | nilp => exact keep _ (imm _ (fun hv => by cases hv; assumption)) h
    | nils => exact keep _ (imm _ (fun hv => by cases hv; assumption)) h
    | isl _ _ _ _ => exact keep _ (imm _ (fun hv => by cases hv; assumption)) h
    | nilm => exact keep _ (imm _ (fun hv => by cases hv; assumption)) h
    | nilf => exact keep _ (imm _ (fun hv => by cases hv; assumption)) h
    | nili => exact keep _ (imm _ (fun hv => by cases hv; assumption)) h

theorem visO_ok {o : Ob} {μ : Mp} {nx : Nat} {K : Ob → Mp → Nat → Prop} (hw : WfM fx st B μ nx) (h : visO B o μ nx K) :
    ∃ o' μ' nx', K o' μ' nx' ∧ RenO (fun n m => (n, m) ∈ μ') o o' ∧ (∀ e ∈ μ, e ∈ μ') ∧ WfM fx st B μ' nx' := by
  cases o with
  | cells ty cs =>
    simp only [visO] at h
    obtain ⟨ws, μ1, nx1, h1, h2, h3, h4⟩ := visL_ok 4000 cs hw h
    exact ⟨_, μ1, nx1, h1, .cells ty cs ws h2, h3, h4⟩
  | row ty sz enc xs => exact ⟨_, μ, nx, h, .row .., fun _ he => he, hw⟩
  | iter s pos => exact ⟨_, μ, nx, h, .iter .., fun _ he => he, hw⟩
  | arr ty cs enc xs =>
    simp only [visO] at h
    obtain ⟨ws, μ1, nx1, h1, h2, h3, h4⟩ := visL_ok 4000 cs hw h
    exact ⟨_, μ1, nx1, h1, .arr ty cs ws enc xs h2, h3, h4⟩

/-- things side by side -/
def RenH (μ : Mp) (l l' : Hp) : Prop := l.length = l'.length ∧ ∀ (i : Nat) a b, l[i]? = some a → l'[i]? = some b → (a.1, b.1) ∈ μ ∧ RenO (fun n m => (n, m) ∈ μ) a.2 b.2

theorem RenH.mono {μ μ' : Mp} (hm : ∀ e ∈ μ, e ∈ μ') {l l' : Hp} (h : RenH μ l l') : RenH μ' l l' :=
  ⟨h.1, fun i a b ha hb => ⟨hm _ (h.2 i a b ha hb).1, (h.2 i a b ha hb).2.mono (fun _ _ hx => hm _ hx)⟩⟩

theorem HR.snoc {h : Array Obj} {C : Cx} {B n : Nat} {o : Ob} {l : Hp} {S1 S2 S : Nat → Prop} (hl : HR h C B l S1) (ho : OR h C B n S2 o) (hn : n < B) (hne : ∀ a ∈ l, a.1 ≠ n) (hd : ∀ b, S1 b → ¬ S2 b) (e : ∀ b, S b ↔ S1 b ∨ S2 b) :
    HR h C B (l ++ [(n, o)]) S := by
  induction hl generalizing S with
  | nil S1 e1 =>
    exact .cons n o [] S2 (fun _ => False) S hn (by simp) ho (.nil _ (fun _ h => h)) (fun _ _ h => h) (fun b => by rw [e b]; constructor; (rintro (h | h); exact absurd h (e1 b); exact .inl h); (rintro (h | h); exact .inr h; exact h.elim))
  | cons k o' l T1 T2 T hk hne' hor hl' hd' e' ih =>
    refine .cons k o' (l ++ [(n, o)]) T1 (fun b => T2 b ∨ S2 b) S hk ?_ hor (ih (fun a ha => hne a (by simp [ha])) (fun b hb => hd b ((e' b).2 (.inr hb))) (fun b => Iff.rfl)) ?_ ?_
    · intro a ha
      simp only [List.mem_append, List.mem_singleton] at ha
      rcases ha with ha | rfl
      · exact hne' a ha
      · exact fun e => hne (k, o') (by simp) e.symm
    · rintro b hb (h | h)
      · exact hd' b hb h
      · exact hd b ((e' b).2 (.inl hb)) h
    · intro b
      rw [e b, e' b]
      constructor
      · rintro ((h | h) | h)
        · exact .inl h
        · exact .inr (.inl h)
        · exact .inr (.inr h)
      · rintro (h | h | h)
        · exact .inl (.inl h)
        · exact .inl (.inr h)
        · exact .inr h

theorem del_mem {n : Nat} : ∀ {l : Hp} {a : Nat × Ob}, a ∈ del n l → a ∈ l
  | [], _, h => by cases h
  | (k, v) :: l, a, h => by
    simp only [del] at h
    cases hk : Nat.beq k n <;> rw [hk] at h
    · simp only [cond_false, List.mem_cons] at h
      rcases h with rfl | h
      · simp
      · exact List.mem_cons_of_mem _ (del_mem h)
    · exact List.mem_cons_of_mem _ h

theorem proc_ok {h : Array Obj} {C : Cx} {Bn : Nat} {S : Nat → Prop} : ∀ (f i : Nat) (μ : Mp) (nx : Nat) (hp out : Hp) (outO : Hp) (S1 S2 : Nat → Prop) {K : Mp → Nat → Hp → Hp → Prop},
    WfM fx st B μ nx → HR h C Bn hp S2 → HR h C Bn outO S1 → (∀ b, S b ↔ S1 b ∨ S2 b) → (∀ b, S1 b → ¬ S2 b) → (∀ a ∈ outO, ∀ c ∈ hp, a.1 ≠ c.1) → RenH μ outO out → proc B f i μ nx hp out K →
    ∃ μ' nx' hp' out' outO' S1' S2', K μ' nx' hp' out' ∧ WfM fx st B μ' nx' ∧ (∀ e ∈ μ, e ∈ μ') ∧ HR h C Bn hp' S2' ∧ HR h C Bn outO' S1' ∧ (∀ b, S b ↔ S1' b ∨ S2' b) ∧ (∀ b, S1' b → ¬ S2' b) ∧ RenH μ' outO' out'
  | 0, _, _, _, _, _, _, _, _, _, _, _, _, _, _, _, _, hk => by cases hk
  | f + 1, i, μ, nx, hp, out, outO, S1, S2, K, hw, h2, h1, hS, hd, hne, hr, hk => by
    simp only [proc] at hk
    cases hi : nthM i μ with
    | none => rw [hi] at hk; exact ⟨μ, nx, hp, out, outO, S1, S2, hk, hw, fun _ he => he, h2, h1, hS, hd, hr⟩
    | some e =>
      obtain ⟨n, m⟩ := e
      rw [hi] at hk
      simp only at hk
      cases ho : obj n hp with
      | none =>
        rw [ho] at hk
        exact proc_ok f (i + 1) μ nx hp out outO S1 S2 hw h2 h1 hS hd hne hr hk
      | some o =>
        rw [ho] at hk
        simp only [delK_eq] at hk
        obtain ⟨T1, T2, g1, g2, g3, g4, g5, g6⟩ := h2.del ho
        obtain ⟨o', μ1, nx1, k1, k2, k3, k4⟩ := visO_ok hw hk
        simp only [snocHK_eq] at k1
        have hmem : (n, m) ∈ μ := by
          have : ∀ (i : Nat) (μ : Mp) (e : Nat × Nat), nthM i μ = some e → e ∈ μ := by
            intro i μ
            induction μ generalizing i with
            | nil => intro e h; cases i <;> cases h
            | cons x l ih =>
              intro e h
              cases i with
              | zero => simp only [nthM, Option.some.injEq] at h; subst h; simp
              | succ i => exact List.mem_cons_of_mem _ (ih i e h)
          exact this i μ _ hi
        have hobmem : ∃ a ∈ hp, a.1 = n := by
          have : ∀ (l : Hp), obj n l = some o → ∃ a ∈ l, a.1 = n := by
            intro l
            induction l with
            | nil => intro h; cases h
            | cons x l ih =>
              obtain ⟨k, v⟩ := x
              intro h
              simp only [obj] at h
              cases hk : Nat.beq k n <;> rw [hk] at h
              · obtain ⟨a, ha, e⟩ := ih h
                exact ⟨a, by simp [ha], e⟩
              · exact ⟨(k, v), by simp, Nat.eq_of_beq_eq_true hk⟩
          exact this hp ho
        obtain ⟨an, ham, hae⟩ := hobmem
        have hr1 := hr.mono k3
        obtain ⟨μ', nx', hp', out', outO', S1', S2', q1, q2, q3, q4⟩ := proc_ok (S := S) f (i + 1) μ1 nx1 (del n hp) (out ++ [(m, o')]) (outO ++ [(n, o)]) (fun b => S1 b ∨ T1 b) T2 k4 g2
          (h1.snoc g1 g6 (fun a ha => hae ▸ hne a ha an ham) (fun b hb ht => hd b hb ((g4 b).2 (.inl ht))) (fun _ => Iff.rfl))
          (fun b => by
            rw [hS b, g4 b]
            constructor
            · rintro (h | h | h)
              · exact .inl (.inl h)
              · exact .inl (.inr h)
              · exact .inr h
            · rintro ((h | h) | h)
              · exact .inl h
              · exact .inr (.inl h)
              · exact .inr (.inr h))
          (by
            rintro b (hb | hb) ht
            · exact hd b hb ((g4 b).2 (.inr ht))
            · exact g3 b hb ht)
          (by
            intro a ha c hc
            simp only [List.mem_append, List.mem_singleton] at ha
            rcases ha with ha | rfl
            · exact hne a ha c (del_mem hc)
            · exact fun e => g5 c hc e.symm)
          (by
            refine ⟨by simp [hr1.1], fun j a b ha hb => ?_⟩
            by_cases hj : j < outO.length
            · rw [List.getElem?_append_left hj] at ha
              rw [List.getElem?_append_left (by rw [← hr1.1]; exact hj)] at hb
              exact hr1.2 j a b ha hb
            · rw [List.getElem?_append_right (by omega)] at ha
              rw [List.getElem?_append_right (by rw [← hr1.1]; omega)] at hb
              have h1 := (List.getElem?_eq_some_iff.1 ha).1
              simp at h1
              have e0 : j - outO.length = 0 := by omega
              have e1 : j - out.length = 0 := by rw [← hr1.1]; exact e0
              rw [e0] at ha; rw [e1] at hb
              simp at ha hb
              subst ha; subst hb
              exact ⟨k3 _ hmem, k2⟩)
          k1
        exact ⟨μ', nx', hp', out', outO', S1', S2', q1, q2, fun e he => q3 e (k3 e he), q4⟩

/-- things with new names are the same things -/
theorem HR.ren {h : Array Obj} {C : Cx} {Bn B' : Nat} {N : Nat → Loc} {μ : Mp} {S : Nat → Prop} (hR : ∀ n m, (n, m) ∈ μ → n < Bn → m < B' ∧ N m = C.N n) (hinj : ∀ n n' m, (n, m) ∈ μ → (n', m) ∈ μ → n = n') :
    ∀ {l l' : Hp}, HR h C Bn l S → RenH μ l l' → HR h { C with N := N } B' l' S := by
  intro l l' e
  induction e generalizing l' with
  | nil S e =>
    intro hr
    have : l' = [] := by cases l' with
      | nil => rfl
      | cons _ _ => simp [RenH] at hr
    subst this
    exact .nil S e
  | cons n o l S1 S2 S hn hne ho hl hd e ih =>
    intro hr
    cases l' with
    | nil => simp [RenH] at hr
    | cons b l' =>
      obtain ⟨m, o'⟩ := b
      obtain ⟨h1, h2⟩ := hr.2 0 (n, o) (m, o') rfl rfl
      have hr' : RenH μ l l' := ⟨by have := hr.1; simpa using this, fun i a b ha hb => hr.2 (i + 1) a b (by simpa using ha) (by simpa using hb)⟩
      obtain ⟨hm, hN⟩ := hR n m h1 hn
      refine .cons m o' l' S1 S2 S hm ?_ (ho.ren hR h2 hN) (ih hr') hd e
      intro a ha he
      obtain ⟨i, hi, hia⟩ := List.getElem_of_mem ha
      have hil : i < l.length := by rw [hr'.1]; exact hi
      have := hr'.2 i l[i] a (List.getElem?_eq_getElem hil) (by rw [List.getElem?_eq_getElem hi, hia])
      have e1 := hinj n (l[i]).1 m h1 (by rw [← he]; exact this.1)
      exact hne l[i] (List.getElem_mem hil) e1.symm

/-- the new names' places -/
noncomputable def newN (μ : Mp) (N N0 : Nat → Loc) (m : Nat) : Loc :=
  open Classical in if h : ∃ n, (n, m) ∈ μ then N h.choose else N0 m

theorem newN_mem {μ : Mp} {N N0 : Nat → Loc} (hinj : ∀ n n' m, (n, m) ∈ μ → (n', m) ∈ μ → n = n') {n m : Nat} (h : (n, m) ∈ μ) : newN μ N N0 m = N n := by
  unfold newN
  have he : ∃ n, (n, m) ∈ μ := ⟨n, h⟩
  rw [dif_pos he]
  rw [hinj _ _ _ he.choose_spec h]

/-- what it says -/
theorem norm_ok {h : Array Obj} {C : Cx} {J : Bool → Nat → Prop} {nx : Nat} {S : Nat → Prop} {N0 : Nat → Loc} {vs : List V} {arr : Array Value} {hp : Hp} {K : List V → Hp → Nat → Mp → Hp → Prop}
    (hfx : WfM fx st B fx st) (hN : ∀ n m, (n, m) ∈ fx → m < st ∧ N0 m = C.N n) (hJ : ∀ p b, C.J p b → J p b) (hs : HR h C nx hp S) (hv : LR h { C with J := J } nx vs arr) (hk : normK fx st B vs hp K) :
    ∃ ws hp' nx' μ rest N S1 S2, K ws hp' nx' μ rest ∧ HR h ⟨J, N⟩ nx' hp' S1 ∧ LR h ⟨J, N⟩ nx' ws arr ∧ HR h C nx rest S2 ∧ (∀ b, S b ↔ S1 b ∨ S2 b) ∧ (∀ b, S1 b → ¬ S2 b) ∧
      st ≤ nx' ∧ (∀ m, m < st → N m = N0 m) ∧ (∀ n m, (n, m) ∈ μ → m < nx' ∧ N m = C.N n) ∧ WfM fx st B μ nx' := by
  unfold normK at hk
  obtain ⟨ws, μ1, nx1, h1, h2, h3, h4⟩ := visL_ok 4000 vs hfx hk
  obtain ⟨μ, nx', rest, out, outO, S1, S2, q1, q2, q3, q4, q5, q6, q7, q8⟩ := proc_ok (S := S) 4000 0 μ1 nx1 hp [] [] (fun _ => False) S h4 hs (.nil _ (fun _ h => h)) (fun b => by simp) (fun _ h => h.elim) (by simp) ⟨rfl, fun i a b ha => by simp at ha⟩ h1
  have hR : ∀ n m, (n, m) ∈ μ → m < nx' ∧ newN μ C.N N0 m = C.N n := fun n m hm => ⟨q2.lt n m hm, newN_mem q2.vals hm⟩
  refine ⟨ws, out, nx', μ, rest, newN μ C.N N0, S1, S2, q1, ?_, ?_, q4, q6, q7, q2.le, ?_, hR, q2⟩
  · have := q5.ren (N := newN μ C.N N0) (B' := nx') (fun n m hm _ => hR n m hm) q2.vals q8
    exact this.mono (fun p b hb => ⟨hJ p b hb, rfl⟩) (fun _ _ => rfl) (Nat.le_refl _) (fun _ _ => rfl)
  · exact LR.ren (C := { C with J := J }) (R := fun n m => (n, m) ∈ μ) (fun n m hm _ => hR n m hm) (h2.mono (fun n m hm => q3 _ hm)) hv
  · intro m hm
    by_cases he : ∃ n, (n, m) ∈ μ
    · obtain ⟨n, he⟩ := he
      rw [newN_mem q2.vals he]
      rcases q2.old n m he with hf | ⟨hf, _⟩
      · exact (hN n m hf).2.symm
      · omega
    · simp [newN, he]

end
end Go.Sx
end

section
namespace Go.Sx

def leO : Ob → Ob → Prop
  | .cells ty cs, .cells ty' ds => ty = ty' ∧ leFs cs ds
  | .row ty sz enc xs, .row ty' sz' enc' ys => ty = ty' ∧ sz = sz' ∧ xs.map enc = ys.map enc'
  | .iter s p, .iter s' p' => s = s' ∧ p = p'
  | .arr ty pre enc xs, .arr ty' pre' enc' ys => ty = ty' ∧ leFs pre pre' ∧ xs.map enc = ys.map enc'
  | _, _ => False

def leH : Hp → Hp → Prop
  | [], [] => True
  | (n, o) :: l, (m, o') :: l' => n = m ∧ leO o o' ∧ leH l l'
  | _, _ => False

section
variable {h : Array Obj} {C : Cx} {B : Nat}

theorem OR.le (hj : ∀ b, C.J true b → C.J false b) {n : Nat} {S : Nat → Prop} {o o' : Ob} (e : leO o o') (ho : OR h C B n S o) : OR h C B n S o' := by
  cases o <;> cases o' <;> simp only [leO] at e <;> try exact e.elim
  · obtain ⟨rfl, e⟩ := e
    obtain ⟨b, arr, hb, hh, hl, hs⟩ := ho
    exact ⟨b, arr, hb, hh, hl.leFs hj e, hs⟩
  · obtain ⟨rfl, rfl, e⟩ := e
    rename_i α enc xs β enc' ys
    have hlen : xs.length = ys.length := by simpa using congrArg List.length e
    obtain ⟨h1, h2, h3⟩ := ho
    refine ⟨by rw [h1, hlen], h2, ?_⟩
    rcases h3 with ⟨g1, g2, g3, g4⟩ | ⟨b, arr, fz, g1, g2, g3, g4, g5, g6, g7, g8⟩
    · subst g2
      exact .inl ⟨g1, List.eq_nil_of_length_eq_zero (by simpa using hlen.symm), g3, g4⟩
    · refine .inr ⟨b, arr, fz, g1, g2, g3, by omega, g5, ?_, ?_, g8⟩
      · intro i y hy
        obtain ⟨x, hx, e⟩ := map_at e hy
        rw [← e]; exact g6 i x hx
      · intro i y j z hy hz
        obtain ⟨x, hx, e⟩ := map_at e hy
        exact g7 i x j z hx (by rw [e]; exact hz)
  · obtain ⟨rfl, rfl⟩ := e
    exact ho
  · obtain ⟨rfl, e1, e⟩ := e
    have hlen := congrArg List.length e
    simp only [List.length_map] at hlen
    obtain ⟨b, arr, hb, hh, hsz, hl, hx, hs⟩ := ho
    obtain ⟨g1, g2⟩ := leFs_ix e1
    refine ⟨b, arr, hb, hh, by omega, fun i y v hy hv => ?_, fun i y hy => ?_, hs⟩
    · rename_i pre _ _ _ _ _ _ _
      have hi := (List.getElem?_eq_some_iff.1 hy).1
      rw [← g1] at hi
      have hx' := List.getElem?_eq_getElem hi
      exact VR.leF hj (g2 i _ y hx' hy) (hl i _ v hx' hv)
    · obtain ⟨x, hx', e⟩ := map_at e hy
      rw [← g1, ← e]
      exact hx i x hx'

theorem HR.le (hj : ∀ b, C.J true b → C.J false b) : ∀ {l l' : Hp} {S : Nat → Prop}, leH l l' → HR h C B l S → HR h C B l' S
  | [], [], _, _, hr => hr
  | [], _ :: _, _, e, _ => e.elim
  | _ :: _, [], _, e, _ => by exact (show False from e).elim
  | (n, o) :: l, (m, o') :: l', S, e, hr => by
    obtain ⟨rfl, e1, e2⟩ := e
    cases hr with
    | cons _ _ _ S1 S2 _ hn hne ho hl hd e =>
      refine .cons n o' l' S1 S2 S hn ?_ (ho.le hj e1) (hl.le hj e2) hd e
      have : ∀ {l l' : Hp}, leH l l' → (∀ a ∈ l, a.1 ≠ n) → ∀ a ∈ l', a.1 ≠ n := by
        intro l
        induction l with
        | nil => intro l' e _ a ha; cases l' with
          | nil => cases ha
          | cons _ _ => exact e.elim
        | cons x l ih =>
          intro l' e hx a ha
          cases l' with
          | nil => cases ha
          | cons y l' =>
            obtain ⟨k, o⟩ := x
            obtain ⟨k', o'⟩ := y
            obtain ⟨rfl, _, e⟩ := e
            simp only [List.mem_cons] at ha
            rcases ha with rfl | ha
            · exact hx (k, o) (by simp)
            · exact ih e (fun a ha => hx a (by simp [ha])) a ha
      exact this e2 hne

end

theorem leO_refl (o : Ob) : leO o o := by
  cases o <;> simp [leO, leFs_refl]

theorem leH_refl : ∀ l : Hp, leH l l
  | [] => trivial
  | (_, o) :: l => ⟨rfl, leO_refl o, leH_refl l⟩

def plainV : V → Bool
  | .junk | .bool _ | .int _ _ | .str _ | .nilp | .ptr _ _ | .nils | .vec _ | .sub _ _ _ | .eptr _ _ _ | .map _ | .nilm | .nilf | .nili => true
  | _ => false

/-- values that last -/
inductive Perm : V → Prop
  | flat (x : V) (h : plainV x = true) : Perm x
  | isl (sz : Nat) {α : Type} (enc : α → V) (xs : List α) (h : ∀ x ∈ xs, Perm (enc x)) : Perm (.isl true sz enc xs)
  | elem (x : V) (off : Nat) (h : Perm x) : Perm (.elem true x off)
  | agg (cs : List V) (h : ∀ x ∈ cs, Perm x) : Perm (.agg cs)
  | tup (cs : List V) (h : ∀ x ∈ cs, Perm x) : Perm (.tup cs)
  | func (f : FuncId) (a c : List V) (h : ∀ x ∈ a, Perm x) (k : ∀ x ∈ c, Perm x) : Perm (.func f a c)
  | iface (t : TypeId) (x : V) (h : Perm x) : Perm (.iface t x)

section
variable {h : Array Obj} {J J' : Bool → Nat → Prop} {N : Nat → Loc} {B : Nat}

theorem IR.perm (hj : ∀ b, J true b → J' true b) {x : V} {v : Value} (e : IR h J x v) : Perm x → IR h J' x v := by
  induction e with
  | bool b => intro _; exact .bool b
  | int k n => intro _; exact .int k n
  | str s l e => intro _; exact .str s l e
  | nilp => intro _; exact .nilp
  | nils => intro _; exact .nils
  | nilm => intro _; exact .nilm
  | nilf => intro _; exact .nilf
  | nili => intro _; exact .nili
  | islNil p sz enc a cap ha => intro _; exact .islNil p sz enc a cap ha
  | isl p sz enc xs b o cap arr ty fz cv hj' hb hc hs ha hv ho ih =>
    intro hp
    cases hp with
    | flat _ hx => simp [plainV] at hx
    | isl _ _ _ hx =>
      refine .isl true sz enc xs b o cap arr ty fz cv (hj b hj') hb hc hs ha ?_ ho
      intro i x j y hxi hy
      refine ih i x j y hxi hy ?_
      have hpx := hx x (List.mem_of_getElem? hxi)
      have hym : y ∈ (enc x).cells := List.mem_of_getElem? hy
      cases hx' : enc x with
      | agg cs =>
        rw [hx'] at hpx hym
        cases hpx with
        | flat _ hx => simp [plainV] at hx
        | agg _ h => exact h y hym
      | _ => rw [hx'] at hpx hym; simp only [V.cells, List.mem_singleton] at hym; subst hym; exact hpx
  | func f => intro _; exact .func f
  | agg cs arr hl hv ih =>
    intro hp
    cases hp with
    | flat _ hx => simp [plainV] at hx
    | agg _ hx => exact .agg cs arr hl (fun i x v hx' hv' => ih i x v hx' hv' (hx x (List.mem_of_getElem? hx')))

theorem Perm.cells {x y : V} (h : Perm x) (hy : y ∈ x.cells) : Perm y := by
  cases x with
  | agg cs =>
    cases h with
    | flat _ hx => simp [plainV] at hx
    | agg _ h => exact h y hy
  | _ => simp only [V.cells, List.mem_singleton] at hy; subst hy; exact h

theorem VR.perm (hj : ∀ b, J true b → J' true b) {x : V} {v : Value} (e : VR h ⟨J, N⟩ B x v) : Perm x → VR h ⟨J', N⟩ B x v := by
  induction e with
  | junk v => intro _; exact .junk v
  | imm x v e => intro hp; exact .imm x v (IR.perm hj e hp)
  | ptr n o b hn hb => intro _; exact .ptr n o b hn hb
  | vec n b hn hb => intro _; exact VR.vec (C := ⟨J', N⟩) n b hn hb
  | vecNil n hn hb => intro _; exact .vecNil n hn hb
  | sub n o l c b p hn hb hc hl hp => intro _; exact .sub n o l c b p hn hb hc hl hp
  | subNil n o hn hb => intro _; exact .subNil n o hn hb
  | eptr n i off b hn hb => intro _; exact VR.eptr (C := ⟨J', N⟩) n i off b hn hb
  | elem p x off b q arr ty fz cv hj' hb ha hv =>
    intro hp
    cases hp with
    | flat _ hx => simp [plainV] at hx
    | elem _ _ hx => exact .elem true x off b q arr ty fz cv (hj b hj') hb ha (fun j y hy => IR.perm hj (hv j y hy) (hx.cells (List.mem_of_getElem? hy)))
  | map n b hn hb => intro _; exact .map n b hn hb
  | func f a c x y ha hc _ _ ihx ihy =>
    intro hp
    cases hp with
    | flat _ hx => simp [plainV] at hx
    | func _ _ _ h k => exact .func f a c x y ha hc (fun i u v hu hv => ihx i u v hu hv (h u (List.mem_of_getElem? hu))) (fun i u v hu hv => ihy i u v hu hv (k u (List.mem_of_getElem? hu)))
  | agg cs arr hl _ ih =>
    intro hp
    cases hp with
    | flat _ hx => simp [plainV] at hx
    | agg _ h => exact .agg cs arr hl (fun i u v hu hv => ih i u v hu hv (h u (List.mem_of_getElem? hu)))
  | tup cs arr hl _ ih =>
    intro hp
    cases hp with
    | flat _ hx => simp [plainV] at hx
    | tup _ h => exact .tup cs arr hl (fun i u v hu hv => ih i u v hu hv (h u (List.mem_of_getElem? hu)))
  | iface t x v _ ih =>
    intro hp
    cases hp with
    | flat _ hx => simp [plainV] at hx
    | iface _ _ h => exact .iface t x v (ih h)

end

/-- do values last? -/
def permL : Nat → List V → Prop
  | 0, _ => Stuck "values too deep"
  | _ + 1, [] => True
  | f + 1, x :: l => match x with
    | .isl p _ enc xs => match p with
      | true => (∀ x ∈ xs, Perm (enc x)) ∧ permL f l
      | false => Stuck "a value that is lent comes back"
    | .elem p x _ => match p with
      | true => Perm x ∧ permL f l
      | false => Stuck "an element that is lent comes back"
    | .agg cs => permL f cs ∧ permL f l
    | .tup cs => permL f cs ∧ permL f l
    | .func _ a c => permL f a ∧ permL f c ∧ permL f l
    | .iface _ x => permL f [x] ∧ permL f l
    | .whn _ _ _ => Stuck "a value that is there only sometimes"
    | _ => permL f l

def permH : Hp → Prop
  | [] => True
  | (_, .cells _ cs) :: l => permL 4000 cs ∧ permH l
  | (_, .row _ _ enc xs) :: l => (∀ x ∈ xs, Perm (enc x)) ∧ permH l
  | (_, .iter _ _) :: l => permH l
  | (_, .arr _ pre enc xs) :: l => permL 4000 pre ∧ (∀ x ∈ xs, Perm (enc x)) ∧ permH l

theorem permL_ok : ∀ {f : Nat} {l : List V}, permL f l → ∀ x ∈ l, Perm x
  | 0, _, h, _, _ => by cases h
  | _ + 1, [], _, x, hx => by cases hx
  | f + 1, y :: l, h, x, hx => by
    have key : Perm y ∧ permL f l := by
      cases y with
      | isl p sz enc xs => cases p with
        | true => exact ⟨.isl sz enc xs h.1, h.2⟩
        | false => cases h
      | elem p x off => cases p with
        | true => exact ⟨.elem x off h.1, h.2⟩
        | false => cases h
      | agg cs => exact ⟨.agg cs (permL_ok h.1), h.2⟩
      | tup cs => exact ⟨.tup cs (permL_ok h.1), h.2⟩
      | func g a c => exact ⟨.func g a c (permL_ok h.1) (permL_ok h.2.1), h.2.2⟩
      | iface t x => exact ⟨.iface t x (permL_ok h.1 x (by simp)), h.2⟩
      | whn _ _ _ => cases h
      | _ => exact ⟨.flat _ rfl, h⟩
    simp only [List.mem_cons] at hx
    rcases hx with rfl | hx
    · exact key.1
    · exact permL_ok key.2 x hx

theorem OR.perm {h : Array Obj} {J J' : Bool → Nat → Prop} {N : Nat → Loc} {B n : Nat} {S : Nat → Prop} {o : Ob} (hj : ∀ b, J true b → J' true b)
    (hp : match o with | .cells _ cs => ∀ x ∈ cs, Perm x | .row _ _ enc xs => ∀ x ∈ xs, Perm (enc x) | .iter _ _ => True | .arr _ pre enc xs => (∀ x ∈ pre, Perm x) ∧ ∀ x ∈ xs, Perm (enc x)) (ho : OR h ⟨J, N⟩ B n S o) : OR h ⟨J', N⟩ B n S o := by
  cases o with
  | cells ty cs =>
    obtain ⟨b, arr, hb, hh, hl, hs⟩ := ho
    exact ⟨b, arr, hb, hh, ⟨hl.1, fun i x v hx hv => VR.perm hj (hl.2 i x v hx hv) (hp x (List.mem_of_getElem? hx))⟩, hs⟩
  | row ty sz enc xs =>
    obtain ⟨h1, h2, h3⟩ := ho
    refine ⟨h1, h2, ?_⟩
    rcases h3 with h3 | ⟨b, arr, fz, g1, g2, g3, g4, g5, g6, g7, g8⟩
    · exact .inl h3
    · refine .inr ⟨b, arr, fz, g1, g2, g3, g4, g5, g6, ?_, g8⟩
      intro i x j y hx hy
      obtain ⟨v, hv, hone, hr⟩ := g7 i x j y hx hy
      exact ⟨v, hv, hone, IR.perm hj hr ((hp x (List.mem_of_getElem? hx)).cells (List.mem_of_getElem? hy))⟩
  | iter s pos => exact ho
  | arr ty pre enc xs =>
    obtain ⟨b, arr, hb, hh, hsz, hl, hx, hs⟩ := ho
    refine ⟨b, arr, hb, hh, hsz, fun i x v h1 h2 => VR.perm hj (hl i x v h1 h2) (hp.1 x (List.mem_of_getElem? h1)), fun i x h1 => ?_, hs⟩
    obtain ⟨v, h2, h3, h4⟩ := hx i x h1
    exact ⟨v, h2, h3, IR.perm hj h4 (hp.2 x (List.mem_of_getElem? h1))⟩

theorem HR.perm {h : Array Obj} {J J' : Bool → Nat → Prop} {N : Nat → Loc} {B : Nat} (hj : ∀ b, J true b → J' true b) : ∀ {l : Hp} {S : Nat → Prop}, permH l → HR h ⟨J, N⟩ B l S → HR h ⟨J', N⟩ B l S
  | [], S, _, hr => by cases hr with | nil _ e => exact .nil S e
  | (n, o) :: l, S, hp, hr => by
    cases hr with
    | cons _ _ _ S1 S2 _ hn hne ho hl hd e =>
      cases o with
      | cells ty cs => exact .cons n _ l S1 S2 S hn hne (ho.perm hj (permL_ok hp.1)) (hl.perm hj hp.2) hd e
      | row ty sz enc xs => exact .cons n _ l S1 S2 S hn hne (ho.perm hj hp.1) (hl.perm hj hp.2) hd e
      | iter s pos => exact .cons n _ l S1 S2 S hn hne (ho.perm hj trivial) (hl.perm hj hp) hd e
      | arr ty pre enc xs => exact .cons n _ l S1 S2 S hn hne (ho.perm hj ⟨permL_ok hp.1, hp.2.1⟩) (hl.perm hj hp.2.2) hd e

end Go.Sx
end

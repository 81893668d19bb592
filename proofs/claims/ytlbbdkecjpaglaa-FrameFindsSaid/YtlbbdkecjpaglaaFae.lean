/- What is lent for a call, and the call's rule; no condition. A function's entry and its ends; loops. No condition. A function's contract out of its body; a loop's out of a family of states. No condition. A type table as a search tree. No condition. -/
import Derived.Tactics
import Derived.Test.YtlbbdkecjpaglaaFad

set_option linter.all false

section
namespace Go.Sx

def hasN (n : Nat) : Hp → Bool
  | [] => false
  | (k, _) :: l => bif Nat.beq k n then true else hasN n l

/-- a row's elements by value, for this call -/
def lendV (hp lent : Hp) (x : V) (K : V → Hp → Hp → Prop) : Prop := match x with
  | .vec n => match obj n hp with
    | some (.row ty sz enc xs) => bif hasN n lent then Stuck "lend: two of one name" else delK n hp fun hp => K (.isl false sz enc xs) hp ((n, .row ty sz enc xs) :: lent)
    | _ => match obj n lent with
      | some (.row _ sz enc xs) => K (.isl false sz enc xs) hp lent
      | _ => Stuck "lend: no such row"
  | .sub n o l => match obj n hp with
    | some (.row ty sz enc xs) => bif hasN n lent then Stuck "lend: two of one name" else delK n hp fun hp => K (.isl false sz enc ((xs.drop o).take l)) hp ((n, .row ty sz enc xs) :: lent)
    | _ => match obj n lent with
      | some (.row _ sz enc xs) => K (.isl false sz enc ((xs.drop o).take l)) hp lent
      | _ => Stuck "lend: no such row"
  | x => fV x fun x => K x hp lent

/-- true: the argument is handed over; false: it is lent -/
def brwK : List Bool → List V → Hp → Hp → (List V → Hp → Hp → Prop) → Prop
  | [], l, hp, lent, K => K l hp lent
  | _ :: _, [], hp, lent, K => K [] hp lent
  | own :: ms, x :: l, hp, lent, K => match own with
    | true => brwK ms l hp lent fun l hp lent => K (x :: l) hp lent
    | false => lendV hp lent x fun x hp lent => brwK ms l hp lent fun l hp lent => K (x :: l) hp lent

def appK : Hp → Hp → (Hp → Prop) → Prop
  | [], l', K => K l'
  | (n, o) :: l, l', K => appK l l' fun r => bif hasN n r then Stuck "two of one name" else K ((n, o) :: r)

def swapK : Mp → (Mp → Prop) → Prop
  | [], K => K []
  | (a, b) :: l, K => swapK l fun l => K ((b, a) :: l)

def permK (lent : Hp) (v : V) (hp : Hp) (X : Prop) : Prop := match lent with
  | [] => X
  | _ :: _ => permL 4000 [v] ∧ permH hp ∧ X

def backK (lent rest : Hp) (μ : Mp) (nx nx1 : Nat) (v : V) (hp1 : Hp) (K : Post) : Prop :=
  permK lent v hp1 (swapK μ fun fx => normK fx nx nx1 [v] hp1 fun vs hp' nx' _ _ => match vs with
    | [v] => appK hp' lent fun hp' => appK hp' rest fun hp' => K v hp' nx'
    | _ => Stuck "a result")

/-- a call, in the callee's own names -/
def callK (P : Program) (f : FuncId) (ms : List Bool) (args : List V) (hp : Hp) (nx : Nat) (K : Post) : Prop :=
  brwK ms args hp [] fun args hp lent => normK [] 0 nx args hp fun args0 hp0 k μ rest =>
    CallOb P f args0 hp0 k fun v hp1 nx1 => backK lent rest μ nx nx1 v hp1 K

section
variable {h : Array Obj} {C : Cx} {B : Nat}

theorem row_isl {n : Nat} {S1 : Nat → Prop} {ty sz : Nat} {α : Type} {enc : α → V} {xs : List α} {v : Value} {J : Bool → Nat → Prop} {p : Bool}
    (ho : OR h C B n S1 (.row ty sz enc xs)) (hv : VR h C B (.vec n) v) (hJ : ∀ p b, C.J p b → J p b) (hS : ∀ b, S1 b → J p b) : IR h J (.isl p sz enc xs) v := by
  obtain ⟨h1, h2, h3⟩ := ho
  cases hv with
  | imm _ _ e => cases e
  | vec _ b hn hb =>
    rcases h3 with ⟨g1, _⟩ | ⟨b', arr, fz, g1, g2, g3, g4, g5, g6, g7, g8⟩
    · rw [hb] at g1; cases g1
    · rw [hb] at g1; cases g1
      rw [h1]
      have key : ∀ (i : Nat) x (j : Nat) (y : V), xs[i]? = some x → (enc x).cells[j]? = some y → ∃ v, arr[i * sz + j]? = some v ∧ arr.getD (i * sz + j) undef = v ∧ v.oneCell' = true ∧ IR h C.J y v := by
        intro i x j y hx hy
        obtain ⟨v, hv, h1, h2⟩ := g7 i x j y hx hy
        exact ⟨v, hv, by simp [Array.getD_eq_getD_getElem?, hv], h1, h2⟩
      refine .isl p sz enc xs b 0 _ arr ty fz (fun i j => arr.getD (i * sz + j) undef) (hS b ((g8 b).2 rfl)) g2 (by omega) g6 ?_ ?_ ?_
      · intro i x j y hx hy
        obtain ⟨v, h1, h2, _⟩ := key i x j y hx hy
        rw [h2, Nat.zero_add]; exact h1
      · intro i x j y hx hy
        obtain ⟨v, h1, h2, h3, h4⟩ := key i x j y hx hy
        rw [h2]; exact h4.mono (fun p b hj => ⟨hJ p b hj, rfl⟩)
      · intro i x j y hx hy
        obtain ⟨v, h1, h2, h3, h4⟩ := key i x j y hx hy
        rw [h2]; exact h3
  | vecNil _ hn hb =>
    rcases h3 with ⟨_, g2, _⟩ | ⟨b', arr, fz, g1, _⟩
    · subst g2; exact .islNil _ _ _ none 0 (fun _ => rfl)
    · rw [hb] at g1; cases g1

theorem sub_isl {n o l : Nat} {S1 : Nat → Prop} {ty sz : Nat} {α : Type} {enc : α → V} {xs : List α} {v : Value} {J : Bool → Nat → Prop} {p : Bool}
    (ho : OR h C B n S1 (.row ty sz enc xs)) (hv : VR h C B (.sub n o l) v) (hJ : ∀ p b, C.J p b → J p b) (hS : ∀ b, S1 b → J p b) : IR h J (.isl p sz enc ((xs.drop o).take l)) v := by
  obtain ⟨h1, h2, h3⟩ := ho
  cases hv with
  | imm _ _ e => cases e
  | sub _ _ _ c b q hn hb hc hl hp =>
    rcases h3 with ⟨g1, _⟩ | ⟨b', arr, fz, g1, g2, g3, g4, g5, g6, g7, g8⟩
    · rw [hb] at g1; cases g1
    · rw [hb] at g1; cases g1
      have hlen : ((xs.drop o).take l).length = l := by simp; omega
      have hat : ∀ i x, ((xs.drop o).take l)[i]? = some x → xs[o + i]? = some x ∧ i < l := by
        intro i x hx
        have hi := (List.getElem?_eq_some_iff.1 hx).1
        rw [hlen] at hi
        rw [List.getElem?_take_of_lt hi, List.getElem?_drop] at hx
        exact ⟨hx, hi⟩
      have key : ∀ (i : Nat) x (j : Nat) (y : V), ((xs.drop o).take l)[i]? = some x → (enc x).cells[j]? = some y → ∃ v, arr[q + (i * sz + j)]? = some v ∧ arr.getD (q + (i * sz + j)) undef = v ∧ v.oneCell' = true ∧ IR h C.J y v := by
        intro i x j y hx hy
        obtain ⟨hx, hi⟩ := hat i x hx
        obtain ⟨v, hv, h1, h3⟩ := g7 (o + i) x j y hx hy
        have hq : q = o * sz := by
          rcases hp with hp | hp
          · omega
          · rw [hp, h2]
        have hv' : arr[q + (i * sz + j)]? = some v := by
          rw [hq]
          rw [Nat.add_mul] at hv
          rw [← Nat.add_assoc]; exact hv
        exact ⟨v, hv', by simp [Array.getD_eq_getD_getElem?, hv'], h1, h3⟩
      have := IR.isl (J := J) p sz enc ((xs.drop o).take l) b q c arr ty fz (fun i j => arr.getD (q + (i * sz + j)) undef) (hS b ((g8 b).2 rfl)) g2 (by omega)
        (fun i x hx => g6 (o + i) x (hat i x hx).1)
        (fun i x j y hx hy => by obtain ⟨v, h1, h2, _⟩ := key i x j y hx hy; rw [h2]; exact h1)
        (fun i x j y hx hy => by obtain ⟨v, h1, h2, h3, h4⟩ := key i x j y hx hy; rw [h2]; exact h4.mono (fun p b hj => ⟨hJ p b hj, rfl⟩))
        (fun i x j y hx hy => by obtain ⟨v, h1, h2, h3, h4⟩ := key i x j y hx hy; rw [h2]; exact h3)
      rw [hlen] at this
      exact this
  | subNil _ _ hn hb =>
    simp only [List.take_zero]
    exact .islNil _ _ _ none 0 (fun _ => rfl)

/-- what the lending left -/
structure Lent (h : Array Obj) (C : Cx) (B : Nat) (S : Nat → Prop) (hp lent : Hp) (S2 Sl : Nat → Prop) : Prop where
  hr : HR h C B hp S2
  hl : HR h C B lent Sl
  un : ∀ b, S b ↔ S2 b ∨ Sl b
  dj : ∀ b, S2 b → ¬ Sl b

theorem hasN_no {n : Nat} : ∀ {l : Hp}, hasN n l = false → ∀ a ∈ l, a.1 ≠ n
  | [], _, a, ha => by cases ha
  | (k, v) :: l, h, a, ha => by
    simp only [hasN] at h
    cases hk : Nat.beq k n <;> rw [hk] at h
    · simp only [cond_false] at h
      simp only [List.mem_cons] at ha
      rcases ha with rfl | ha
      · intro e; simp only at e; subst e; simp at hk
      · exact hasN_no h a ha
    · cases h

theorem Lent.move {n : Nat} {S S2 Sl : Nat → Prop} {hp lent : Hp} (hl : Lent h C B S hp lent S2 Sl) (hne : hasN n lent = false) {o : Ob} (ho : obj n hp = some o) :
    ∃ S1 S2' Sl', OR h C B n S1 o ∧ Lent h C B S (del n hp) ((n, o) :: lent) S2' Sl' ∧ (∀ b, Sl b → Sl' b) ∧ ∀ b, S1 b → Sl' b := by
  obtain ⟨T1, T2, g1, g2, g3, g4, g5, g6⟩ := hl.hr.del ho
  refine ⟨T1, T2, fun b => T1 b ∨ Sl b, g1, ⟨g2, .cons n o lent T1 Sl _ g6 (hasN_no hne) g1 hl.hl (fun b hb hs => hl.dj b ((g4 b).2 (.inl hb)) hs) (fun _ => Iff.rfl), ?_, ?_⟩, fun b hb => .inr hb, fun b hb => .inl hb⟩
  · intro b
    rw [hl.un b, g4 b]
    constructor
    · rintro ((h | h) | h)
      · exact .inr (.inl h)
      · exact .inl h
      · exact .inr (.inr h)
    · rintro (h | h | h)
      · exact .inl (.inr h)
      · exact .inl (.inl h)
      · exact .inr h
  · rintro b hb (h | h)
    · exact g3 b h hb
    · exact hl.dj b ((g4 b).2 (.inr hb)) h

theorem lendV_ok {S S2 Sl : Nat → Prop} {hp lent : Hp} {x : V} {v : Value} {K : V → Hp → Hp → Prop} (hl : Lent h C B S hp lent S2 Sl) (hv : VR h C B x v) (hk : lendV hp lent x K) :
    ∃ x' hp' lent' S2' Sl', K x' hp' lent' ∧ Lent h C B S hp' lent' S2' Sl' ∧ (∀ b, Sl b → Sl' b) ∧ ∀ J : Bool → Nat → Prop, (∀ p b, C.J p b → J p b) → (∀ b, Sl' b → J false b) → VR h { C with J := J } B x' v := by
  cases x with
  | vec n =>
    simp only [lendV] at hk
    cases ho : obj n hp with
    | none =>
      rw [ho] at hk
      simp only at hk
      cases hol : obj n lent with
      | none => rw [hol] at hk; cases hk
      | some o =>
        rw [hol] at hk
        cases o with
        | row ty sz enc xs =>
          obtain ⟨S1, h1, _, h3⟩ := hl.hl.get hol
          exact ⟨_, hp, lent, S2, Sl, hk, hl, fun _ hb => hb, fun J hJ hS => .imm _ _ (row_isl h1 hv hJ (fun b hb => hS b (h3 b hb)))⟩
        | _ => cases hk
    | some o =>
      rw [ho] at hk
      cases o with
      | row ty sz enc xs =>
        simp only [delK_eq] at hk
        cases hn : hasN n lent <;> rw [hn] at hk
        · simp only [cond_false] at hk
          obtain ⟨S1, S2', Sl', g1, g2, g3, g4⟩ := hl.move hn ho
          exact ⟨_, _, _, S2', Sl', hk, g2, g3, fun J hJ hS => .imm _ _ (row_isl g1 hv hJ (fun b hb => hS b (g4 b hb)))⟩
        · cases hk
      | _ =>
        simp only at hk
        cases hol : obj n lent with
        | none => rw [hol] at hk; cases hk
        | some o =>
          rw [hol] at hk
          cases o with
          | row ty sz enc xs =>
            obtain ⟨S1, h1, _, h3⟩ := hl.hl.get hol
            exact ⟨_, hp, lent, S2, Sl, hk, hl, fun _ hb => hb, fun J hJ hS => .imm _ _ (row_isl h1 hv hJ (fun b hb => hS b (h3 b hb)))⟩
          | _ => cases hk
  | sub n o l =>
    simp only [lendV] at hk
    cases ho : obj n hp with
    | none =>
      rw [ho] at hk
      simp only at hk
      cases hol : obj n lent with
      | none => rw [hol] at hk; cases hk
      | some o =>
        rw [hol] at hk
        cases o with
        | row ty sz enc xs =>
          obtain ⟨S1, h1, _, h3⟩ := hl.hl.get hol
          exact ⟨_, hp, lent, S2, Sl, hk, hl, fun _ hb => hb, fun J hJ hS => .imm _ _ (sub_isl h1 hv hJ (fun b hb => hS b (h3 b hb)))⟩
        | _ => cases hk
    | some o =>
      rw [ho] at hk
      cases o with
      | row ty sz enc xs =>
        simp only [delK_eq] at hk
        cases hn : hasN n lent <;> rw [hn] at hk
        · simp only [cond_false] at hk
          obtain ⟨S1, S2', Sl', g1, g2, g3, g4⟩ := hl.move hn ho
          exact ⟨_, _, _, S2', Sl', hk, g2, g3, fun J hJ hS => .imm _ _ (sub_isl g1 hv hJ (fun b hb => hS b (g4 b hb)))⟩
        · cases hk
      | _ =>
        simp only at hk
        cases hol : obj n lent with
        | none => rw [hol] at hk; cases hk
        | some o =>
          rw [hol] at hk
          cases o with
          | row ty sz enc xs =>
            obtain ⟨S1, h1, _, h3⟩ := hl.hl.get hol
            exact ⟨_, hp, lent, S2, Sl, hk, hl, fun _ hb => hb, fun J hJ hS => .imm _ _ (sub_isl h1 hv hJ (fun b hb => hS b (h3 b hb)))⟩
          | _ => cases hk
  | _ =>
    simp only [lendV, fV_eq] at hk
    exact ⟨_, hp, lent, S2, Sl, hk, hl, fun _ hb => hb, fun J hJ hS => VR.mono hv (C' := { C with J := J }) (fun p b hj => ⟨hJ p b hj, rfl⟩) (fun _ _ => rfl) (Nat.le_refl _)⟩

/-- lists of values, place by place, of an array from a place on -/
def LRo (h : Array Obj) (C : Cx) (B : Nat) (cs : List V) (l : List Value) : Prop := cs.length = l.length ∧ ∀ (i : Nat) (x : V) (v : Value), cs[i]? = some x → l[i]? = some v → VR h C B x v

theorem LRo.cons {x : V} {v : Value} {cs : List V} {l : List Value} (h1 : VR h C B x v) (h2 : LRo h C B cs l) : LRo h C B (x :: cs) (v :: l) := by
  refine ⟨by simp [h2.1], fun i a b ha hb => ?_⟩
  cases i with
  | zero => simp at ha hb; subst ha; subst hb; exact h1
  | succ i => simp at ha hb; exact h2.2 i a b ha hb

theorem LRo.mono {J : Bool → Nat → Prop} {cs : List V} {l : List Value} (h1 : LRo h C B cs l) (hJ : ∀ p b, C.J p b → J p b) : LRo h { C with J := J } B cs l :=
  ⟨h1.1, fun i x v hx hv => VR.mono (h1.2 i x v hx hv) (C' := { C with J := J }) (fun p b hj => ⟨hJ p b hj, rfl⟩) (fun _ _ => rfl) (Nat.le_refl _)⟩

theorem brwK_ok {S : Nat → Prop} : ∀ (ms : List Bool) (l : List V) (vl : List Value) {hp lent : Hp} {S2 Sl : Nat → Prop} {K : List V → Hp → Hp → Prop}, Lent h C B S hp lent S2 Sl → LRo h C B l vl → brwK ms l hp lent K →
    ∃ l' hp' lent' S2' Sl', K l' hp' lent' ∧ Lent h C B S hp' lent' S2' Sl' ∧ (∀ b, Sl b → Sl' b) ∧ ∀ J : Bool → Nat → Prop, (∀ p b, C.J p b → J p b) → (∀ b, Sl' b → J false b) → LRo h { C with J := J } B l' vl
  | [], l, vl, hp, lent, S2, Sl, K, hl, hv, hk => ⟨l, hp, lent, S2, Sl, hk, hl, fun _ hb => hb, fun J hJ _ => hv.mono hJ⟩
  | _ :: _, [], vl, hp, lent, S2, Sl, K, hl, hv, hk => ⟨[], hp, lent, S2, Sl, hk, hl, fun _ hb => hb, fun J hJ _ => hv.mono hJ⟩
  | own :: ms, x :: l, vl, hp, lent, S2, Sl, K, hl, hv, hk => by
    cases vl with
    | nil => have := hv.1; simp at this
    | cons v vl =>
      have hv0 : VR h C B x v := hv.2 0 x v rfl rfl
      have hvl : LRo h C B l vl := ⟨by have := hv.1; simpa using this, fun i a b ha hb => hv.2 (i + 1) a b (by simpa using ha) (by simpa using hb)⟩
      cases own with
      | true =>
        simp only [brwK] at hk
        obtain ⟨l', hp', lent', S2', Sl', h1, h2, h3, h4⟩ := brwK_ok ms l vl hl hvl hk
        exact ⟨_, hp', lent', S2', Sl', h1, h2, h3, fun J hJ hS => .cons (VR.mono hv0 (C' := { C with J := J }) (fun p b hj => ⟨hJ p b hj, rfl⟩) (fun _ _ => rfl) (Nat.le_refl _)) (h4 J hJ hS)⟩
      | false =>
        simp only [brwK] at hk
        obtain ⟨x', hp1, lent1, T2, Tl, g1, g2, g3, g4⟩ := lendV_ok hl hv0 hk
        obtain ⟨l', hp', lent', S2', Sl', h1, h2, h3, h4⟩ := brwK_ok ms l vl g2 hvl g1
        exact ⟨_, hp', lent', S2', Sl', h1, h2, fun b hb => h3 b (g3 b hb), fun J hJ hS => .cons (g4 J hJ (fun b hb => hS b (h3 b hb))) (h4 J hJ hS)⟩

theorem appK_ok : ∀ {l l' : Hp} {S1 S2 S : Nat → Prop} {K : Hp → Prop}, HR h C B l S1 → HR h C B l' S2 → (∀ b, S b ↔ S1 b ∨ S2 b) → (∀ b, S1 b → ¬ S2 b) → appK l l' K → ∃ r, K r ∧ HR h C B r S
  | [], l', S1, S2, S, K, h1, h2, hS, hd, hk => by
    refine ⟨l', hk, ?_⟩
    cases h1 with
    | nil _ e =>
      have : S = S2 := funext fun b => propext ⟨fun hb => ((hS b).1 hb).elim (fun h => absurd h (e b)) id, fun hb => (hS b).2 (.inr hb)⟩
      rw [this]; exact h2
  | (n, o) :: l, l', S1, S2, S, K, h1, h2, hS, hd, hk => by
    simp only [appK] at hk
    cases h1 with
    | cons _ _ _ T1 T2 _ hnB hne ho hl hdj e =>
      obtain ⟨r, hr, hR⟩ := appK_ok (S := fun b => T2 b ∨ S2 b) hl h2 (fun _ => Iff.rfl) (fun b hb => hd b ((e b).2 (.inr hb))) hk
      cases hn : hasN n r <;> rw [hn] at hr
      · simp only [cond_false] at hr
        refine ⟨_, hr, .cons n o r T1 (fun b => T2 b ∨ S2 b) S hnB (hasN_no hn) ho hR ?_ ?_⟩
        · rintro b hb (h | h)
          · exact hdj b hb h
          · exact hd b ((e b).2 (.inl hb)) h
        · intro b
          rw [hS b, e b]
          constructor
          · rintro ((h | h) | h)
            · exact .inl h
            · exact .inr (.inl h)
            · exact .inr (.inr h)
          · rintro (h | h | h)
            · exact .inl (.inl h)
            · exact .inl (.inr h)
            · exact .inr h
      · cases hr

theorem swapK_eq (μ : Mp) (K : Mp → Prop) : swapK μ K = K (μ.map fun e => (e.2, e.1)) := by
  induction μ generalizing K with
  | nil => rfl
  | cons x l ih => obtain ⟨a, b⟩ := x; simp only [swapK, ih, List.map_cons]

theorem mem_swap {μ : Mp} {a b : Nat} : (a, b) ∈ μ.map (fun e => (e.2, e.1)) ↔ (b, a) ∈ μ := by
  simp only [List.mem_map, Prod.exists, Prod.mk.injEq]
  constructor
  · rintro ⟨x, y, h, rfl, rfl⟩; exact h
  · intro h; exact ⟨b, a, h, rfl, rfl⟩

end

theorem CallSem.mono {P : Program} {f : FuncId} {cargs : Array Value} {w : World} {R R' : Value → World → Prop} (h : CallSem P f cargs w R) (hr : ∀ v w', R v w' → R' v w') : CallSem P f cargs w R' := by
  unfold CallSem at h ⊢
  split at h
  · exact Calls.mono h (fun e w' ⟨v, hv, hR⟩ => ⟨v, hv, hr _ _ hR⟩)
  · exact hr _ _ h
  · exact h.elim

/-- the call's rule -/
theorem call_rule {P : Program} {f : FuncId} (ms : List Bool) {args : List V} {hp : Hp} {nx : Nat} {K : Post} (hk : callK P f ms args hp nx K) : CallOb P f args hp nx K := by
  constructor
  intro C S w cargs hs hv
  unfold callK at hk
  obtain ⟨args', hp', lent, S2, Sl, hk, hL, _, hvs⟩ := brwK_ok (h := w.heap) (C := C) (B := nx) (S := S) ms args cargs.toList (lent := []) (S2 := S) (Sl := fun _ => False)
    ⟨hs.hr, .nil _ (fun _ h => h), fun b => by simp, fun _ _ h => h⟩ ⟨by simpa using hv.1, fun i x v hx hv' => hv.2 i x v hx (by simpa using hv')⟩ hk
  have hvs' := hvs (fun p b => C.J p b ∨ (p = false ∧ Sl b)) (fun p b h => .inl h) (fun b h => .inr ⟨rfl, h⟩)
  obtain ⟨args0, hp0, k, μ, rest, N, S1, R, hk, hr0, hv0, hrest, hun, hdj, _, _, hμ, hwf⟩ := norm_ok (h := w.heap) (C := C) (J := fun p b => C.J p b ∨ (p = false ∧ Sl b)) (nx := nx) (S := S2) (N0 := fun _ => ⟨none, 0, 0, 0⟩) (vs := args') (arr := cargs) (fx := []) (st := 0)
    ⟨by simp, by simp, by simp, by simp, Nat.le_refl _, by simp⟩ (by simp) (fun p b h => .inl h) hL.hr ⟨by simpa using hvs'.1, fun i x v hx hv' => hvs'.2 i x v hx (by simpa using hv')⟩ hk
  have hS1 : ∀ b, S1 b → S b := fun b hb => (hL.un b).2 (.inl ((hun b).2 (.inl hb)))
  have hRS : ∀ b, R b → S b := fun b hb => (hL.un b).2 (.inl ((hun b).2 (.inr hb)))
  have hlS : ∀ b, Sl b → S b := fun b hb => (hL.un b).2 (.inr hb)
  have hd1l : ∀ b, S1 b → ¬ Sl b := fun b hb => hL.dj b ((hun b).2 (.inl hb))
  have hdRl : ∀ b, R b → ¬ Sl b := fun b hb => hL.dj b ((hun b).2 (.inr hb))
  refine CallSem.mono (hk.out ⟨fun p b => C.J p b ∨ (p = false ∧ Sl b), N⟩ S1 w cargs ⟨hr0, fun b hb => hs.lt b (hS1 b hb), ?_, ?_⟩ hv0) ?_
  · rintro p b (hj | ⟨rfl, hj⟩)
    · exact ⟨(hs.jlt p b hj).1, fun h => (hs.jlt p b hj).2 (hS1 b h)⟩
    · exact ⟨hs.lt b (hlS b hj), fun h => hd1l b h hj⟩
  · rintro b (hj | ⟨h, _⟩)
    · exact .inl (hs.jj b hj)
    · cases h
  · rintro val w' ⟨v, hp1, nx1, C1, S1', hback, hs1, hv1, he1, hle1⟩
    unfold backK at hback
    have hN1 : ∀ n m, (n, m) ∈ μ → C1.N m = C.N n := fun n m hm => by rw [he1.names m (hμ n m hm).1]; exact (hμ n m hm).2
    have hJ1 : ∀ p b, C.J p b → C1.J p b ∧ ¬ Sl b := fun p b hj => ⟨he1.jmono p b (.inl hj), fun hl => (hs.jlt p b hj).2 (hlS b hl)⟩
    -- what was lent is only lent
    have htrue : ∀ b, C1.J true b → ¬ Sl b := by
      intro b hj hl
      rcases he1.jnew true b hj with (h | ⟨h, _⟩) | h | h
      · exact (hs.jlt true b h).2 (hlS b hl)
      · cases h
      · exact hd1l b h hl
      · have := hs.lt b (hlS b hl); omega
    have key : swapK μ (fun fx => normK fx nx nx1 [v] hp1 fun vs hp' nx' _ _ => match vs with
        | [v] => appK hp' lent fun hp' => appK hp' rest fun hp' => K v hp' nx'
        | _ => Stuck "a result") ∧ HR w'.heap ⟨fun p b => C1.J p b ∧ ¬ Sl b, C1.N⟩ nx1 hp1 S1' ∧ VR w'.heap ⟨fun p b => C1.J p b ∧ ¬ Sl b, C1.N⟩ nx1 v val := by
      cases lent with
      | nil =>
        have hno : ∀ b, ¬ Sl b := by cases hL.hl with | nil _ e => exact e
        exact ⟨hback, hs1.hr.mono (fun p b hj => ⟨⟨hj, hno b⟩, rfl⟩) (fun _ _ => rfl) (Nat.le_refl _) (fun _ _ => rfl), hv1.mono (fun p b hj => ⟨⟨hj, hno b⟩, rfl⟩) (fun _ _ => rfl) (Nat.le_refl _)⟩
      | cons _ _ =>
        obtain ⟨p1, p2, p3⟩ := hback
        exact ⟨p3, HR.perm (J := C1.J) (N := C1.N) (fun b hj => ⟨hj, htrue b hj⟩) p2 hs1.hr, VR.perm (J := C1.J) (N := C1.N) (fun b hj => ⟨hj, htrue b hj⟩) hv1 (permL_ok p1 v (by simp))⟩
    obtain ⟨hk2, hr2, hv2⟩ := key
    rw [swapK_eq] at hk2
    obtain ⟨ws, hp2, nx', μ', rest', N2, S3, R3, hk3, hr3, hv3, _, hun3, _, hle3, hN3, _, _⟩ := norm_ok (h := w'.heap) (C := ⟨fun p b => C1.J p b ∧ ¬ Sl b, C1.N⟩) (J := fun p b => C1.J p b ∧ ¬ Sl b) (nx := nx1) (S := S1') (N0 := C.N) (vs := [v]) (arr := #[val]) (st := nx) (B := nx1)
      ⟨fun n m m' h1 h2 => hwf.vals _ _ _ (mem_swap.1 h1) (mem_swap.1 h2), fun n n' m h1 h2 => hwf.keys _ _ _ (mem_swap.1 h1) (mem_swap.1 h2), fun n m h => by
          rcases hwf.old _ _ (mem_swap.1 h) with h | h
          · cases h
          · exact h.2, fun n m h => .inl h, Nat.le_refl _, fun _ h => h⟩
      (fun n m h => ⟨by
          rcases hwf.old _ _ (mem_swap.1 h) with h | h
          · cases h
          · exact h.2, (hN1 m n (mem_swap.1 h)).symm⟩) (fun _ _ h => h) hr2 ⟨rfl, fun i x v hx hv' => by
          cases i with
          | zero => simp at hx hv'; subst hx; subst hv'; exact hv2
          | succ i => simp at hx⟩ hk2
    have hkeep : ∀ b, b < w.heap.size → ¬ S1 b → w'.heap[b]? = w.heap[b]? := he1.keep
    have hmj : ∀ p b, C.J p b → (C1.J p b ∧ ¬ Sl b) ∧ w'.heap[b]? = w.heap[b]? := fun p b hj =>
      ⟨hJ1 p b hj, hkeep b (hs.jlt p b hj).1 (fun h => (hs.jlt p b hj).2 (hS1 b h))⟩
    have hlent : HR w'.heap ⟨fun p b => C1.J p b ∧ ¬ Sl b, N2⟩ nx' lent Sl :=
      hL.hl.mono hmj (fun n hn => hN3 n hn) hle3 (fun b hb => hkeep b (hs.lt b (hlS b hb)) (fun h => hd1l b h hb))
    have hrest2 : HR w'.heap ⟨fun p b => C1.J p b ∧ ¬ Sl b, N2⟩ nx' rest R :=
      hrest.mono hmj (fun n hn => hN3 n hn) hle3 (fun b hb => hkeep b (hs.lt b (hRS b hb)) (fun h => hdj b h hb))
    have hS3 : ∀ b, S3 b → S1 b ∨ w.heap.size ≤ b := fun b hb => he1.own b ((hun3 b).2 (.inl hb))
    cases ws with
    | nil => cases hk3
    | cons v2 r =>
      cases r with
      | cons _ _ => cases hk3
      | nil =>
        simp only at hk3
        obtain ⟨hpa, hka, hra⟩ := appK_ok (S := fun b => S3 b ∨ Sl b) hr3 hlent (fun _ => Iff.rfl) (by
          intro b h3 hl
          rcases hS3 b h3 with h | h
          · exact hd1l b h hl
          · have := hs.lt b (hlS b hl); omega) hk3
        obtain ⟨hpb, hkb, hrb⟩ := appK_ok (S := fun b => (S3 b ∨ Sl b) ∨ R b) hra hrest2 (fun _ => Iff.rfl) (by
          rintro b (h3 | hl) hr
          · rcases hS3 b h3 with h | h
            · exact hdj b h hr
            · have := hs.lt b (hRS b hr); omega
          · exact hdRl b hr hl) hka
        have hv4 : VR w'.heap ⟨fun p b => C1.J p b ∧ ¬ Sl b, N2⟩ nx' v2 val := hv3.2 0 v2 val rfl rfl
        refine ⟨v2, hpb, nx', ⟨fun p b => C1.J p b ∧ ¬ Sl b, N2⟩, fun b => (S3 b ∨ Sl b) ∨ R b, hkb, ⟨hrb, ?_, ?_, ?_⟩, hv4, ⟨he1.size, ?_, ?_, ?_, ?_, ?_, he1.os, he1.tape, he1.output⟩, hle3⟩
        · rintro b ((h | h) | h)
          · exact hs1.lt b ((hun3 b).2 (.inl h))
          · exact Nat.lt_of_lt_of_le (hs.lt b (hlS b h)) he1.size
          · exact Nat.lt_of_lt_of_le (hs.lt b (hRS b h)) he1.size
        · rintro p b ⟨hj, hnl⟩
          refine ⟨(hs1.jlt p b hj).1, ?_⟩
          rintro ((h | h) | h)
          · exact (hs1.jlt p b hj).2 ((hun3 b).2 (.inl h))
          · exact hnl h
          · rcases he1.jnew p b hj with (g | ⟨_, g⟩) | g | g
            · exact (hs.jlt p b g).2 (hRS b h)
            · exact hnl g
            · exact hdj b g h
            · have := hs.lt b (hRS b h); omega
        · rintro b ⟨hj, hnl⟩
          exact ⟨hs1.jj b hj, hnl⟩
        · intro b hb hns
          exact hkeep b hb (fun h => hns (hS1 b h))
        · rintro b ((h | h) | h)
          · rcases hS3 b h with h | h
            · exact .inl (hS1 b h)
            · exact .inr h
          · exact .inl (hlS b h)
          · exact .inl (hRS b h)
        · exact hJ1
        · rintro p b ⟨hj, hnl⟩
          rcases he1.jnew p b hj with (g | ⟨_, g⟩) | g | g
          · exact .inl g
          · exact absurd g hnl
          · exact .inr (.inl (hS1 b g))
          · exact .inr (.inr g)
        · intro n hn
          exact hN3 n hn

end Go.Sx
end

section
namespace Go.Sx

/-- Steps at a state's normal form: a nil slice (a value, or a variable's cell) is an empty row; a row that no one writes any more is by value. -/
inductive Fix : Type 1
  | slot (i ty sz : Nat) {α : Type} (enc : α → V)
  | cell (n j ty sz : Nat) {α : Type} (enc : α → V)
  | frz (i : Nat)
  | fcz (n j : Nat)
  | arr (n k : Nat) {α : Type} (enc : α → V) (xs : List α)

def takeLK : Nat → List V → (List V → Prop) → Prop
  | k + 1, x :: l, K => takeLK k l fun r => K (x :: r)
  | _, _, K => K []

theorem takeLK_eq (k : Nat) (l : List V) (K : List V → Prop) : takeLK k l K = K (l.take k) := by
  induction l generalizing k K with
  | nil => cases k <;> rfl
  | cons x l ih => cases k <;> simp [takeLK, ih]

def fixK : List Fix → List V → Hp → Nat → (List V → Hp → Nat → Prop) → Prop
  | [], vs, hp, nx, K => K vs hp nx
  | .slot i ty sz enc :: l, vs, hp, nx, K => match nth i vs with
    | some .nils => setK i (.vec nx) vs fun vs => fixK l vs ((nx, .row ty sz enc []) :: hp) (nx + 1) K
    | _ => fixK l vs hp nx K
  | .cell n j ty sz enc :: l, vs, hp, nx, K => match obj n hp with
    | some (.cells t cs) => match nth j cs with
      | some .nils => setK j (.vec nx) cs fun cs => updK n (.cells t cs) hp fun hp => fixK l vs ((nx, .row ty sz enc []) :: hp) (nx + 1) K
      | _ => fixK l vs hp nx K
    | _ => fixK l vs hp nx K
  | .frz i :: l, vs, hp, nx, K => match nth i vs with
    | some (.vec n) => match obj n hp with
      | some (.row _ sz enc xs) => delK n hp fun hp => setK i (.isl true sz enc xs) vs fun vs => fixK l vs hp nx K
      | _ => fixK l vs hp nx K
    | _ => fixK l vs hp nx K
  | .fcz n j :: l, vs, hp, nx, K => match obj n hp with
    | some (.cells t cs) => match nth j cs with
      | some (.vec m) => match obj m hp with
        | some (.row _ sz enc xs) => delK m hp fun hp => setK j (.isl true sz enc xs) cs fun cs => updK n (.cells t cs) hp fun hp => fixK l vs hp nx K
        | _ => fixK l vs hp nx K
      | _ => fixK l vs hp nx K
    | _ => fixK l vs hp nx K
  | .arr n k enc xs :: l, vs, hp, nx, K => match obj n hp with
    | some (.cells t cs) => (cs.drop k = xs.map enc ∧ k ≤ cs.length ∧ ∀ x ∈ xs, V.isImm (enc x) = true ∧ V.flat (enc x) = true) ∧ takeLK k cs fun pre => updK n (.arr t pre enc xs) hp fun hp => fixK l vs hp nx K
    | _ => fixK l vs hp nx K

theorem nth_get {i : Nat} {l : List V} : nth i l = l[i]? := by
  induction l generalizing i with
  | nil => cases i <;> rfl
  | cons x l ih => cases i <;> simp [nth, ih]

section
variable {h : Array Obj} {C : Cx} {B : Nat}

theorem LR.put {vs : List V} {arr : Array Value} (hv : LR h C B vs arr) {i : Nat} {y : V} (hy : ∀ v, arr[i]? = some v → i < vs.length → VR h C B y v) : LR h C B (vs.set i y) arr := by
  refine ⟨by simp [hv.1], fun j x v hx hv' => ?_⟩
  by_cases hj : i = j
  · subst hj
    have hlt : i < vs.length := by
      have := (List.getElem?_eq_some_iff.1 hx).1
      simpa using this
    rw [List.getElem?_set_self hlt] at hx
    simp only [Option.some.injEq] at hx
    subst hx
    exact hy v hv' hlt
  · rw [List.getElem?_set_ne hj] at hx
    exact hv.2 j x v hx hv'

theorem vec_nil {nx ty sz : Nat} {α : Type} {enc : α → V} (hb : C.N nx = ⟨none, 0, 0, sz⟩) (hn : nx < B) {v : Value} (hv : VR h C B .nils v) :
    VR h C B (.vec nx) v ∧ OR h C B nx (fun _ => False) (.row ty sz enc []) := by
  constructor
  · cases hv with
    | imm _ _ e => cases e; exact .vecNil nx hn (by rw [hb])
  · refine ⟨by rw [hb]; rfl, by rw [hb], .inl ⟨by rw [hb], rfl, by rw [hb], fun _ h => h⟩⟩

end

/-- one more name, of a nil row -/
def withN (C : Cx) (nx : Nat) (l : Loc) : Cx := ⟨C.J, fun n => if n = nx then l else C.N n⟩

theorem withN_ne {C : Cx} {nx n : Nat} {l : Loc} (h : n < nx) : (withN C nx l).N n = C.N n := by
  simp only [withN]; rw [if_neg (by omega)]

theorem withN_eq {C : Cx} {nx : Nat} {l : Loc} : (withN C nx l).N nx = l := by simp [withN]

theorem obj_del {m n : Nat} (h : ¬ m = n) : ∀ (l : Hp), obj n (del m l) = obj n l
  | [] => rfl
  | (k, v) :: l => by
    simp only [del, obj]
    cases hk : Nat.beq k m
    · simp only [cond_false, obj]
      rw [obj_del h l]
    · simp only [cond_true]
      have : k = m := Nat.eq_of_beq_eq_true hk
      subst this
      have : Nat.beq k n = false := by
        cases hb : Nat.beq k n
        · rfl
        · exact absurd (Nat.eq_of_beq_eq_true hb) h
      rw [this]
      rfl

theorem fixK_ok {w : World} : ∀ (fs : List Fix) {vs : List V} {arr : Array Value} {hp : Hp} {nx ar : Nat} {C : Cx} {S : Nat → Prop} {K : List V → Hp → Nat → Prop}, ar ≤ nx → HSat hp nx C S w → LR w.heap C nx vs arr → fixK fs vs hp nx K →
    ∃ vs' hp' nx' C' S', K vs' hp' nx' ∧ HSat hp' nx' C' S' w ∧ LR w.heap C' nx' vs' arr ∧ Ext ar C C' S S' w w ∧ ar ≤ nx'
  | [], vs, arr, hp, nx, ar, C, S, K, har, hs, hv, hk => ⟨vs, hp, nx, C, S, hk, hs, hv, .refl _ _ _ _, har⟩
  | .slot i ty sz enc :: l, vs, arr, hp, nx, ar, C, S, K, har, hs, hv, hk => by
    simp only [fixK] at hk
    have go : fixK l vs hp nx K → ∃ vs' hp' nx' C' S', K vs' hp' nx' ∧ HSat hp' nx' C' S' w ∧ LR w.heap C' nx' vs' arr ∧ Ext ar C C' S S' w w ∧ ar ≤ nx' := fun hk => fixK_ok l har hs hv hk
    split at hk
    · rename_i hi
      simp only [setK_eq] at hk
      rw [nth_get] at hi
      have hmono : ∀ p b, C.J p b → (withN C nx ⟨none, 0, 0, sz⟩).J p b ∧ w.heap[b]? = w.heap[b]? := fun p b h => ⟨h, rfl⟩
      have hN : ∀ n, n < nx → (withN C nx ⟨none, 0, 0, sz⟩).N n = C.N n := fun n hn => withN_ne hn
      have hext : Ext ar C (withN C nx ⟨none, 0, 0, sz⟩) S S w w := ⟨Nat.le_refl _, fun _ _ _ => rfl, fun _ h => .inl h, fun _ _ h => h, fun _ _ h => .inl h, fun n hn => hN n (by omega), rfl, rfl, rfl⟩
      have hs' : HSat ((nx, .row ty sz enc []) :: hp) (nx + 1) (withN C nx ⟨none, 0, 0, sz⟩) S w := by
        refine ⟨.cons nx _ hp (fun _ => False) S S (by omega) ?_ ?_ (hs.hr.mono hmono hN (by omega) (fun _ _ => rfl)) (fun _ h => h.elim) (fun b => by simp), hs.lt, hs.jlt, hs.jj⟩
        · have : ∀ {l : Hp} {S : Nat → Prop}, HR w.heap C nx l S → ∀ a ∈ l, a.1 ≠ nx := by
            intro l S h
            induction h with
            | nil => intro a ha; cases ha
            | cons n o l _ _ _ hn _ _ _ _ _ ih =>
              intro a ha
              simp only [List.mem_cons] at ha
              rcases ha with rfl | ha
              · simp only; omega
              · exact ih a ha
          exact this hs.hr
        · exact ⟨by rw [withN_eq]; rfl, by rw [withN_eq], .inl ⟨by rw [withN_eq], rfl, by rw [withN_eq], fun _ h => h⟩⟩
      obtain ⟨vs', hp', nx', C', S', h1, h2, h3, h4, h5⟩ := fixK_ok l (ar := ar) (by omega) hs' (LR.put (hv.mono hmono hN (B' := nx + 1) (by omega)) (i := i) (y := .vec nx) (fun v hv' hlt => by
        have := hv.2 i .nils v hi hv'
        exact (vec_nil (ty := ty) (enc := enc) withN_eq (by omega) (this.mono hmono hN (B' := nx + 1) (by omega))).1)) hk
      exact ⟨vs', hp', nx', C', S', h1, h2, h3, hext.trans h4, h5⟩
    · exact go hk
  | .cell n j ty sz enc :: l, vs, arr, hp, nx, ar, C, S, K, har, hs, hv, hk => by
    simp only [fixK] at hk
    have go : fixK l vs hp nx K → ∃ vs' hp' nx' C' S', K vs' hp' nx' ∧ HSat hp' nx' C' S' w ∧ LR w.heap C' nx' vs' arr ∧ Ext ar C C' S S' w w ∧ ar ≤ nx' := fun hk => fixK_ok l har hs hv hk
    split at hk
    · rename_i t cs ho
      split at hk
      · rename_i hi
        simp only [setK_eq, updK_eq] at hk
        rw [nth_get] at hi
        have hmono : ∀ p b, C.J p b → (withN C nx ⟨none, 0, 0, sz⟩).J p b ∧ w.heap[b]? = w.heap[b]? := fun p b h => ⟨h, rfl⟩
        have hN : ∀ n, n < nx → (withN C nx ⟨none, 0, 0, sz⟩).N n = C.N n := fun n hn => withN_ne hn
        have hext : Ext ar C (withN C nx ⟨none, 0, 0, sz⟩) S S w w := ⟨Nat.le_refl _, fun _ _ _ => rfl, fun _ h => .inl h, fun _ _ h => h, fun _ _ h => .inl h, fun n hn => hN n (by omega), rfl, rfl, rfl⟩
        have hr1 : HR w.heap (withN C nx ⟨none, 0, 0, sz⟩) (nx + 1) hp S := hs.hr.mono hmono hN (by omega) (fun _ _ => rfl)
        have hno : ∀ {l : Hp} {S : Nat → Prop}, HR w.heap C nx l S → ∀ a ∈ upd n (.cells t (cs.set j (.vec nx))) l, a.1 < nx := by
          intro l S h
          induction h with
          | nil => intro a ha; cases ha
          | cons k o l _ _ _ hn _ _ _ _ _ ih =>
            intro a ha
            simp only [upd] at ha
            cases hkn : Nat.beq k n <;> rw [hkn] at ha
            · simp only [cond_false, List.mem_cons] at ha
              rcases ha with rfl | ha
              · exact hn
              · exact ih a ha
            · simp only [cond_true, List.mem_cons] at ha
              rcases ha with rfl | ha
              · exact hn
              · rename_i hl _ _ _
                have : ∀ {l : Hp} {S : Nat → Prop}, HR w.heap C nx l S → ∀ a ∈ l, a.1 < nx := by
                  intro l S h
                  induction h with
                  | nil => intro a ha; cases ha
                  | cons n o l _ _ _ hn _ _ _ _ _ ih =>
                    intro a ha
                    simp only [List.mem_cons] at ha
                    rcases ha with rfl | ha
                    · exact hn
                    · exact ih a ha
                exact this (by assumption) a ha
        obtain ⟨S1, hor, hnB, _⟩ := hr1.get ho
        obtain ⟨b, arr', hb, hh, hl', hS1⟩ := hor
        have hcell : LR w.heap (withN C nx ⟨none, 0, 0, sz⟩) (nx + 1) (cs.set j (.vec nx)) arr' := LR.put hl' (fun v hv' hlt => (vec_nil (ty := ty) (enc := enc) withN_eq (by omega) (hl'.2 j .nils v hi hv')).1)
        have hr2 := hr1.set (h' := w.heap) ho (S1 := S1) ⟨b, arr', hb, hh, hl', hS1⟩ (fun S2 hS2 k => by
          obtain ⟨b2, arr2, hb2, hh2, _, hS2'⟩ := hS2
          rw [hb] at hb2; cases hb2
          rw [hS2' k, hS1 k]) (o' := .cells t (cs.set j (.vec nx))) ⟨b, arr', hb, hh, hcell, hS1⟩ (fun _ _ _ => rfl) (fun _ _ _ => rfl)
        have hs' : HSat ((nx, .row ty sz enc []) :: upd n (.cells t (cs.set j (.vec nx))) hp) (nx + 1) (withN C nx ⟨none, 0, 0, sz⟩) S w :=
          ⟨.cons nx _ _ (fun _ => False) S S (by omega) (fun a ha => by have := hno hs.hr a ha; omega) ⟨by rw [withN_eq]; rfl, by rw [withN_eq], .inl ⟨by rw [withN_eq], rfl, by rw [withN_eq], fun _ h => h⟩⟩ hr2 (fun _ h => h.elim) (fun b => by simp), hs.lt, hs.jlt, hs.jj⟩
        obtain ⟨vs', hp', nx', C', S', h1, h2, h3, h4, h5⟩ := fixK_ok l (ar := ar) (by omega) hs' (hv.mono hmono hN (by omega)) hk
        exact ⟨vs', hp', nx', C', S', h1, h2, h3, hext.trans h4, h5⟩
      · exact go hk
    · exact go hk
  | .frz i :: l, vs, arr, hp, nx, ar, C, S, K, har, hs, hv, hk => by
    simp only [fixK] at hk
    have go : fixK l vs hp nx K → ∃ vs' hp' nx' C' S', K vs' hp' nx' ∧ HSat hp' nx' C' S' w ∧ LR w.heap C' nx' vs' arr ∧ Ext ar C C' S S' w w ∧ ar ≤ nx' := fun hk => fixK_ok l har hs hv hk
    split at hk
    · rename_i n hi
      split at hk
      · rename_i t sz α enc xs ho
        simp only [setK_eq, delK_eq] at hk
        rw [nth_get] at hi
        obtain ⟨S1, S2, g1, g2, g3, g4, g5, g6⟩ := hs.hr.del ho
        have hJ : ∀ p b, C.J p b → (C.J p b ∨ S1 b) := fun p b h => .inl h
        have hs' : HSat (del n hp) nx ⟨fun p b => C.J p b ∨ S1 b, C.N⟩ S2 w := by
          refine ⟨g2.mono (fun p b h => ⟨.inl h, rfl⟩) (fun _ _ => rfl) (Nat.le_refl _) (fun _ _ => rfl), fun b hb => hs.lt b ((g4 b).2 (.inr hb)), ?_, ?_⟩
          · rintro p b (h | h)
            · exact ⟨(hs.jlt p b h).1, fun h2 => (hs.jlt p b h).2 ((g4 b).2 (.inr h2))⟩
            · exact ⟨hs.lt b ((g4 b).2 (.inl h)), g3 b h⟩
          · rintro b (h | h)
            · exact .inl (hs.jj b h)
            · exact .inr h
        have hext : Ext ar C ⟨fun p b => C.J p b ∨ S1 b, C.N⟩ S S2 w w := ⟨Nat.le_refl _, fun _ _ _ => rfl, fun b h => .inl ((g4 b).2 (.inr h)), hJ, fun p b h => h.elim .inl (fun h => .inr (.inl ((g4 b).2 (.inl h)))), fun _ _ => rfl, rfl, rfl, rfl⟩
        have hv' : LR w.heap ⟨fun p b => C.J p b ∨ S1 b, C.N⟩ nx vs arr := hv.mono (fun p b h => ⟨.inl h, rfl⟩) (fun _ _ => rfl) (Nat.le_refl _)
        obtain ⟨vs', hp', nx', C', S', h1, h2, h3, h4, h5⟩ := fixK_ok l har hs' (LR.put hv' (i := i) (y := .isl true sz enc xs) (fun v hv1 _ => .imm _ _ (row_isl g1 (hv.2 i _ v hi hv1) hJ (fun b h => .inr h)))) hk
        exact ⟨vs', hp', nx', C', S', h1, h2, h3, hext.trans h4, h5⟩
      · exact go hk
    · exact go hk
  | .fcz n j :: l, vs, arr, hp, nx, ar, C, S, K, har, hs, hv, hk => by
    simp only [fixK] at hk
    have go : fixK l vs hp nx K → ∃ vs' hp' nx' C' S', K vs' hp' nx' ∧ HSat hp' nx' C' S' w ∧ LR w.heap C' nx' vs' arr ∧ Ext ar C C' S S' w w ∧ ar ≤ nx' := fun hk => fixK_ok l har hs hv hk
    split at hk
    · rename_i t cs ho
      split at hk
      · rename_i m hi
        split at hk
        · rename_i t' sz α enc xs hm
          simp only [setK_eq, delK_eq, updK_eq] at hk
          rw [nth_get] at hi
          have hnm : ¬ m = n := by
            rintro rfl
            rw [ho] at hm
            cases hm
          obtain ⟨S0, ⟨b0, arr0, hb0, hh0, hl0, hS0⟩, hnB0, _⟩ := hs.hr.get ho
          obtain ⟨S1, S2, g1, g2, g3, g4, g5, g6⟩ := hs.hr.del hm
          have hJ : ∀ p b, C.J p b → (C.J p b ∨ S1 b) := fun p b h => .inl h
          have hs1 : HSat (del m hp) nx ⟨fun p b => C.J p b ∨ S1 b, C.N⟩ S2 w := by
            refine ⟨g2.mono (fun p b h => ⟨.inl h, rfl⟩) (fun _ _ => rfl) (Nat.le_refl _) (fun _ _ => rfl), fun b hb => hs.lt b ((g4 b).2 (.inr hb)), ?_, ?_⟩
            · rintro p b (h | h)
              · exact ⟨(hs.jlt p b h).1, fun h2 => (hs.jlt p b h).2 ((g4 b).2 (.inr h2))⟩
              · exact ⟨hs.lt b ((g4 b).2 (.inl h)), g3 b h⟩
            · rintro b (h | h)
              · exact .inl (hs.jj b h)
              · exact .inr h
          have hext : Ext ar C ⟨fun p b => C.J p b ∨ S1 b, C.N⟩ S S2 w w := ⟨Nat.le_refl _, fun _ _ _ => rfl, fun b h => .inl ((g4 b).2 (.inr h)), hJ, fun p b h => h.elim .inl (fun h => .inr (.inl ((g4 b).2 (.inl h)))), fun _ _ => rfl, rfl, rfl, rfl⟩
          have hv' : LR w.heap ⟨fun p b => C.J p b ∨ S1 b, C.N⟩ nx vs arr := hv.mono (fun p b h => ⟨.inl h, rfl⟩) (fun _ _ => rfl) (Nat.le_refl _)
          have ho1 : obj n (del m hp) = some (.cells t cs) := by rw [obj_del hnm]; exact ho
          obtain ⟨S3, ⟨b, arr', hb, hh, hl', hS3⟩, hnB, _⟩ := hs1.hr.get ho1
          have hbb : b = b0 ∧ arr' = arr0 := by
            have e1 : some b = some b0 := by rw [← hb, ← hb0]
            obtain rfl := Option.some.inj e1
            refine ⟨rfl, ?_⟩
            rw [hh] at hh0
            simpa using hh0
          obtain ⟨rfl, rfl⟩ := hbb
          have hcell : LR w.heap ⟨fun p b => C.J p b ∨ S1 b, C.N⟩ nx (cs.set j (.isl true sz enc xs)) arr' := LR.put hl' (fun v hv1 _ => .imm _ _ (row_isl g1 (hl0.2 j _ v hi hv1) hJ (fun b h => .inr h)))
          have hr2 := hs1.hr.set (h' := w.heap) ho1 (S1 := S3) ⟨b, arr', hb, hh, hl', hS3⟩ (fun S4 hS4 k => by
            obtain ⟨b2, arr2, hb2, hh2, _, hS4'⟩ := hS4
            rw [hb] at hb2; cases hb2
            rw [hS4' k, hS3 k]) (o' := .cells t (cs.set j (.isl true sz enc xs))) ⟨b, arr', hb, hh, hcell, hS3⟩ (fun _ _ _ => rfl) (fun _ _ _ => rfl)
          have hs' : HSat (upd n (.cells t (cs.set j (.isl true sz enc xs))) (del m hp)) nx ⟨fun p b => C.J p b ∨ S1 b, C.N⟩ S2 w := ⟨hr2, hs1.lt, hs1.jlt, hs1.jj⟩
          obtain ⟨vs', hp', nx', C', S', h1, h2, h3, h4, h5⟩ := fixK_ok l har hs' hv' hk
          exact ⟨vs', hp', nx', C', S', h1, h2, h3, hext.trans h4, h5⟩
        · exact go hk
      · exact go hk
    · exact go hk
  | .arr n k enc xs :: l, vs, arr, hp, nx, ar, C, S, K, har, hs, hv, hk => by
    simp only [fixK] at hk
    split at hk
    · rename_i t cs ho
      obtain ⟨⟨hd, hk1, himm⟩, hk⟩ := hk
      simp only [takeLK_eq, updK_eq] at hk
      obtain ⟨S1, hor, hnB, _⟩ := hs.hr.get ho
      obtain ⟨b, arr', hb, hh, hl', hS1⟩ := hor
      have hlen : cs.length = k + xs.length := by
        have := congrArg List.length hd
        simp at this; omega
      have hr2 := hs.hr.set (h' := w.heap) ho (S1 := S1) ⟨b, arr', hb, hh, hl', hS1⟩ (fun S2 hS2 j => by
        obtain ⟨b2, arr2, hb2, hh2, _, hS2'⟩ := hS2
        rw [hb] at hb2; cases hb2
        rw [hS2' j, hS1 j]) (o' := .arr t (cs.take k) enc xs) ⟨b, arr', hb, hh, by rw [← hl'.1, List.length_take, hlen]; omega, (fun i x v hx hv => by
          refine hl'.2 i x v ?_ hv
          rw [List.getElem?_take] at hx
          split at hx
          · exact hx
          · cases hx), fun i x hx => by
          have hxi := (List.getElem?_eq_some_iff.1 hx).1
          have hc : cs[k + i]? = some (enc x) := by
            rw [← List.getElem?_drop, hd, List.getElem?_map, hx]; rfl
          have hlt : k + i < arr'.size := by rw [← hl'.1]; omega
          have h1 := hl'.2 (k + i) _ _ hc (Array.getElem?_eq_getElem hlt)
          have hm := himm x (List.mem_of_getElem? hx)
          refine ⟨arr'[k + i], by rw [List.length_take, Nat.min_eq_left hk1]; exact Array.getElem?_eq_getElem hlt, flat_one hm.2 h1, imm_IR h1 hm.1⟩, hS1⟩ (fun _ _ _ => rfl) (fun _ _ _ => rfl)
      obtain ⟨vs', hp', nx', C', S', h1, h2, h3, h4, h5⟩ := fixK_ok l (ar := ar) har ⟨hr2, hs.lt, hs.jlt, hs.jj⟩ hv hk
      exact ⟨vs', hp', nx', C', S', h1, h2, h3, h4, h5⟩
    · exact fixK_ok l har hs hv hk

end Go.Sx
end

section
namespace Go.Sx

def initT : Nat → List V → Tm
  | _, [] => []
  | i, x :: l => (i, x) :: initT (i + 1) l

def initK : Nat → List V → (Tm → Prop) → Prop
  | _, [], K => K []
  | i, x :: l, K => fV x fun x => initK (i + 1) l fun tm => K ((i, x) :: tm)

theorem initK_eq (i : Nat) (l : List V) (K : Tm → Prop) : initK i l K = K (initT i l) := by
  induction l generalizing i K with
  | nil => rfl
  | cons x l ih => simp only [initK, fV_eq, ih, initT]

/-- the values of slots -/
def slotsK : List Nat → Tm → (List V → Prop) → Prop
  | [], _, K => K []
  | t :: l, tm, K => fV (lk t tm) fun x => slotsK l tm fun vs => K (x :: vs)

def slots : List Nat → Tm → List V
  | [], _ => []
  | t :: l, tm => lk t tm :: slots l tm

theorem slotsK_eq (l : List Nat) (tm : Tm) (K : List V → Prop) : slotsK l tm K = K (slots l tm) := by
  induction l generalizing K with
  | nil => rfl
  | cons t l ih => simp only [slotsK, fV_eq, ih, slots]

def keepK (ar : Nat) : List Nat → (Mp → Prop) → Prop
  | [], K => K []
  | n :: l, K => bif Nat.blt n ar then keepK ar l fun fx => K ((n, n) :: fx) else Stuck "keep: no such name"

theorem keepK_ok {ar : Nat} : ∀ {l : List Nat} {K : Mp → Prop}, keepK ar l K → ∃ fx, K fx ∧ ∀ n m, (n, m) ∈ fx → n = m ∧ n < ar
  | [], K, h => ⟨[], h, by simp⟩
  | n :: l, K, h => by
    simp only [keepK] at h
    cases hn : Nat.blt n ar <;> rw [hn] at h
    · cases h
    · simp only [cond_true] at h
      obtain ⟨fx, h1, h2⟩ := keepK_ok h
      refine ⟨_, h1, fun a b hab => ?_⟩
      simp only [List.mem_cons, Prod.mk.injEq] at hab
      rcases hab with ⟨rfl, rfl⟩ | hab
      · exact ⟨rfl, by rwa [Nat.blt_eq] at hn⟩
      · exact h2 a b hab

/-- a state's normal form: the values of slots, what is reachable from them and from the names that are kept -/
def formK (ar : Nat) (keep : List Nat) (fs : List Fix) (sl : List Nat) (tm : Tm) (hp : Hp) (nx : Nat) (K : List V → Hp → Nat → Prop) : Prop :=
  slotsK sl tm fun vs => fixK fs vs hp nx fun vs hp nx => keepK ar keep fun fx => normK fx ar nx vs hp fun vs hp nx _ _ => K vs hp nx

def packV : List V → V
  | [v] => v
  | vs => .tup vs

def packC : List Value → Value
  | [v] => v
  | vs => .tuple vs.toArray

/-- how a function ends -/
def exitQ (ar : Nat) (keep : List Nat) (fs : List Fix) (rs : List Nat) (K : Post) : PostC := fun e tm hp nx => match e with
  | .normal | .ret => formK ar keep fs rs tm hp nx fun vs hp nx => ∃ v' hp' nx', leT (packV vs) v' ∧ leH hp hp' ∧ nx ≤ nx' ∧ K v' hp' nx'
  | _ => Stuck "an end"

section
variable {P : Program} {tab : Tab} {nt : Nat}

theorem HR.bound {h : Array Obj} {C : Cx} {B B' : Nat} {l : Hp} {S : Nat → Prop} (e : HR h C B l S) (hB : B ≤ B') : HR h C B' l S :=
  e.mono (fun _ _ h => ⟨h, rfl⟩) (fun _ _ => rfl) hB (fun _ _ => rfl)

/-- what the normal form says -/
theorem formK_ok {ar : Nat} {keep : List Nat} {fs : List Fix} {sl : List Nat} {tm : Tm} {hp : Hp} {nx : Nat} {C : Cx} {S : Nat → Prop} {w : World} {tmc : Array Value} {K : List V → Hp → Nat → Prop}
    (har : ar ≤ nx) (hs : HSat hp nx C S w) (ht : TSat tm nt C nx w.heap tmc) (hw : noW tm = true) (hk : formK ar keep fs sl tm hp nx K) :
    ∃ vs hp' nx' C' S', K vs hp' nx' ∧ HSat hp' nx' C' S' w ∧ LR w.heap C' nx' vs (sl.map (fun t => tmc.getD t undef)).toArray ∧ Ext ar C C' S S' w w ∧ ar ≤ nx' := by
  unfold formK at hk
  rw [slotsK_eq] at hk
  have hsl : ∀ sl : List Nat, LRo w.heap C nx (slots sl tm) (sl.map (fun t => tmc.getD t undef)) := by
    intro sl
    induction sl with
    | nil => exact ⟨rfl, fun i x v h => by simp [slots] at h⟩
    | cons t l ih =>
      refine .cons ?_ ih
      by_cases htn : t < nt
      · have h1 := ht.at_ t htn
        have hnw : ∀ g p x, lk t tm ≠ .whn g p x := by
          intro g p x he
          have hm := lk_mem he (by simp)
          have := noW_WL.1 hw _ hm g p x rfl
          simp at this
        have : ∃ v, tmc[t]? = some v ∧ VR w.heap C nx (lk t tm) v := by
          cases hl : lk t tm <;> rw [hl] at h1 <;> first | exact h1 | exact absurd hl (hnw _ _ _)
        obtain ⟨v, hv, hr⟩ := this
        simp only [Array.getD_eq_getD_getElem?, hv, Option.getD_some]
        exact hr
      · rw [ht.out t (by omega)]
        exact .junk _
  obtain ⟨vs1, hp1, nx1, C1, S1, h1, h2, h3, h4, h5⟩ := fixK_ok fs (arr := (sl.map (fun t => tmc.getD t undef)).toArray) har hs ⟨by simpa using (hsl sl).1, fun i x v hx hv => (hsl sl).2 i x v hx (by simpa using hv)⟩ hk
  obtain ⟨fx, h1, hfx⟩ := keepK_ok h1
  obtain ⟨ws, hp2, nx2, μ, rest, N, T1, R, k1, k2, k3, _, k5, _, k7, k8, _, _⟩ := norm_ok (h := w.heap) (C := C1) (J := C1.J) (nx := nx1) (S := S1) (N0 := C1.N) (fx := fx) (st := ar) (B := nx1)
    ⟨fun n m m' h1 h2 => by rw [← (hfx _ _ h1).1, ← (hfx _ _ h2).1], fun n n' m h1 h2 => by rw [(hfx _ _ h1).1, (hfx _ _ h2).1], fun n m h => by have := hfx _ _ h; omega, fun n m h => .inl h, Nat.le_refl _, fun _ h => h⟩
    (fun n m h => ⟨by have := hfx _ _ h; omega, by rw [(hfx _ _ h).1]⟩) (fun _ _ h => h) h2.hr h3 h1
  refine ⟨ws, hp2, nx2, ⟨C1.J, N⟩, T1, k1, ⟨k2, fun b hb => h2.lt b ((k5 b).2 (.inl hb)), fun p b hj => ⟨(h2.jlt p b hj).1, fun hb => (h2.jlt p b hj).2 ((k5 b).2 (.inl hb))⟩, h2.jj⟩, k3,
    h4.trans ⟨Nat.le_refl _, fun _ _ _ => rfl, fun b hb => .inl ((k5 b).2 (.inl hb)), fun _ _ h => h, fun _ _ h => .inl h, fun n hn => k8 n hn, rfl, rfl, rfl⟩, k7⟩

theorem VR.notW {h : Array Obj} {C : Cx} {B : Nat} {g : Nat} {p : Bool} {x : V} {v : Value} : ¬ VR h C B (.whn g p x) v := by
  intro h
  cases h with
  | imm _ _ e => cases e

theorem lk_init {t : Nat} : ∀ {i : Nat} {l : List V}, lk t (initT i l) = if i ≤ t then (l[t - i]?).getD .junk else .junk
  | i, [] => by simp [initT, lk]
  | i, x :: l => by
    simp only [initT, lk]
    by_cases h : i = t
    · subst h; simp
    · rw [beq_ne h, lk_init]
      simp only [cond_false]
      by_cases h1 : i ≤ t
      · rw [if_pos h1, if_pos (by omega)]
        have : t - i = (t - (i + 1)) + 1 := by omega
        rw [this]; simp
      · rw [if_neg h1, if_neg (by omega)]

theorem noW_init {h : Array Obj} {C : Cx} {B : Nat} : ∀ {i : Nat} {l : List V} {vl : List Value}, LRo h C B l vl → noW (initT i l) = true
  | _, [], _, _ => rfl
  | i, x :: l, [], h => by have := h.1; simp at this
  | i, x :: l, v :: vl, h => by
    simp only [initT, noW, Bool.and_eq_true, Bool.not_eq_true']
    refine ⟨?_, noW_init (vl := vl) ⟨by have := h.1; simpa using this, fun j a b ha hb => h.2 (j + 1) a b (by simpa using ha) (by simpa using hb)⟩⟩
    have := h.2 0 x v rfl rfl
    cases x <;> first | rfl | exact absurd this VR.notW

/-- a function's contract, out of its body's -/
theorem contract {f : FuncId} {fn : Func} {c : Code} {tab : Tab} (hT : TabOk P tab) (hm : P.follows .mixedOrders = true) (hf : P.funcs[f]? = some fn) (hb : fn.body = some c) (hc : ∀ args w, (callFunc f args).run P w = .ok (.enter f args) w)
    (keep : List Nat) (fs : List Fix) (rs : List Nat) (hres : ∀ tmps w, (results fn tmps).run P w = .ok (packC (rs.map fun t => tmps.getD t undef)) w) {args : List V} {hp : Hp} {k : Nat} {K : Post} {n : Nat} (hn : fn.ntmps = n) (hle : Nat.ble args.length n = true)
    (h : initK 0 args fun tm => awp P tab n k c (exitQ k keep fs rs K) tm hp k) : CallOb P f args hp k K := by
  constructor
  intro C S w cargs hs hv
  subst hn
  rw [initK_eq] at h
  have hle' : args.length ≤ fn.ntmps := Nat.le_of_ble_eq_true hle
  unfold CallSem
  rw [hc]
  simp only
  have hvo : LRo w.heap C k args cargs.toList := ⟨by simpa using hv.1, fun i x v hx hv' => hv.2 i x v hx (by simpa using hv')⟩
  have hsz : cargs.size ≤ fn.ntmps := by rw [← hv.1]; exact hle'
  refine calls_of_wp hf hb (wp_mono (awp_good hT hm (nt := fn.ntmps) (ar := k) c _ _ _ _ h C S w _ rfl (Nat.le_refl _) hs ⟨by simp; omega, ?_, ?_⟩ (noW_init hvo)) ?_)
  · intro t ht
    have hget : ∃ v, (cargs ++ Array.replicate (fn.ntmps - cargs.size) undef)[t]? = some v ∧ VR w.heap C k (lk t (initT 0 args)) v := by
      rw [lk_init]
      simp only [Nat.zero_le, if_true, Nat.sub_zero]
      by_cases hta : t < cargs.size
      · have hta' : t < args.length := by rw [hv.1]; exact hta
        refine ⟨cargs[t], by simp [Array.getElem?_append, hta], ?_⟩
        rw [List.getElem?_eq_getElem hta']
        exact hv.2 t _ _ (List.getElem?_eq_getElem hta') (Array.getElem?_eq_getElem hta)
      · refine ⟨undef, ?_, ?_⟩
        · rw [Array.getElem?_append, if_neg hta, Array.getElem?_replicate, if_pos (by omega)]
        · rw [List.getElem?_eq_none (by rw [hv.1]; omega)]
          exact .junk _
    cases hl : lk t (initT 0 args) <;> rw [hl] at hget <;> first | exact hget | (obtain ⟨v, _, hv⟩ := hget; exact absurd hv VR.notW)
  · intro t ht
    rw [lk_init]
    simp only [Nat.zero_le, if_true, Nat.sub_zero]
    rw [List.getElem?_eq_none (by omega)]
    rfl
  · rintro e a' w' ⟨hd, tm, hp', nx', C', S', hq, hs', ht', he', hle', hw'⟩
    have fin : formK k keep fs rs tm hp' nx' (fun vs hp nx => ∃ v' hp' nx', leT (packV vs) v' ∧ leH hp hp' ∧ nx ≤ nx' ∧ K v' hp' nx') →
        a'.defers = [] ∧ ∃ v, (results fn a'.tmps).run P w' = .ok v w' ∧ ∃ v', (Ending.returned v) = .returned v' ∧ ∃ vv hp2 nx2 C2 S2, K vv hp2 nx2 ∧ HSat hp2 nx2 C2 S2 w' ∧ VR w'.heap C2 nx2 vv v' ∧ Ext k C C2 S S2 w w' ∧ k ≤ nx2 := by
      intro hf
      obtain ⟨vs, hp2, nx2, C2, S2, ⟨v', hp3, nx3, l1, l2, l3, hK⟩, g2, g3, g4, g5⟩ := formK_ok hle' hs' ht' hw' hf
      refine ⟨hd, _, hres _ _, _, rfl, v', hp3, nx3, C2, S2, hK, ?_, ?_, he'.trans g4, by omega⟩
      · exact ⟨(HR.le g2.jj l2 g2.hr).bound l3, g2.lt, g2.jlt, g2.jj⟩
      · have hv1 : VR w'.heap C2 nx2 (packV vs) (packC (rs.map fun t => a'.tmps.getD t undef)) := by
          have hlen : vs.length = (rs.map fun t => a'.tmps.getD t undef).length := by simpa using g3.1
          generalize (rs.map fun t => a'.tmps.getD t undef) = l at g3 hlen
          match vs, l, hlen, g3 with
          | [v], [x], _, g3 => exact g3.2 0 v x rfl rfl
          | [], [], _, g3 => exact .tup [] _ (by simp) (fun i x v h => by simp at h)
          | a :: b :: r, x :: y :: s, _, g3 => exact .tup _ _ g3.1 g3.2
        have := (VR.leT g2.jj l1 hv1).mono (C' := C2) (B' := nx3) (fun p b h => ⟨h, rfl⟩) (fun _ _ => rfl) l3
        exact this
    cases e with
    | normal => exact fin hq
    | ret => exact fin hq
    | _ => cases hq

def zipT : List Nat → List V → Tm
  | t :: l, v :: vs => (t, v) :: zipT l vs
  | _, _ => []

def zipK : List Nat → List V → (Tm → Prop) → Prop
  | t :: l, v :: vs, K => fV v fun v => zipK l vs fun tm => K ((t, v) :: tm)
  | _, _, K => K []

theorem zipK_eq (l : List Nat) (vs : List V) (K : Tm → Prop) : zipK l vs K = K (zipT l vs) := by
  induction l generalizing vs K with
  | nil => rfl
  | cons t l ih =>
    cases vs with
    | nil => rfl
    | cons v vs => simp only [zipK, fV_eq, ih, zipT]

def allLt (nt : Nat) : List Nat → Bool
  | [] => true
  | t :: l => Nat.blt t nt && allLt nt l

theorem wp_loop_fam {c : Code} {Q : Exit → Act → World → Prop} {a : Act} {w : World} (I : Nat → Act → World → Prop) (n : Nat) (h₀ : I n a w)
    (round : ∀ n a w, I n a w → c.wp P (Exit.then (fun a' w' => ∃ m, m < n ∧ I m a' w') Q) a w) : (Code.loop c).wp P Q a w := by
  classical
  have hex : ∀ a w, (∃ n, I n a w) → ∃ n, I n a w ∧ ∀ m, I m a w → n ≤ m := by
    intro a w ⟨n, h⟩
    induction n using Nat.strongRecOn with
    | _ n ih =>
      by_cases hm : ∃ m, m < n ∧ I m a w
      · obtain ⟨m, hlt, hm⟩ := hm
        exact ih m hlt hm
      · exact ⟨n, h, fun m hI => by
          by_cases hlt : m < n
          · exact absurd ⟨m, hlt, hI⟩ hm
          · omega⟩
  let μ : Act → World → Nat := fun a w => if h : ∃ n, I n a w then (hex a w h).choose else 0
  have hμ : ∀ a w, (∃ n, I n a w) → I (μ a w) a w ∧ ∀ m, I m a w → μ a w ≤ m := by
    intro a w h
    have := (hex a w h).choose_spec
    simp only [μ, dif_pos h]
    exact this
  refine wp_loop (fun a w => ∃ n, I n a w) μ ⟨n, h₀⟩ (fun a w h => ?_)
  obtain ⟨h1, _⟩ := hμ a w h
  refine wp_mono (round _ a w h1) ?_
  intro e a' w' hq
  cases e with
  | normal =>
    obtain ⟨m, hlt, hI⟩ := hq
    exact ⟨⟨m, hI⟩, Nat.lt_of_le_of_lt ((hμ a' w' ⟨m, hI⟩).2 m hI) hlt⟩
  | _ => exact hq

/-- a loop, out of a family of states: live slots' values, things, how many names -/
theorem loop_rule {tab : Tab} (hT : TabOk P tab) (hm : P.follows .mixedOrders = true) {ar : Nat} {c : Code} {Q : PostC} {tm : Tm} {hp : Hp} {nx : Nat} (sl keep : List Nat) (fs : List Fix) {T : Type _} (I : T → List V) (H : T → Hp) (N : Nat) (μ : T → Nat) (t0 : T)
    (hnt : allLt nt sl = true) (harN : Nat.ble ar N = true)
    (h0 : formK ar keep fs sl tm hp nx fun vs hp nx => leTs vs (I t0) ∧ leH hp (H t0) ∧ nx ≤ N)
    (hb : ∀ t, zipK sl (I t) fun tm => awp P tab nt ar c (fun e tm hp nx => match e with
      | .normal => formK ar keep fs sl tm hp nx fun vs hp nx => ∃ t', μ t' < μ t ∧ leTs vs (I t') ∧ leH hp (H t') ∧ nx ≤ N
      | e => Q e tm hp nx) tm (H t) N) : LoopOb P nt ar c Q tm hp nx := by
  constructor
  intro C S w a hd har hs ht hw
  have harN' : ar ≤ N := Nat.le_of_ble_eq_true harN
  have hsl : ∀ t ∈ sl, t < nt := by
    have : ∀ sl : List Nat, allLt nt sl = true → ∀ t ∈ sl, t < nt := by
      intro sl
      induction sl with
      | nil => intro _ t ht; cases ht
      | cons x l ih =>
        intro h t ht
        simp only [allLt, Bool.and_eq_true] at h
        simp only [List.mem_cons] at ht
        rcases ht with rfl | ht
        · have := h.1; rwa [Nat.blt_eq] at this
        · exact ih h.2 t ht
    exact this sl hnt
  -- values of slots, back as slots
  have back : ∀ {C : Cx} {B : Nat} {h : Array Obj} {tmc : Array Value} {vs : List V}, tmc.size = nt → LR h C B vs (sl.map (fun t => tmc.getD t undef)).toArray → TSat (zipT sl vs) nt C B h tmc ∧ noW (zipT sl vs) = true := by
    intro C B h tmc vs hsz hv
    have hv' : LRo h C B vs (sl.map (fun t => tmc.getD t undef)) := ⟨by simpa using hv.1, fun i x v hx hv' => hv.2 i x v hx (by simpa using hv')⟩
    clear hv
    have : ∀ (sl : List Nat) (vs : List V), (∀ t ∈ sl, t < nt) → LRo h C B vs (sl.map (fun t => tmc.getD t undef)) → (∀ t, t < nt → ∃ v, tmc[t]? = some v ∧ VR h C B (lk t (zipT sl vs)) v) ∧ (∀ t, nt ≤ t → lk t (zipT sl vs) = .junk) ∧ noW (zipT sl vs) = true := by
      intro sl
      induction sl with
      | nil =>
        intro vs _ _
        exact ⟨fun t ht => ⟨tmc[t], by simp [hsz, ht], .junk _⟩, fun _ _ => rfl, rfl⟩
      | cons x l ih =>
        intro vs hlt hv
        cases vs with
        | nil => have := hv.1; simp at this
        | cons v vs =>
          obtain ⟨i1, i2, i3⟩ := ih vs (fun t ht => hlt t (by simp [ht])) ⟨by have := hv.1; simpa using this, fun j a b ha hb => hv.2 (j + 1) a b (by simpa using ha) (by simpa using hb)⟩
          have hxv : VR h C B v (tmc.getD x undef) := hv.2 0 v _ rfl rfl
          have hxlt := hlt x (by simp)
          refine ⟨fun t ht => ?_, fun t ht => ?_, ?_⟩
          · simp only [zipT, lk]
            by_cases he : x = t
            · subst he
              simp only [Nat.beq_refl, cond_true]
              exact ⟨tmc.getD x undef, by simp [Array.getD_eq_getD_getElem?, hsz, ht], hxv⟩
            · rw [beq_ne he]
              exact i1 t ht
          · simp only [zipT, lk]
            rw [beq_ne (by omega)]
            exact i2 t ht
          · simp only [zipT, noW, i3, Bool.and_true, Bool.not_eq_true']
            cases v <;> first | rfl | exact absurd hxv VR.notW
    obtain ⟨h1, h2, h3⟩ := this sl vs hsl hv'
    refine ⟨⟨hsz, fun t ht => ?_, h2⟩, h3⟩
    have := h1 t ht
    cases hl : lk t (zipT sl vs) <;> rw [hl] at this <;> first | exact this | (obtain ⟨v, _, hv⟩ := this; exact absurd hv VR.notW)
  let Inv : Nat → Act → World → Prop := fun n a' w' => ∃ t, μ t = n ∧ a'.defers = [] ∧ ∃ C' S', HSat (H t) N C' S' w' ∧ TSat (zipT sl (I t)) nt C' N w'.heap a'.tmps ∧ noW (zipT sl (I t)) = true ∧ Ext ar C C' S S' w w'
  have into : ∀ {tm : Tm} {hp : Hp} {nx : Nat} {C1 : Cx} {S1 : Nat → Prop} {w1 : World} {a1 : Act} (X : T → Prop) {K : List V → Hp → Nat → Prop}, (∀ vs hp nx, K vs hp nx → ∃ t', X t' ∧ leTs vs (I t') ∧ leH hp (H t') ∧ nx ≤ N) → ar ≤ nx → HSat hp nx C1 S1 w1 → TSat tm nt C1 nx w1.heap a1.tmps → noW tm = true → Ext ar C C1 S S1 w w1 → a1.defers = [] →
      formK ar keep fs sl tm hp nx K → ∃ t', X t' ∧ Inv (μ t') a1 w1 := by
    intro tm hp nx C1 S1 w1 a1 X K hK har hs ht hw he hd hk
    obtain ⟨vs, hp2, nx2, C2, S2, hk2, g2, g3, g4, g5⟩ := formK_ok har hs ht hw hk
    obtain ⟨t', x1, l1, l2, l3⟩ := hK _ _ _ hk2
    have hl := (LR.leTs g2.jj l1 g3).mono (C' := C2) (B' := N) (fun p b h => ⟨h, rfl⟩) (fun _ _ => rfl) l3
    obtain ⟨b1, b2⟩ := back ht.size hl
    exact ⟨t', x1, t', rfl, hd, C2, S2, ⟨(HR.le g2.jj l2 g2.hr).bound l3, g2.lt, g2.jlt, g2.jj⟩, b1, b2, he.trans g4⟩
  obtain ⟨_, _, hI0⟩ := into (fun t' => t' = t0) (fun vs hp nx h => ⟨t0, rfl, h⟩) har hs ht hw (.refl _ _ _ _) hd h0
  refine wp_loop_fam Inv _ hI0 ?_
  rintro n a1 w1 ⟨t, rfl, hd1, C1, S1, hs1, ht1, hw1, he1⟩
  have hb1 := hb t
  rw [zipK_eq] at hb1
  refine wp_mono (awp_good hT hm c _ _ _ _ hb1 C1 S1 w1 a1 hd1 harN' hs1 ht1 hw1) ?_
  rintro e a2 w2 ⟨hd2, tm2, hp2, nx2, C2, S2, hq, hs2, ht2, he2, hle2, hw2⟩
  cases e with
  | normal =>
    obtain ⟨t', hlt, hI⟩ := into (fun t' => μ t' < μ t) (fun vs hp nx h => h) hle2 hs2 ht2 hw2 (he1.trans he2) hd2 hq
    exact ⟨μ t', hlt, hI⟩
  | _ => exact ⟨hd2, tm2, hp2, nx2, C2, S2, hq, hs2, ht2, he1.trans he2, hle2, hw2⟩

end
end Go.Sx
end

section
namespace Go.Sx

theorem eqsOk_of {P : Program} {t : TypeId} {fields : Array Field} (h1 : (P.stoodInHeld t || P.eqGuardType P.depth t) = false) (hu : P.underlying t = some (.struct fields)) (hn : fields.toList.all (fun f => f.name != "_") = true) : EqsOk P t := by
  simp only [Bool.or_eq_false_iff] at h1
  refine ⟨h1.1, h1.2, fun f hf => ?_⟩
  simp only [Program.fieldsOf, hu] at hf
  have := List.all_eq_true.1 hn f hf
  simpa using this

inductive Tr : Type
  | leaf
  | node (k : Nat) (ti : TI) (l r : Tr)

def findT (t : Nat) : Tr → Option TI
  | .leaf => none
  | .node k ti l r => bif Nat.beq t k then some ti else bif Nat.blt t k then findT t l else findT t r

/-- a row of the table is right -/
def RowOk (P : Program) (t : TypeId) (ti : TI) : Prop := ∃ i d z, P.types[t]? = some i ∧ P.underlying t = some d ∧ i.size = ti.size ∧ i.bytes = ti.bytes ∧ DescOk ti.desc d ∧
  i.zero = some z ∧ z.cells.toList = ti.zero ∧ (ti.zero.length = ti.size ∧ ∀ v ∈ ti.zero, v.oneCell' = true) ∧ (∀ fs, ti.desc = .struct fs → ∀ p ∈ fs, ∃ i', P.types[p.2]? = some i') ∧ (ti.eqs = true → EqsOk P t)

def Tr.All (P : Program) : Tr → Prop
  | .leaf => True
  | .node k ti l r => RowOk P k ti ∧ l.All P ∧ r.All P

theorem Tr.All.mk {P : Program} {k : Nat} {ti : TI} {l r : Tr} (h : RowOk P k ti) (hl : l.All P) (hr : r.All P) : (Tr.node k ti l r).All P := ⟨h, hl, hr⟩

theorem Tr.All.no {P : Program} : Tr.leaf.All P := trivial

theorem info_of_type {P : Program} {t : TypeId} {i : TypeInfo} (h : P.types[t]? = some i) : P.info? t = some i := by
  have hlt : t < P.types.size := by
    have := Array.getElem?_eq_some_iff.1 h
    exact this.1
  simp only [Tables.info?]
  rw [if_pos hlt]
  exact h

theorem tabOk_tree {P : Program} {tr : Tr} (h : tr.All P) : TabOk P (fun t => findT t tr) := by
  intro t ti hf
  simp only at hf
  have : ∀ tr : Tr, tr.All P → findT t tr = some ti → RowOk P t ti := by
    intro tr
    induction tr with
    | leaf => intro _ h; cases h
    | node k ti' l r ihl ihr =>
      intro ha hf
      simp only [findT] at hf
      cases h1 : Nat.beq t k <;> rw [h1] at hf
      · simp only [cond_false] at hf
        cases h2 : Nat.blt t k <;> rw [h2] at hf
        · exact ihr ha.2.2 hf
        · exact ihl ha.2.1 hf
      · simp only [cond_true, Option.some.injEq] at hf
        have := Nat.eq_of_beq_eq_true h1
        subst this; subst hf
        exact ha.1
  obtain ⟨i, d, z, h1, h2, h3, h4, h5, h6, h7, h8, h9, h10⟩ := this tr h hf
  exact ⟨i, d, z, info_of_type h1, h2, h3, h4, h5, h6, h7, h8, fun fs hfs p hp => by obtain ⟨i', hi⟩ := h9 fs hfs p hp; exact ⟨i', info_of_type hi⟩, h10⟩

section
variable {P : Program} {fn : Func}
theorem res0 (h : fn.results = #[]) : ∀ tmps w, (results fn tmps).run P w = .ok (packC (([] : List Nat).map fun t => tmps.getD t undef)) w := by
  intro tmps w
  simp [results, h, packC]
theorem res1 {t : Tmp} (h : fn.results = #[.tmp t]) : ∀ tmps w, (results fn tmps).run P w = .ok (packC ([t].map fun t => tmps.getD t undef)) w := fun tmps w => results_tmp h tmps P w
theorem res2 {t u : Tmp} (h : fn.results = #[.tmp t, .tmp u]) : ∀ tmps w, (results fn tmps).run P w = .ok (packC ([t, u].map fun t => tmps.getD t undef)) w := by
  intro tmps w
  simp [results, h, packC]
theorem res3 {t u v : Tmp} (h : fn.results = #[.tmp t, .tmp u, .tmp v]) : ∀ tmps w, (results fn tmps).run P w = .ok (packC ([t, u, v].map fun t => tmps.getD t undef)) w := by
  intro tmps w
  simp [results, h, packC]
end

/-- one part of a slice that is built -/
theorem build1 {te : Nat} {α : Type} {enc : α → V} {i : Nat} {v : V} (x : α) (hi : i = 0) (h1 : (enc x).cells.length = te) (h2 : V.known (enc x) = true) (h3 : V.isImm (enc x) = true) (h4 : v = enc x) :
    ∀ (j : Nat) y, [x][j]? = some y → ([(i, v)][j]?).map (·.1) = some j ∧ (enc y).cells.length = te ∧ V.known (enc y) = true ∧ V.isImm (enc y) = true ∧ leP ([(i, v)][j]?) (enc y) := by
  intro j y hy
  cases j with
  | zero => simp at hy; subst hy; subst hi; subst h4; exact ⟨rfl, h1, h2, h3, leA_refl _⟩
  | succ j => simp at hy

theorem build1_le {te : Nat} {α : Type} {enc : α → V} {i : Nat} {v : V} (x : α) (hi : i = 0) (h1 : (enc x).cells.length = te) (h2 : V.known (enc x) = true) (h3 : V.isImm (enc x) = true) (h4 : leA v (enc x)) :
    ∀ (j : Nat) y, [x][j]? = some y → ([(i, v)][j]?).map (·.1) = some j ∧ (enc y).cells.length = te ∧ V.known (enc y) = true ∧ V.isImm (enc y) = true ∧ leP ([(i, v)][j]?) (enc y) := by
  intro j y hy
  cases j with
  | zero => simp at hy; subst hy; subst hi; exact ⟨rfl, h1, h2, h3, h4⟩
  | succ j => simp at hy

end Go.Sx
end

/- Soundness of the operations that ask nothing of memory but may fail; no condition. Soundness of the operations that ask nothing of memory but may fail, together; no condition. Soundness of the operations on memory: words on worlds; loads, stores, new blocks; no condition. Soundness of the operations on memory; no condition. Weaker values: what they say of the machine; no condition. Soundness of what makes new blocks, and of append; no condition. Soundness of make, append, conversions and readings; no condition. -/
import Derived.Laws.Append
import Derived.Test.YtlbbdkecjpaglaaFaa

set_option linter.all false

section
namespace Go.Sx

section
variable {P : Program} {tab : Tab} {w0 : World} {C : Cx} {B : Nat}

theorem LR.set {h : Array Obj} {cs : List V} {arr : Array Value} (e : LR h C B cs arr) (n : Nat) {x : V} {v : Value} (hx : VR h C B x v) : LR h C B (cs.set n x) (arr.setIfInBounds n v) := by
  refine ⟨by simp [e.1], fun i y u hy hu => ?_⟩
  by_cases hi : n = i
  · subst hi
    by_cases hlt : n < arr.size
    · have : n < cs.length := by rw [e.1]; exact hlt
      simp [this] at hy
      simp [hlt] at hu
      subst hy hu
      exact hx
    · simp [hlt] at hu
  · rw [List.getElem?_set_ne hi] at hy
    rw [Array.getElem?_setIfInBounds_ne hi] at hu
    exact e.2 i y u hy hu

theorem cells_LR {h : Array Obj} {x : V} {v : Value} (hk : V.known x = true) (e : VR h C B x v) : LR h C B x.cells v.cells := by
  cases x with
  | agg cs =>
    obtain ⟨arr, rfl, hl⟩ := e.agg_inv
    exact hl
  | _ =>
    simp only [V.known, V.flat] at hk
    first
      | (cases hk; done)
      | (have hv : v.cells = #[v] := by
          cases e with
          | imm x v e => cases e <;> rfl
          | _ => rfl
         rw [hv]
         exact ⟨rfl, fun i y u hy hu => by
          cases i with
          | zero => simp [V.cells] at hy; simp at hu; subst hy hu; exact e
          | succ i => simp [V.cells] at hy⟩)

theorem flat_one {h : Array Obj} {x : V} {v : Value} (hk : V.flat x = true) (e : VR h C B x v) : v.oneCell' = true := by
  cases e with
  | imm x v e => cases e <;> first | rfl | cases hk
  | junk => cases hk
  | agg => cases hk
  | tup => cases hk
  | _ => rfl

/-- a field's value laid into an array -/
theorem fold_LR {h : Array Obj} : ∀ (vs : List V) (us : List Value) (o j : Nat) (cs : List V) (arr : Array Value), LR h C B cs arr → vs.length = us.length →
    (∀ (i : Nat) (x : V) (u : Value), vs[i]? = some x → us[i]? = some u → VR h C B x u) →
    LR h C B (sets (o + j) vs cs) ((us.zipIdx j).foldl (fun cs (c, j) => cs.setIfInBounds (o + j) c) arr)
  | [], us, o, j, cs, arr, e, hl, hv => by
    cases us with
    | nil => exact e
    | cons _ _ => simp at hl
  | x :: vs, us, o, j, cs, arr, e, hl, hv => by
    cases us with
    | nil => simp at hl
    | cons u us =>
      simp only [sets, List.zipIdx_cons, List.foldl_cons]
      have := fold_LR vs us o (j + 1) (cs.set (o + j) x) (arr.setIfInBounds (o + j) u) (e.set (o + j) (hv 0 x u rfl rfl)) (by simpa using hl) (fun i x u hx hu => hv (i + 1) x u hx hu)
      rw [Nat.add_assoc] 
      exact this

theorem sets_length : ∀ (vs : List V) (n : Nat) (cs : List V), (sets n vs cs).length = cs.length
  | [], _, _ => rfl
  | x :: vs, n, cs => by simp only [sets]; rw [sets_length vs]; simp

theorem evParts_ok {tm : Tm} {nt : Nat} {h : Array Obj} {a : Act} {al : List (Nat × Bool)} (ht : TSat tm nt C B h a.tmps) (hg : GOk al a.tmps) (ps : List (Nat × Operand)) :
    (evParts al tm ps).map (·.1) = ps.map (·.1) ∧ ∀ (i : Nat) x y, (evParts al tm ps)[i]? = some x → ps[i]? = some y → VR h C B x.2 (a.eval y.2) := by
  induction ps with
  | nil => exact ⟨rfl, by simp [evParts]⟩
  | cons p l ih =>
    obtain ⟨i, x⟩ := p
    refine ⟨by simp [evParts, ih.1], fun j u v hu hv => ?_⟩
    cases j with
    | zero => simp [evParts] at hu hv; subst hu hv; exact evg_ok ht hg x
    | succ j => simp only [evParts, List.getElem?_cons_succ] at hu hv; exact ih.2 j u v hu hv

/-- parts into an array -/
theorem fill_ok {h : Array Obj} {pl pl' : Nat → Option (Nat × Nat)} (hpl : ∀ i q, pl i = some q → pl' i = some q) : ∀ (ps : List (Nat × V)) (us : List (Nat × Value)) (cs : List V) (arr : Array Value) (K : List V → Prop), LR h C B cs arr →
    ps.map (·.1) = us.map (·.1) → (∀ (i : Nat) x u, ps[i]? = some x → us[i]? = some u → VR h C B x.2 u.2) → fillK pl ps cs K →
    ∃ cs' arr', K cs' ∧ LR h C B cs' arr' ∧ Instr.fill pl' arr us = some arr'
  | [], us, cs, arr, K, e, hl, hv, hk => by
    cases us with
    | nil => exact ⟨cs, arr, hk, e, rfl⟩
    | cons _ _ => simp at hl
  | (i, x) :: ps, us, cs, arr, K, e, hl, hv, hk => by
    cases us with
    | nil => simp at hl
    | cons u us =>
      obtain ⟨i', u⟩ := u
      simp only [List.map_cons, List.cons.injEq] at hl
      obtain ⟨rfl, hl⟩ := hl
      simp only [fillK] at hk
      cases hp : pl i with
      | none => rw [hp] at hk; cases hk
      | some q =>
        obtain ⟨o, n⟩ := q
        rw [hp] at hk
        simp only at hk
        cases hc : (V.known x && (Nat.beq x.cells.length n && Nat.ble (o + n) cs.length)) with
        | false => rw [hc] at hk; cases hk
        | true =>
          rw [hc] at hk
          simp only [cond_true, setsK_eq] at hk
          simp only [Bool.and_eq_true] at hc
          obtain ⟨hk1, hn, hle⟩ := hc
          have hn' := Nat.eq_of_beq_eq_true hn
          have hle' := Nat.le_of_ble_eq_true hle
          have hxu := cells_LR hk1 (hv 0 _ _ rfl rfl)
          have hsz : u.cells.size = n := by rw [← hxu.1]; exact hn'
          have e2 := fold_LR x.cells u.cells.toList o 0 cs arr e (by simp [hxu.1]) (fun j y c hy hc => hxu.2 j y c hy (by simpa using hc))
          obtain ⟨cs', arr', h1, h2, h3⟩ := fill_ok hpl ps us _ _ K e2 hl (fun j y c hy hc => hv (j + 1) y c hy hc) (by simpa using hk)
          refine ⟨cs', arr', h1, h2, ?_⟩
          simp only [Instr.fill, hpl i _ hp]
          rw [if_neg]
          · rw [← h3]
            congr 1
            rw [← Array.foldl_toList]
            simp
          · have := e.1
            simp only [ne_eq, Bool.or_eq_true, decide_eq_true_eq]
            omega

theorem ofVals_LR {h : Array Obj} (z : Value) (l : List Value) (hz : z.cells.toList = l) : LR h C B (ofVals l) z.cells := by
  have e : ∀ l : List Value, (ofVals l).length = l.length ∧ ∀ (i : Nat) x v, (ofVals l)[i]? = some x → l[i]? = some v → VR h C B x v := by
    intro l
    induction l with
    | nil => exact ⟨rfl, by simp [ofVals]⟩
    | cons u l ih =>
      refine ⟨by simp [ofVals, ih.1], fun i x v hx hv => ?_⟩
      cases i with
      | zero => simp [ofVals] at hx hv; subst hx hv; exact ofVal_ok u
      | succ i => simp only [ofVals, List.getElem?_cons_succ] at hx hv; exact ih.2 i x v hx hv
  obtain ⟨h1, h2⟩ := e l
  refine ⟨by rw [h1, ← hz]; simp, fun i x v hx hv => h2 i x v hx ?_⟩
  rw [← hz]
  simpa using hv

theorem run_mapM_places (g : Field → Nat × Nat) (l : List Field) (hl : ∀ f ∈ l, ∀ w, (sizeOf f.type).run P w = .ok (g f).2 w) (hg : ∀ f ∈ l, (g f).1 = f.offset) (w : World) :
    (l.mapM fun f => (do pure (f.offset, ← sizeOf f.type) : Sem (Nat × Nat))).run P w = .ok (l.map g) w := by
  induction l with
  | nil => rfl
  | cons f l ih =>
    have h1 := hl f (by simp) w
    have h2 := ih (fun f hf => hl f (by simp [hf])) (fun f hf => hg f (by simp [hf]))
    simp only [List.mapM_cons, Sem.run_bind, h1, Result.andThen_ok, Sem.run_pure]
    rw [h2]
    have h3 := hg f (by simp)
    simp only [Result.andThen_ok, List.map_cons]
    rw [← h3]

theorem oBuild_ok (hT : TabOk P tab) {h : Array Obj} {t : TypeId} {ps : List (Nat × V)} {us : List (Nat × Value)} {K : V → Prop} (hl : ps.map (·.1) = us.map (·.1))
    (hv : ∀ (i : Nat) x u, ps[i]? = some x → us[i]? = some u → VR h C B x.2 u.2) (hk : oBuild tab t ps K) :
    ∃ v val, (∀ w, (Instr.build t us.toArray).run P w = .ok val w) ∧ VR h C B v val ∧ K v := by
  unfold oBuild at hk
  cases ht : tab t with
  | none => rw [ht] at hk; cases hk
  | some ti =>
    obtain ⟨s1, s2, D, zs, q5⟩ := ti
    rw [ht] at hk
    obtain ⟨i, d, z, hi, hu, hsz0, hby0, hdesc, hz, hzl, hzlen, hfs, heq5⟩ := hT t _ ht
    have hzero := fun w => run_zero (P := P) hi hz w
    have hLR := ofVals_LR (h := h) (C := C) (B := B) z zs hzl
    cases D <;> first | (cases hk; done) | skip
    case struct fs =>
      simp only [fL_eq] at hk
      simp only [DescOk] at hdesc
      obtain ⟨fields, rfl, hfl⟩ := hdesc
      have hinfo : ∀ f ∈ fields.toList, ∃ i', P.info? f.type = some i' := by
        intro f hf
        refine hfs fs rfl (f.offset, f.type) ?_
        rw [← hfl]
        exact List.mem_map.2 ⟨f, hf, rfl⟩
      let g : Field → Nat × Nat := fun f => (f.offset, ((P.info? f.type).map (·.size)).getD 0)
      have hmap : ∀ w, (fields.mapM fun f => (do pure (f.offset, ← sizeOf f.type) : Sem (Nat × Nat))).run P w = .ok (fields.map g) w := by
        intro w
        rw [Array.mapM_eq_mapM_toList]
        simp only [Sem.run_map]
        have key := run_mapM_places (P := P) g fields.toList (fun f hf w => by
          obtain ⟨i', hi'⟩ := hinfo f hf
          rw [run_size hi']
          simp [g, hi']) (fun f _ => rfl) w
        rw [key]
        simp only [Result.andThen_ok]
        rw [← Array.toList_map, Array.toArray_toList]
      have hpl : ∀ (j : Nat) (q : Nat × Nat), (fun i => match foffs i fs with
          | some (o, t') => match tab t' with
            | some ti => some (o, ti.size)
            | none => none
          | none => none) j = some q → (fun x => Option.map g fields[x]?) j = some q := by
        intro j q hq
        simp only [foffs_eq] at hq
        cases hf : fs[j]? with
        | none => rw [hf] at hq; cases hq
        | some p =>
          obtain ⟨o, t'⟩ := p
          rw [hf] at hq
          simp only at hq
          cases ht' : tab t' with
          | none => rw [ht'] at hq; cases hq
          | some ti' =>
            rw [ht'] at hq
            cases hq
            obtain ⟨i', _, _, hi', _, hsz', _⟩ := hT t' _ ht'
            rw [← hfl] at hf
            simp only [List.getElem?_map, Array.getElem?_toList] at hf
            show Option.map g fields[j]? = _
            cases hq : fields[j]? with
            | none => rw [hq] at hf; cases hf
            | some fld =>
              rw [hq] at hf
              simp at hf
              obtain ⟨rfl, rfl⟩ := hf
              simp [g, hi', hsz']
      obtain ⟨cs', arr', h1, h2, h3⟩ := fill_ok hpl ps us _ _ _ hLR hl hv hk
      refine ⟨.agg cs', .agg arr', fun w => ?_, .agg _ _ h2.1 h2.2, h1⟩
      simp only [Instr.build, Sem.run_bind, hzero, Result.andThen_ok, run_und hu, hmap]
      simp [h3]
    case arr n e =>
      simp only at hk
      cases he : tab e with
      | none => rw [he] at hk; cases hk
      | some te =>
        rw [he] at hk
        simp only [fL_eq] at hk
        simp only [DescOk] at hdesc
        subst hdesc
        obtain ⟨ie, _, _, hie, _, hsz', _⟩ := hT e _ he
        obtain ⟨cs', arr', h1, h2, h3⟩ := fill_ok (pl' := fun i => some (i * te.size, te.size)) (fun j q hq => hq) ps us _ _ _ hLR hl hv hk
        refine ⟨.agg cs', .agg arr', fun w => ?_, .agg _ _ h2.1 h2.2, h1⟩
        simp only [Instr.build, Sem.run_bind, hzero, Result.andThen_ok, run_und hu, run_size hie, hsz']
        simp [h3]

/-- the bounds of a slice expression -/
theorem bnd_ok {n cap : Nat} {isS : Bool} {lo hi mx : Option V} {lov hiv mxv : Option Value} {K : Nat → Nat → Prop} {h : Array Obj} (hn : n ≤ cap) (hl : ∀ x, lo = some x → ∃ v, lov = some v ∧ VR h C B x v) (hl' : lo = none → lov = none)
    (hh : ∀ x, hi = some x → ∃ v, hiv = some v ∧ VR h C B x v) (hh' : hi = none → hiv = none)
    (hm : ∀ x, mx = some x → ∃ v, mxv = some v ∧ VR h C B x v) (hm' : mx = none → mxv = none) (hk : bnd n lo hi mx K) :
    ∃ l r m, (∀ w, (Instr.sliceBounds isS n cap lov hiv mxv).run P w = .ok (l, r, m) w) ∧ l ≤ r ∧ r ≤ n ∧ r ≤ m ∧ m ≤ cap ∧ (lo = none → l = 0) ∧ (hi = none → r = n) ∧ K l r := by
  unfold bnd at hk
  have main : ∀ (l r m : Int), numOf 0 lo = some l → numOf n hi = some r → numOf n mx = some m → (mx = none ∨ hi ≠ none) → (0 ≤ l ∧ l ≤ r ∧ r ≤ m ∧ m ≤ (n : Int)) → K l.toNat r.toNat → 
      ∃ l r m, (∀ w, (Instr.sliceBounds isS n cap lov hiv mxv).run P w = .ok (l, r, m) w) ∧ l ≤ r ∧ r ≤ n ∧ r ≤ m ∧ m ≤ cap ∧ (lo = none → l = 0) ∧ (hi = none → r = n) ∧ K l r := by
    intro l r m el er em hmh hb hK
    have sb : ∀ (k : IntKind) (j : Int) (y : Nat) (c : BoundsCode) w, 0 ≤ j → j ≤ (y : Int) → (Instr.sliceBound (.int k j) y c).run P w = .ok j.toNat w := by
      intro k j y c w h0 h1
      simp [Instr.sliceBound, asIntOf, h0, h1]
    have lov' : (lov = none ∧ l = 0) ∨ ∃ k, lov = some (.int k l) := by
      cases lo with
      | none => cases el; exact .inl ⟨hl' rfl, rfl⟩
      | some x =>
        cases x <;> first | (cases el; done) | skip
        cases el
        obtain ⟨v, hv, hr⟩ := hl _ rfl
        exact .inr ⟨_, by rw [hv, hr.int_inv]⟩
    cases mx with
    | none =>
      rw [hm' rfl]
      cases em
      cases hi with
      | none =>
        rw [hh' rfl]
        cases er
        refine ⟨l.toNat, n, cap, fun w => ?_, by omega, by omega, by omega, Nat.le_refl _, ?_, fun _ => rfl, by simpa using hK⟩
        · rcases lov' with ⟨rfl, rfl⟩ | ⟨k, rfl⟩
          · rfl
          · simp only [Instr.sliceBounds, Sem.run_bind, Sem.run_pure, Result.andThen_ok, Option.isSome_none]
            simp [sb _ _ n .sliceB w hb.1 (by omega)]
        · intro e; subst e; cases el; rfl
      | some x =>
        cases x <;> first | (cases er; done) | skip
        cases er
        obtain ⟨v, hv, hr⟩ := hh _ rfl
        rw [hv, hr.int_inv]
        refine ⟨l.toNat, r.toNat, cap, fun w => ?_, by omega, by omega, by omega, Nat.le_refl _, ?_, fun e => (by cases e), hK⟩
        · rcases lov' with ⟨rfl, rfl⟩ | ⟨k, rfl⟩
          · simp only [Instr.sliceBounds, Sem.run_bind, Sem.run_pure, Result.andThen_ok, Option.isSome_none]
            rw [sb _ _ _ _ _ (by omega) (by omega)]
            rfl
          · simp only [Instr.sliceBounds, Sem.run_bind, Sem.run_pure, Result.andThen_ok, Option.isSome_none]
            rw [sb _ _ _ _ _ (by omega) (by omega)]
            simp [sb _ _ r.toNat .sliceB w hb.1 (by omega)]
        · intro e; subst e; cases el; rfl
    | some y =>
      cases y <;> first | (cases em; done) | skip
      cases em
      obtain ⟨vm, hvm, hrm⟩ := hm _ rfl
      rw [hvm, hrm.int_inv]
      cases hi with
      | none => exact absurd rfl (hmh.resolve_left (by intro e; cases e))
      | some x =>
        cases x <;> first | (cases er; done) | skip
        cases er
        obtain ⟨v, hv, hr⟩ := hh _ rfl
        rw [hv, hr.int_inv]
        refine ⟨l.toNat, r.toNat, m.toNat, fun w => ?_, by omega, by omega, by omega, by omega, ?_, fun e => (by cases e), hK⟩
        · rcases lov' with ⟨rfl, rfl⟩ | ⟨k, rfl⟩
          · simp only [Instr.sliceBounds, Sem.run_bind, Sem.run_pure, Result.andThen_ok, Option.isSome_some]
            rw [sb _ _ _ _ _ (by omega) (by omega)]
            simp only [Result.andThen_ok]
            rw [sb _ _ _ _ _ (by omega) (by omega)]
            rfl
          · simp only [Instr.sliceBounds, Sem.run_bind, Sem.run_pure, Result.andThen_ok, Option.isSome_some]
            rw [sb _ _ _ _ _ (by omega) (by omega)]
            simp only [Result.andThen_ok]
            rw [sb _ _ _ _ _ (by omega) (by omega)]
            simp [sb _ _ r.toNat .slice3C w hb.1 (by omega)]
        · intro e; subst e; cases el; rfl
  split at hk
  · cases hk
  · rename_i hne
    split at hk
    · rename_i l r m el er em
      refine main l r m el er em ?_ hk.1 hk.2
      cases mx with
      | none => exact .inl rfl
      | some y => exact .inr (fun e => hne y e rfl)
    · cases hk

end
end Go.Sx
end

section
namespace Go.Sx

section
variable {P : Program} {tab : Tab} {w0 : World} {C : Cx} {B : Nat}

theorem seg_length {α : Type} {lo hi : Option V} {l r : Nat} {xs : List α} (h1 : l ≤ r) (h2 : r ≤ xs.length) (e1 : lo = none → l = 0) (e2 : hi = none → r = xs.length) : (seg lo hi l r xs).length = r - l := by
  cases lo <;> cases hi <;> simp [seg]
  · have := e1 rfl; have := e2 rfl; omega
  · have := e1 rfl; omega
  · have := e2 rfl; omega
  · omega

theorem seg_get {α : Type} {lo hi : Option V} {l r : Nat} {xs : List α} (h1 : l ≤ r) (e1 : lo = none → l = 0) {i : Nat} {x : α} (h : (seg lo hi l r xs)[i]? = some x) : xs[l + i]? = some x := by
  cases lo <;> cases hi <;> simp [seg] at h
  · have := e1 rfl; subst this; simpa using h
  · have := e1 rfl; subst this
    rw [List.getElem?_take] at h
    split at h
    · simpa using h
    · cases h
  · exact h
  · rw [List.getElem?_take] at h
    split at h
    · exact h
    · cases h

theorem IR.isl_seg {h : Array Obj} {J : Bool → Nat → Prop} {p : Bool} {sz : Nat} {α : Type} {enc : α → V} {xs ys : List α} {b o l c' : Nat} {arr : Array Value} {ty : TypeId} {fz : Nat × Nat} {cv : Nat → Nat → Value}
    (hj : J p b) (hb : h[b]? = some (.cells arr ty fz))
    (hs : ∀ (i : Nat) (x : α), xs[i]? = some x → (enc x).cells.length = sz)
    (ha : ∀ (i : Nat) (x : α) (j : Nat) (y : V), xs[i]? = some x → (enc x).cells[j]? = some y → arr[o + (i * sz + j)]? = some (cv i j))
    (hv : ∀ (i : Nat) (x : α) (j : Nat) (y : V), xs[i]? = some x → (enc x).cells[j]? = some y → IR h J y (cv i j))
    (ho : ∀ (i : Nat) (x : α) (j : Nat) (y : V), xs[i]? = some x → (enc x).cells[j]? = some y → (cv i j).oneCell' = true)
    (hy : ∀ (i : Nat) x, ys[i]? = some x → xs[l + i]? = some x) (hc' : ys.length ≤ c') (q : Nat) (hq : ys = [] ∨ q = o + l * sz) : IR h J (.isl p sz enc ys) (.slice (some ⟨b, q, none⟩) ys.length c') := by
  refine .isl p sz enc ys b q c' arr ty fz (fun i j => cv (l + i) j) hj hb hc' (fun i x hx => hs (l + i) x (hy i x hx)) (fun i x j y hx hxy => ?_) (fun i x j y hx hxy => hv (l + i) x j y (hy i x hx) hxy) (fun i x j y hx hxy => ho (l + i) x j y (hy i x hx) hxy)
  rcases hq with rfl | rfl
  · simp at hx
  · have := ha (l + i) x j y (hy i x hx) hxy
    rw [← this]
    congr 1
    rw [Nat.add_mul]
    omega

theorem oSlice_ok (hT : TabOk P tab) {hp : Hp} {S : Nat → Prop} (hr : HR w0.heap C B hp S) {t : TypeId} {x : V} {vx : Value} {lo hi mx : Option V} {lov hiv mxv : Option Value} {K : V → Prop} (hx : VR w0.heap C B x vx)
    (hl : ∀ x, lo = some x → ∃ v, lov = some v ∧ VR w0.heap C B x v) (hl' : lo = none → lov = none)
    (hh : ∀ x, hi = some x → ∃ v, hiv = some v ∧ VR w0.heap C B x v) (hh' : hi = none → hiv = none)
    (hm : ∀ x, mx = some x → ∃ v, mxv = some v ∧ VR w0.heap C B x v) (hm' : mx = none → mxv = none) (hk : oSlice tab t hp x lo hi mx K) :
    ∃ v val, (∀ w, (Instr.sliceAt t vx lov hiv mxv).run P w = .ok val w) ∧ VR w0.heap C B v val ∧ K v := by
  unfold oSlice at hk
  cases ht : tab t with
  | none => rw [ht] at hk; cases hk
  | some ti =>
    obtain ⟨s1, s2, D, zs, q5⟩ := ti
    rw [ht] at hk
    obtain ⟨i0, d, z, hi0, hu, hsz0, hby0, hdesc, hz, hzl, hzlen, hfs⟩ := hT t _ ht
    cases D <;> first | (cases hk; done) | skip
    case str =>
      simp only [DescOk] at hdesc
      subst hdesc
      cases x <;> first | (cases hk; done) | skip
      rename_i s
      cases mx <;> first | (cases hk; done) | skip
      obtain ⟨sv, rfl, hs⟩ := hx.str_inv
      have hlen : sv.size = s.length := by rw [Go.Lib.size_eq, hs]
      obtain ⟨l, r, m, h1, h2, h3, h4, h5, h6, h7, h8⟩ := bnd_ok (P := P) (isS := false) (Nat.le_refl _) hl hl' hh hh' hm hm' hk
      refine ⟨_, .string (sv.extract l r), fun w => ?_, .imm _ _ (.str _ _ ?_), h8⟩
      · rw [hm' rfl] at h1 ⊢
        simp only [Instr.sliceAt, Instr.slice, Sem.run_bind, run_und hu, Result.andThen_ok, Option.isSome_none, Bool.false_eq_true, if_false, hlen]
        have := h1 w
        simp [this]
      · rw [Go.Lib.extract_data, hs]
        cases lo <;> cases hi <;> simp [seg]
        · have := h6 rfl; have e7 := h7 rfl; subst_vars; rw [Nat.sub_zero, List.drop_zero, List.take_of_length_le (by simp)]
        · have := h6 rfl; subst this; simp
        · have := h7 rfl; subst this; rw [List.take_of_length_le]; simp
        · rw [List.drop_take]
    case slice e =>
      simp only at hk
      cases he : tab e with
      | none => rw [he] at hk; cases hk
      | some te =>
        rw [he] at hk
        simp only [DescOk] at hdesc
        subst hdesc
        obtain ⟨ie, _, _, hie, _, hsze, _⟩ := hT e _ he
        have run : ∀ (A : Option Addr) (n cap l r m : Nat), (∀ w, (Instr.sliceBounds true n cap lov hiv mxv).run P w = .ok (l, r, m) w) → ∀ w, (Instr.sliceAt t (.slice A n cap) lov hiv mxv).run P w = .ok (.slice (if m = l then A else A.map (·.add (l * te.size))) (r - l) (m - l)) w := by
          intro A n cap l r m h1 w
          simp only [Instr.sliceAt, Instr.slice, Sem.run_bind, run_und hu, Result.andThen_ok, h1, run_size hie, hsze, Sem.run_pure]
        cases x <;> first | (cases hk; done) | skip
        case nils =>
          have e := hx.nils_inv
          subst e
          obtain ⟨l, r, m, h1, h2, h3, h4, h5, h6, h7, h8⟩ := bnd_ok (P := P) (isS := true) (Nat.le_refl 0) hl hl' hh hh' hm hm' hk
          have : l = 0 := by omega
          have : r = 0 := by omega
          have : m = 0 := by omega
          subst_vars
          exact ⟨_, _, run none 0 0 _ _ _ h1, by simpa using .imm _ _ .nils, h8⟩
        case isl p sz α enc xs =>
          simp only at hk
          cases hsz : Nat.beq sz te.size <;> rw [hsz] at hk <;> first | (cases hk; done) | skip
          have hsz' := Nat.eq_of_beq_eq_true hsz
          subst hsz'
          simp only [cond_true] at hk
          rcases hx.isl_inv with ⟨rfl, ad, cap, had, rfl⟩ | ⟨b, o, cap, arr, ty, fz, cv, hj, hb, hc, hs, ha, hv, hone, rfl⟩
          · obtain ⟨l, r, m, h1, h2, h3, h4, h5, h6, h7, h8⟩ := bnd_ok (P := P) (isS := true) (Nat.zero_le cap) hl hl' hh hh' hm hm' hk
            simp at h3
            have hl0 : l = 0 := by omega
            have hr0 : r = 0 := by omega
            subst hl0; subst hr0
            refine ⟨_, _, run ad 0 cap _ _ _ h1, ?_, h8⟩
            have : seg lo hi 0 0 ([] : List α) = [] := by cases lo <;> cases hi <;> simp [seg]
            rw [this]
            refine .imm _ _ (.islNil _ _ _ _ _ ?_)
            intro hn
            by_cases hm0 : m = 0
            · omega
            · rw [if_neg hm0] at hn
              have := had (by simpa using hn)
              omega
          · obtain ⟨l, r, m, h1, h2, h3, h4, h5, h6, h7, h8⟩ := bnd_ok (P := P) (isS := true) hc hl hl' hh hh' hm hm' hk
            have hsl := seg_length (xs := xs) h2 h3 h6 h7
            refine ⟨_, _, run _ _ cap _ _ _ h1, .imm _ _ ?_, h8⟩
            rw [← hsl]
            by_cases hml : m = l
            · rw [if_pos hml]
              refine IR.isl_seg hj hb hs ha hv hone (fun i x hx => seg_get h2 h6 hx) (by omega) _ (.inl ?_)
              exact List.length_eq_zero_iff.1 (by omega)
            · rw [if_neg hml]
              simp only [Option.map_some, add_plain]
              exact IR.isl_seg hj hb hs ha hv hone (fun i x hx => seg_get h2 h6 hx) (by omega) _ (.inr rfl)
        case vec n =>
          simp only at hk
          cases hob : obj n hp <;> rw [hob] at hk <;> first | (cases hk; done) | skip
          rename_i ob
          cases ob <;> first | (cases hk; done) | skip
          rename_i ty sz α enc xs
          simp only at hk
          cases hsz : Nat.beq sz te.size <;> rw [hsz] at hk <;> first | (cases hk; done) | skip
          have hsz' := Nat.eq_of_beq_eq_true hsz
          subst hsz'
          simp only [cond_true] at hk
          obtain ⟨hlen, hsz2⟩ := obj_row hr hob
          obtain ⟨S1, ho, _, _⟩ := hr.get hob
          obtain ⟨hn, ⟨b, hb, rfl⟩ | ⟨hb, rfl⟩⟩ := hx.vec_inv
          · have hcap : xs.length ≤ (C.N n).cap := by
              rcases ho.2.2 with ⟨hb', _⟩ | ⟨_, _, _, _, _, _, h4, _⟩
              · rw [hb] at hb'; cases hb'
              · exact h4
            obtain ⟨l, r, m, h1, h2, h3, h4, h5, h6, h7, h8⟩ := bnd_ok (P := P) (isS := true) hcap hl hl' hh hh' hm hm' hk
            rw [hlen]
            refine ⟨_, _, run _ _ (C.N n).cap _ _ _ h1, ?_, h8⟩
            by_cases hml : m = l
            · rw [if_pos hml]
              exact .sub n l (r - l) (m - l) b 0 hn hb (by omega) (by rw [hlen]; omega) (.inl (by omega))
            · rw [if_neg hml]
              simp only [Option.map_some, add_plain]
              exact .sub n l (r - l) (m - l) b _ hn hb (by omega) (by rw [hlen]; omega) (.inr (by rw [hsz2]; omega))
          · have hx0 : xs = [] := by
              rcases ho.2.2 with ⟨_, hx0, _⟩ | ⟨b, _, _, hb', _⟩
              · exact hx0
              · rw [hb] at hb'; cases hb'
            subst hx0
            obtain ⟨l, r, m, h1, h2, h3, h4, h5, h6, h7, h8⟩ := bnd_ok (P := P) (isS := true) (Nat.le_refl 0) hl hl' hh hh' hm hm' hk
            simp at h3
            have : l = 0 := by omega
            have : m = 0 := by omega
            subst_vars
            exact ⟨_, _, run none 0 0 _ _ _ h1, by simpa using .subNil n 0 hn hb, h8⟩
        case sub n o c =>
          simp only at hk
          cases hob : obj n hp <;> rw [hob] at hk <;> first | (cases hk; done) | skip
          rename_i ob
          cases ob <;> first | (cases hk; done) | skip
          rename_i ty sz α enc xs
          simp only at hk
          cases hsz : Nat.beq sz te.size <;> rw [hsz] at hk <;> first | (cases hk; done) | skip
          have hsz' := Nat.eq_of_beq_eq_true hsz
          subst hsz'
          simp only [cond_true] at hk
          obtain ⟨hlen, hsz2⟩ := obj_row hr hob
          obtain ⟨hn, ⟨b, cap, q, hb, hc, hl1, hq, rfl⟩ | ⟨hb, h0, rfl⟩⟩ := hx.sub_inv
          · obtain ⟨l, r, m, h1, h2, h3, h4, h5, h6, h7, h8⟩ := bnd_ok (P := P) (isS := true) hc hl hl' hh hh' hm hm' hk
            refine ⟨_, _, run _ _ cap _ _ _ h1, ?_, h8⟩
            by_cases hml : m = l
            · rw [if_pos hml]
              exact .sub n (o + l) (r - l) (m - l) b q hn hb (by omega) (by omega) (.inl (by omega))
            · rw [if_neg hml]
              simp only [Option.map_some, add_plain]
              refine .sub n (o + l) (r - l) (m - l) b _ hn hb (by omega) (by omega) ?_
              rcases hq with h0 | hq
              · exact .inl (by omega)
              · exact .inr (by rw [hq, hsz2, Nat.add_mul])
          · subst h0
            obtain ⟨l, r, m, h1, h2, h3, h4, h5, h6, h7, h8⟩ := bnd_ok (P := P) (isS := true) (Nat.le_refl 0) hl hl' hh hh' hm hm' hk
            have : l = 0 := by omega
            have : r = 0 := by omega
            have : m = 0 := by omega
            subst_vars
            exact ⟨_, _, run none 0 0 _ _ _ h1, by simpa using .subNil n _ hn hb, h8⟩

theorem oIndexAddr_ok (hT : TabOk P tab) {hp : Hp} {S : Nat → Prop} (hr : HR w0.heap C B hp S) {t : TypeId} {x i : V} {vx vi : Value} {K : V → Prop} (hx : VR w0.heap C B x vx) (hi : VR w0.heap C B i vi) (hk : oIndexAddr tab hp t x i K) :
    ∃ v val, (∀ w, (Instr.indexAt t vx vi).run P w = .ok val w) ∧ VR w0.heap C B v val ∧ K v := by
  unfold oIndexAddr at hk
  cases i <;> first | (cases hk; done) | skip
  rename_i k n
  have hvi := hi.int_inv
  subst hvi
  simp only at hk
  cases ht : tab t with
  | none => rw [ht] at hk; cases hk
  | some ti =>
    obtain ⟨s1, s2, D, zs, q5⟩ := ti
    rw [ht] at hk
    obtain ⟨i0, d, z, hi0, hu, hsz0, hby0, hdesc, hz, hzl, hzlen, hfs⟩ := hT t _ ht
    cases D <;> first | (cases hk; done) | skip
    case arr len e =>
      simp only at hk
      cases he : tab e with
      | none => rw [he] at hk; cases hk
      | some te =>
        rw [he] at hk
        simp only [DescOk] at hdesc
        subst hdesc
        obtain ⟨ie, _, _, hie, _, hsze, _⟩ := hT e _ he
        cases x <;> first | (cases hk; done) | skip
        rename_i m o
        obtain ⟨b, hn, hb, rfl⟩ := hx.ptr_inv
        simp only at hk
        refine ⟨_, .pointer (some ⟨b, n.toNat * te.size + o, none⟩), fun w => ?_, .ptr _ _ _ hn hb, hk.2⟩
        simp only [Instr.indexAt, Sem.run_bind, asIntOf, Sem.run_pure, Result.andThen_ok, run_und hu, Instr.sureAddr]
        simp [hk.1, run_size hie, hsze, add_plain, Nat.add_comm]
    case slice e =>
      simp only at hk
      cases he : tab e with
      | none => rw [he] at hk; cases hk
      | some te =>
        rw [he] at hk
        simp only [DescOk] at hdesc
        subst hdesc
        obtain ⟨ie, _, _, hie, _, hsze, _⟩ := hT e _ he
        have run : ∀ (b o len cap : Nat), 0 ≤ n ∧ n < (len : Int) → ∀ w, (Instr.indexAt t (.slice (some ⟨b, o, none⟩) len cap) (.int k n)).run P w = .ok (.pointer (some ⟨b, o + n.toNat * te.size, none⟩)) w := by
          intro b o len cap hb w
          simp only [Instr.indexAt, Sem.run_bind, asIntOf, Sem.run_pure, Result.andThen_ok, run_und hu]
          simp [hb, run_size hie, hsze, add_plain]
        cases x <;> first | (cases hk; done) | skip
        case isl p sz α enc xs =>
          simp only at hk
          cases hsz : Nat.beq sz te.size <;> rw [hsz] at hk <;> first | (cases hk; done) | skip
          have hsz' := Nat.eq_of_beq_eq_true hsz
          subst hsz'
          simp only [cond_true, fV_eq] at hk
          obtain ⟨hbd, hk⟩ := hk
          rcases hx.isl_inv with ⟨rfl, _, _, _, rfl⟩ | ⟨b, o, cap, arr, ty, fz, cv, hj, hb, hc, hs, ha, hv, hone, rfl⟩
          · simp at hbd; omega
          · have hlt : n.toNat < xs.length := by omega
            have hget : xs[n.toNat]? = some xs[n.toNat] := List.getElem?_eq_getElem hlt
            refine ⟨_, _, run b o xs.length cap hbd, ?_, hk _ hget⟩
            refine .elem p (enc xs[n.toNat]) 0 b (o + n.toNat * te.size) arr ty fz (cv n.toNat) hj hb (fun j y hy => ?_) (fun j y hy => hv _ _ j y hget hy)
            have := ha _ _ j y hget hy
            rw [← this]
            congr 1
            omega
        case vec m =>
          simp only at hk
          cases hob : obj m hp <;> rw [hob] at hk <;> first | (cases hk; done) | skip
          rename_i ob
          cases ob <;> first | (cases hk; done) | skip
          rename_i ty sz α enc xs
          simp only at hk
          cases hsz : Nat.beq sz te.size <;> rw [hsz] at hk <;> first | (cases hk; done) | skip
          have hsz' := Nat.eq_of_beq_eq_true hsz
          subst hsz'
          simp only [cond_true] at hk
          obtain ⟨hlen, hsz2⟩ := obj_row hr hob
          obtain ⟨hn, ⟨b, hb, rfl⟩ | ⟨hb, rfl⟩⟩ := hx.vec_inv
          · rw [hlen]
            refine ⟨_, _, run b 0 _ _ hk.1, ?_, hk.2⟩
            have := VR.eptr (h := w0.heap) (C := C) (B := B) m n.toNat 0 b hn hb
            rw [hsz2] at this
            simpa using this
          · obtain ⟨S1, ho, _, _⟩ := hr.get hob
            rcases ho.2.2 with ⟨_, hx0, _⟩ | ⟨b, _, _, hb', _⟩
            · subst hx0; have := hk.1; simp at this; omega
            · rw [hb] at hb'; cases hb'
        case sub m o l =>
          simp only at hk
          cases hob : obj m hp <;> rw [hob] at hk <;> first | (cases hk; done) | skip
          rename_i ob
          cases ob <;> first | (cases hk; done) | skip
          rename_i ty sz α enc xs
          simp only at hk
          cases hsz : Nat.beq sz te.size <;> rw [hsz] at hk <;> first | (cases hk; done) | skip
          have hsz' := Nat.eq_of_beq_eq_true hsz
          subst hsz'
          simp only [cond_true] at hk
          obtain ⟨hlen, hsz2⟩ := obj_row hr hob
          obtain ⟨hn, ⟨b, cap, q, hb, hc, hl1, hq, rfl⟩ | ⟨hb, h0, rfl⟩⟩ := hx.sub_inv
          · refine ⟨_, _, run b q _ _ hk.1, ?_, hk.2⟩
            have := VR.eptr (h := w0.heap) (C := C) (B := B) m (o + n.toNat) 0 b hn hb
            rw [hsz2] at this
            rcases hq with h0 | hq
            · have := hk.1; omega
            · rw [hq, hsz2, ← Nat.add_mul]; simpa using this
          · subst h0; have := hk.1; omega

theorem optV_ok {tm : Tm} {nt : Nat} {h : Array Obj} {a : Act} {al : List (Nat × Bool)} (ht : TSat tm nt C B h a.tmps) (hg : GOk al a.tmps) (x : Option Operand) :
    (∀ y, optV al tm x = some y → ∃ v, x.map a.eval = some v ∧ VR h C B y v) ∧ (optV al tm x = none → x.map a.eval = none) := by
  cases x with
  | none => exact ⟨fun y e => (by cases e), fun _ => rfl⟩
  | some x => exact ⟨fun y e => (by cases e; exact ⟨_, rfl, evg_ok ht hg x⟩), fun e => (by cases e)⟩

theorem run_eq_sn {t e : TypeId} (w : World) (d : Nat) (h : P.underlying t = some (.slice e)) (a : Option Addr) (l c : Nat) : (Op.equalIn (d + 1) t (.slice a l c) (.slice none 0 0)).run P w = .ok a.isNone w := by
  cases a <;> simp [Op.equalIn, run_und h]

theorem nilCase_ok {hp : Hp} {S : Nat → Prop} (hr : HR w0.heap C B hp S) {u : V} {vu : Value} (hu : VR w0.heap C B u vu) {K : Prop → Prop} (h : nilCase hp u K) :
    ∃ (q : Prop) (a : Option Addr) (l c : Nat), vu = .slice a l c ∧ K q ∧ (a.isNone = true → q) := by
  cases u <;> first | (cases h; done) | skip
  case nils => exact ⟨True, none, 0, 0, hu.nils_inv, h, fun _ => trivial⟩
  case isl p sz α enc xs =>
    rcases hu.isl_inv with ⟨h1, ad, cap, _, h2⟩ | ⟨b, o, cap, _, _, _, _, _, _, _, _, _, _, _, h2⟩
    · exact ⟨_, ad, 0, cap, h2, h, fun _ => h1⟩
    · exact ⟨_, some _, _, _, h2, h, fun e => by cases e⟩
  case vec n =>
    simp only [nilCase] at h
    cases hob : obj n hp <;> rw [hob] at h <;> first | (cases h; done) | skip
    rename_i ob
    cases ob <;> first | (cases h; done) | skip
    obtain ⟨S1, ho, _, _⟩ := hr.get hob
    obtain ⟨h1, h2⟩ := hu.vec_inv
    rcases h2 with ⟨b, hb, h3⟩ | ⟨hb, h3⟩
    · exact ⟨_, some _, _, _, h3, h, fun e => by cases e⟩
    · refine ⟨_, none, 0, 0, h3, h, fun _ => ?_⟩
      obtain ⟨_, _, g3⟩ := ho
      rcases g3 with ⟨_, g, _⟩ | ⟨b, _, _, g, _⟩
      · exact g
      · rw [hb] at g; cases g
  case sub n o l =>
    obtain ⟨_, h2⟩ := hu.sub_inv
    rcases h2 with ⟨b, c, p, _, _, _, _, h3⟩ | ⟨_, h1, h3⟩
    · exact ⟨_, some _, _, _, h3, h, fun e => by cases e⟩
    · exact ⟨_, none, 0, 0, h3, h, fun _ => h1⟩

/-- worldless ones -/
theorem aopW_ok (hT : TabOk P tab) {tm : Tm} {nt : Nat} {hp : Hp} {S : Nat → Prop} {a : Act} {al : List (Nat × Bool)} (ht : TSat tm nt C B w0.heap a.tmps) (hg : GOk al a.tmps) (hr : HR w0.heap C B hp S)
    {o : Oper} {K : V → Prop} (h : aopW tab al tm hp o.op K) : ∃ v val, (∀ w, (execOp a.eval o).run P w = .ok (.value val) w) ∧ VR w0.heap C B v val ∧ K v := by
  unfold aopW at h
  cases hpu : apure tab al tm hp o.op with
  | some v =>
    rw [hpu] at h
    simp only [fV_eq] at h
    obtain ⟨val, h1, h2⟩ := apure_ok hT ht hg hr hpu
    exact ⟨v, val, h1, h2, h⟩
  | none =>
    rw [hpu] at h
    simp only at h
    have ev := fun x => evg_ok ht hg x
    cases hop : o.op <;> rw [hop] at h <;> first | (cases h; done) | skip
    case move x => exact ⟨_, _, fun w => by simp only [execOp, hop]; rfl, .junk _, h⟩
    case assign x => exact ⟨_, _, fun w => by simp only [execOp, hop]; rfl, .junk _, h⟩
    case slice t x lo hi mx =>
      obtain ⟨v, val, h1, h2, h3⟩ := oSlice_ok hT hr (ev x) (optV_ok ht hg lo).1 (optV_ok ht hg lo).2 (optV_ok ht hg hi).1 (optV_ok ht hg hi).2 (optV_ok ht hg mx).1 (optV_ok ht hg mx).2 h
      exact ⟨v, val, fun w => by simp [execOp, hop, h1], h2, h3⟩
    case indexAddr t x i =>
      obtain ⟨v, val, h1, h2, h3⟩ := oIndexAddr_ok hT hr (ev x) (ev i) h
      exact ⟨v, val, fun w => by simp [execOp, hop, h1], h2, h3⟩
    case build t ps =>
      obtain ⟨hp1, hp2⟩ := evParts_ok (C := C) (B := B) ht hg ps.toList
      obtain ⟨v, val, h1, h2, h3⟩ := oBuild_ok (us := ps.toList.map fun (i, x) => (i, a.eval x)) hT (by rw [hp1]; simp) (fun i x u hx hu => by
        simp only [List.getElem?_map] at hu
        cases hpi : ps.toList[i]? with
        | none => rw [hpi] at hu; cases hu
        | some p => rw [hpi] at hu; cases hu; exact hp2 i x p hx hpi) h
      refine ⟨v, val, fun w => ?_, h2, h3⟩
      have e : (ps.toList.map fun (i, x) => (i, a.eval x)).toArray = ps.map fun (i, x) => (i, a.eval x) := by rw [← Array.toList_map]
      rw [e] at h1
      simp [execOp, hop, h1]
    case binOp op t x y u =>
      simp only at h
      have ex := ev x
      have ey := ev y
      by_cases hyn : evg al tm y = .nils
      · have h' : nilEq tab hp op t (evg al tm x) K := by
          rw [hyn] at h
          cases hx : evg al tm x <;> rw [hx] at h <;> exact h
        unfold nilEq at h'
        rw [hyn] at ey
        cases op <;> first | (cases h'; done) | skip
        simp only at h'
        cases htt : tab t <;> rw [htt] at h' <;> first | (cases h'; done) | skip
        rename_i ti
        obtain ⟨s1, s2, D, zs, q5⟩ := ti
        cases D <;> first | (cases h'; done) | skip
        obtain ⟨i0, d, z, hi0, hu, hsz0, hby0, hdesc, _⟩ := hT t _ htt
        simp only [DescOk] at hdesc
        subst hdesc
        obtain ⟨q, ad, l, c, e1, e2, e3⟩ := nilCase_ok hr ex h'
        refine ⟨.bool ad.isNone, .bool ad.isNone, fun w => ?_, .imm _ _ (.bool _), e2 _ e3⟩
        have g := eqGuard_plain (P := P) (op := .eql) (t := t) (x := x) (y := y) (a := Value.slice ad l c) (b := Value.slice none 0 0) (by simp) (by simp) w
        have r := run_eq_sn w 9999 hu ad l c
        simp [execOp, hop, e1, ey.nils_inv, g, binOp, Op.equal, Op.maxDepth, r]
      cases hx : evg al tm x <;> rw [hx] at h ex <;> first | (cases h; done) | skip
      all_goals cases hy : evg al tm y <;> rw [hy] at h ey <;> first | (cases h; done) | exact absurd hy hyn | skip
      rename_i k1 n1 k2 n2
      simp only at h
      cases hsh : isShift op <;> rw [hsh] at h
      · simp only [cond_false] at h
        cases hk : kEq k1 k2 <;> rw [hk] at h <;> first | (cases h; done) | skip
        have hk' := kEq_eq hk
        subst hk'
        simp only [cond_true, oDiv] at h
        cases op <;> first | (cases h; done) | skip
        case quo => exact ⟨_, .int k1 (k1.wrap (n1.tdiv n2)), fun w => by simp [execOp, hop, ex.int_inv, ey.int_inv, eqGuard_int, binOp, Op.intDiv, h.1], .imm _ _ (.int _ _), h.2⟩
        case rem => exact ⟨_, .int k1 (n1.tmod n2), fun w => by simp [execOp, hop, ex.int_inv, ey.int_inv, eqGuard_int, binOp, Op.intDiv, h.1], .imm _ _ (.int _ _), h.2⟩
      · simp only [cond_true, oShift] at h
        cases op <;> first | (cases h; done) | skip
        case shl =>
          have hn : ¬ n2 < 0 := by have := h.1; omega
          exact ⟨_, .int k1 (k1.wrap (n1 * 2 ^ (min n2.toNat k1.bits))), fun w => by simp [execOp, hop, ex.int_inv, ey.int_inv, eqGuard_int, binOp, Op.shift, hn], .imm _ _ (.int _ _), h.2⟩
        case shr =>
          have hn : ¬ n2 < 0 := by have := h.1; omega
          exact ⟨_, .int k1 (n1.fdiv (2 ^ (min n2.toNat k1.bits))), fun w => by simp [execOp, hop, ex.int_inv, ey.int_inv, eqGuard_int, binOp, Op.shift, hn], .imm _ _ (.int _ _), h.2⟩
    case index t x i =>
      simp only at h
      cases htt : tab t <;> rw [htt] at h <;> first | (cases h; done) | skip
      rename_i ti
      obtain ⟨s1, s2, D, zs, q5⟩ := ti
      obtain ⟨i0, d, z, hi0, hu, hsz0, hby0, hdesc, hz, hzl, hzlen, hfs⟩ := hT t _ htt
      cases D <;> first | (cases h; done) | skip
      simp only [DescOk] at hdesc
      subst hdesc
      simp only at h
      have ex := ev x
      have ey := ev i
      cases hx : evg al tm x <;> rw [hx] at h ex <;> first | (cases h; done) | skip
      cases hy : evg al tm i <;> rw [hy] at h ey <;> first | (cases h; done) | skip
      rename_i s k n
      obtain ⟨sv, hsv, hs⟩ := ex.str_inv
      have hb := h.1
      have hlt : n.toNat < s.length := by omega
      have hget : s[n.toNat]? = some s[n.toNat] := List.getElem?_eq_getElem hlt
      have hsz : n.toNat < sv.size := by rw [Go.Lib.size_eq, hs]; exact hlt
      have hb2 : sv[n.toNat]? = some s[n.toNat] := by
        rw [getElem?_pos sv n.toNat hsz]
        congr 1
        simp only [← hs]
        rfl
      refine ⟨_, .int .u8 (s[n.toNat].toNat : Int), fun w => ?_, .imm _ _ (.int _ _), h.2 _ hget⟩
      simp only [execOp, hop, hsv, ey.int_inv, Sem.run_bind, Instr.index, asIntOf, Sem.run_pure, Result.andThen_ok, run_und hu]
      simp [hb.1, hb2]

end
end Go.Sx
end

section
namespace Go.Sx

section
variable {P : Program} {tab : Tab}

/-- a block is another one from now on -/
def putB (w : World) (b : Nat) (o : Obj) : World := { w with heap := w.heap.setIfInBounds b o }

theorem putB_at {w : World} {b : Nat} {o : Obj} (h : b < w.heap.size) : (putB w b o).heap[b]? = some o := by simp [putB, h]
theorem putB_ne {w : World} {b c : Nat} {o : Obj} (h : b ≠ c) : (putB w b o).heap[c]? = w.heap[c]? := by simp [putB, Array.getElem?_setIfInBounds_ne h]
theorem putB_size {w : World} {b : Nat} {o : Obj} : (putB w b o).heap.size = w.heap.size := by simp [putB]
theorem lt_of_at {h : Array Obj} {b : Nat} {o : Obj} (e : h[b]? = some o) : b < h.size := (Array.getElem?_eq_some_iff.1 e).1

theorem putB_self {w : World} {b : Nat} {o : Obj} (h : w.heap[b]? = some o) : putB w b o = w := by
  have : w.heap.setIfInBounds b o = w.heap := by
    apply Array.ext_getElem?
    intro i
    by_cases e : b = i
    · subst e; rw [h]; simp [lt_of_at h]
    · exact Array.getElem?_setIfInBounds_ne e
  unfold putB
  rw [this]

theorem setCell_eq {w : World} {b off : Nat} {arr : Array Value} {ty : TypeId} {fz : Nat × Nat} (h : w.heap[b]? = some (.cells arr ty fz)) (v : Value) : w.setCell ⟨b, off, none⟩ v = putB w b (.cells (arr.setIfInBounds off v) ty fz) := by
  have hb := lt_of_at h
  have : w.heap[b] = .cells arr ty fz := by rw [Array.getElem?_eq_getElem hb] at h; exact Option.some.inj h
  unfold World.setCell putB
  congr 1
  apply Array.ext
  · simp
  · intro i h1 h2
    simp only [Array.getElem_modify, Array.getElem_setIfInBounds]
    by_cases e : b = i
    · subst e; simp [this]
    · have h3 : (w.heap.setIfInBounds b (Obj.cells (arr.setIfInBounds off v) ty fz))[i]? = w.heap[i]? := Array.getElem?_setIfInBounds_ne e
      rw [Array.getElem?_eq_getElem h2, Array.getElem?_eq_getElem (by simpa using h1)] at h3
      simp only [if_neg e]
      exact (Option.some.inj h3).symm

theorem cell_eq {w : World} {b : Nat} {arr : Array Value} {ty : TypeId} {fz : Nat × Nat} (h : w.heap[b]? = some (.cells arr ty fz)) (off : Nat) : w.cell? ⟨b, off, none⟩ = arr[off]? := by simp [World.cell?, h]

theorem frozen_eq {w : World} {b : Nat} {arr : Array Value} {ty : TypeId} {fz : Nat × Nat} (h : w.heap[b]? = some (.cells arr ty fz)) (hf : Unfrozen fz arr.size) {off : Nat} (ho : off < arr.size) : w.frozen? ⟨b, off, none⟩ = false := by
  have := hf off ho
  obtain ⟨lo, hi⟩ := fz
  simp only [World.frozen?, h]
  simp at this ⊢
  exact this

theorem unfrozen_zero (n : Nat) : Unfrozen (0, 0) n := fun p _ h => by simp at h

def setsA : Nat → List Value → Array Value → Array Value
  | _, [], a => a
  | n, v :: vs, a => setsA (n + 1) vs (a.setIfInBounds n v)

theorem setsA_size : ∀ (vs : List Value) (n : Nat) (a : Array Value), (setsA n vs a).size = a.size
  | [], _, _ => rfl
  | v :: vs, n, a => by simp only [setsA]; rw [setsA_size vs]; simp

theorem run_store_one {w : World} {b off : Nat} {arr : Array Value} {ty : TypeId} {fz : Nat × Nat} (h : w.heap[b]? = some (.cells arr ty fz)) (hf : Unfrozen fz arr.size) (ho : off < arr.size) {v : Value} (hv : v.oneCell' = true) :
    (store ⟨b, off, none⟩ v).run P w = .ok () (putB w b (.cells (arr.setIfInBounds off v) ty fz)) := by
  rw [run_store P w _ v .plain hv]
  rw [cell_eq h]
  simp [ho, frozen_eq h hf ho, setCell_eq h]

theorem run_storeCells : ∀ (vs : List Value) (w : World) (b off i : Nat) (arr : Array Value) (ty : TypeId) (fz : Nat × Nat), w.heap[b]? = some (.cells arr ty fz) → Unfrozen fz arr.size → off + i + vs.length ≤ arr.size → (∀ v ∈ vs, v.oneCell' = true) →
    (storeCells ⟨b, off, none⟩ vs i).run P w = .ok () (putB w b (.cells (setsA (off + i) vs arr) ty fz))
  | [], w, b, off, i, arr, ty, fz, h, hf, hl, hv => by
    simp only [storeCells, Sem.run_pure, setsA]
    rw [putB_self h]
  | v :: vs, w, b, off, i, arr, ty, fz, h, hf, hl, hv => by
    have hl' : off + i + (vs.length + 1) ≤ arr.size := hl
    have hb := lt_of_at h
    unfold storeCells
    rw [Sem.run_bind, add_plain]
    rw [run_store_one h hf (by omega) (hv v (by simp))]
    simp only [Result.andThen_ok]
    rw [run_storeCells vs _ b off (i + 1) (arr.setIfInBounds (off + i) v) ty fz (putB_at hb) (by simpa using hf) (by simp; omega) (fun v hv' => hv v (by simp [hv']))]
    congr 1
    simp [putB, setsA, Nat.add_assoc]

theorem run_loadCells' {w : World} {b off n : Nat} {arr : Array Value} {ty : TypeId} {fz : Nat × Nat} (h : w.heap[b]? = some (.cells arr ty fz)) (hl : off + n ≤ arr.size) : (loadCells ⟨b, off, none⟩ n).run P w = .ok (arr.extract off (off + n)) w := by
  have := run_loadCells (P := P) (w := w) ⟨b, off, none⟩ n (fun j => arr.getD (off + j) undef) (fun j hj => by
    rw [add_plain, cell_eq h]
    have : off + j < arr.size := by omega
    simp [Array.getElem?_eq_getElem this, Array.getD, this])
  rw [this]
  congr 1
  apply Array.ext
  · simp; omega
  · intro i h1 h2
    simp at h1 h2
    have : off + i < arr.size := by omega
    simp [Array.getD, this]

theorem HR.names {h : Array Obj} {C : Cx} {B : Nat} {l : Hp} {S : Nat → Prop} (e : HR h C B l S) : ∀ a ∈ l, a.1 < B := by
  induction e with
  | nil S e => intro a ha; cases ha
  | cons n o l S1 S2 S hn hne ho hl hd e ih =>
    intro a ha
    simp only [List.mem_cons] at ha
    rcases ha with rfl | ha
    · exact hn
    · exact ih a ha

theorem Ext.jkeep {ar : Nat} {C C' : Cx} {S S' : Nat → Prop} {w w' : World} (e : Ext ar C C' S S' w w') {hp : Hp} {nx : Nat} (hs : HSat hp nx C S w) : ∀ p b, C.J p b → C'.J p b ∧ w'.heap[b]? = w.heap[b]? :=
  fun p b hj => ⟨e.jmono p b hj, e.keep b (hs.jlt p b hj).1 (hs.jlt p b hj).2⟩

theorem TSat.mono {tm : Tm} {nt : Nat} {C C' : Cx} {B B' : Nat} {h h' : Array Obj} {tmc : Array Value} (ht : TSat tm nt C B h tmc) (hj : ∀ p b, C.J p b → C'.J p b ∧ h'[b]? = h[b]?)
    (hN : ∀ n, n < B → C'.N n = C.N n) (hB : B ≤ B') : TSat tm nt C' B' h' tmc where
  size := ht.size
  out := ht.out
  at_ t hlt := by
    have h1 := ht.at_ t hlt
    cases hv : lk t tm <;> rw [hv] at h1 <;> simp only [TR] at h1 ⊢
    case whn g p x =>
      rcases h1 with ⟨hg, v, hv', hr⟩ | h2
      · exact .inl ⟨hg, v, hv', hr.mono hj hN hB⟩
      · exact .inr h2
    all_goals (obtain ⟨v, hv', hr⟩ := h1; exact ⟨v, hv', hr.mono hj hN hB⟩)

/-- names, one more -/
def Cx.add (C : Cx) (n : Nat) (L : Loc) : Cx := { C with N := fun k => if k = n then L else C.N k }

theorem Cx.add_at (C : Cx) (n : Nat) (L : Loc) : (C.add n L).N n = L := by simp [Cx.add]
theorem Cx.add_lt (C : Cx) {n k : Nat} (L : Loc) (h : k < n) : (C.add n L).N k = C.N k := by
  simp only [Cx.add]; rw [if_neg (by omega)]

theorem alloc_at (w : World) (o : Obj) : (w.alloc o).heap[w.heap.size]? = some o := by
  show (w.heap.push o)[w.heap.size]? = some o
  simp
theorem alloc_lt (w : World) (o : Obj) {b : Nat} (h : b < w.heap.size) : (w.alloc o).heap[b]? = w.heap[b]? := by
  show (w.heap.push o)[b]? = w.heap[b]?
  rw [Array.getElem?_push_lt h, Array.getElem?_eq_getElem h]

/-- a new block, which is owned -/
theorem alloc_sat {hp : Hp} {nx : Nat} {C : Cx} {S : Nat → Prop} {w : World} (hs : HSat hp nx C S w) (o : Obj) (ob : Ob) (L : Loc)
    (hor : OR (w.alloc o).heap (C.add nx L) (nx + 1) nx (fun b => b = w.heap.size) ob) :
    HSat ((nx, ob) :: hp) (nx + 1) (C.add nx L) (fun b => b = w.heap.size ∨ S b) (w.alloc o) ∧ Ext nx C (C.add nx L) S (fun b => b = w.heap.size ∨ S b) w (w.alloc o) := by
  have hsz : (w.alloc o).heap.size = w.heap.size + 1 := World.size_alloc ..
  refine ⟨⟨?_, ?_, ?_, hs.jj⟩, ⟨by omega, fun b hb _ => alloc_lt w o hb, ?_, fun _ _ h => h, fun _ _ h => .inl h, fun n hn => Cx.add_lt C L hn, rfl, rfl, rfl⟩⟩
  · refine .cons nx ob hp _ S _ (by omega) (fun a ha => by have := hs.hr.names a ha; omega) hor ?_ (fun b hb hS => by have := hs.lt b hS; omega) (fun b => Iff.rfl)
    exact hs.hr.mono (fun p b hj => ⟨hj, alloc_lt w o (hs.jlt p b hj).1⟩) (fun n hn => Cx.add_lt C L hn) (by omega) (fun b hb => alloc_lt w o (hs.lt b hb))
  · rintro b (rfl | hb)
    · omega
    · have := hs.lt b hb; omega
  · intro p b hj
    have := hs.jlt p b hj
    refine ⟨by omega, ?_⟩
    rintro (rfl | hb)
    · omega
    · exact this.2 hb
  · rintro b (rfl | hb)
    · exact .inr (Nat.le_refl _)
    · exact .inl hb

/-- a draw changes nothing that is looked at -/
theorem drew_sat {hp : Hp} {nx : Nat} {C : Cx} {S : Nat → Prop} {w w' : World} (hs : HSat hp nx C S w) (hh : w'.heap = w.heap) (h1 : w'.os = w.os) (h2 : w'.tape = w.tape) (h3 : w'.output = w.output) :
    HSat hp nx C S w' ∧ ∀ ar, Ext ar C C S S w w' := by
  refine ⟨⟨by rw [hh]; exact hs.hr, by rw [hh]; exact hs.lt, by rw [hh]; exact hs.jlt, hs.jj⟩, fun ar => ⟨by rw [hh]; exact Nat.le_refl _, fun b _ _ => by rw [hh], fun _ h => .inl h, fun _ _ h => h, fun _ _ h => .inl h, fun _ _ => rfl, h1, h2, h3⟩⟩

/-- an owned block is written -/
theorem put_sat {hp : Hp} {nx : Nat} {C : Cx} {S : Nat → Prop} {w : World} (hs : HSat hp nx C S w) {n b : Nat} {o o' : Ob} (hob : obj n hp = some o) (hb : (C.N n).blk = some b) (B' : Obj)
    (hS1 : ∀ S2, OR w.heap C nx n S2 o → ∀ k, S2 k ↔ k = b) (hor' : OR (putB w b B').heap C nx n (fun k => k = b) o') :
    HSat (upd n o' hp) nx C S (putB w b B') ∧ Ext nx C C S S w (putB w b B') := by
  obtain ⟨S1, ho, hn, hsub⟩ := hs.hr.get hob
  have hSb := hS1 S1 ho
  have hbS : S b := hsub b ((hSb b).2 rfl)
  have keep : ∀ k, k ≠ b → (putB w b B').heap[k]? = w.heap[k]? := fun k hk => putB_ne (fun e => hk e.symm)
  have ho1 : OR w.heap C nx n (fun k => k = b) o := by
    have : S1 = fun k => k = b := funext fun k => propext (hSb k)
    rw [← this]; exact ho
  refine ⟨⟨?_, by rw [putB_size]; exact hs.lt, by rw [putB_size]; exact hs.jlt, hs.jj⟩, ⟨by rw [putB_size]; exact Nat.le_refl _, fun k _ hk => keep k (fun e => hk (e ▸ hbS)), fun _ h => .inl h, fun _ _ h => h, fun _ _ h => .inl h, fun _ _ => rfl, rfl, rfl, rfl⟩⟩
  exact hs.hr.set hob ho1 hS1 hor' (fun p k hj => keep k (fun e => (hs.jlt p k hj).2 (e ▸ hbS))) (fun k _ hk => keep k hk)

end
end Go.Sx
end

section
namespace Go.Sx

section
variable {P : Program} {tab : Tab} {hp : Hp} {nx : Nat} {C : Cx} {S : Nat → Prop} {w : World}

/-- what an operation comes to -/
def Does (P : Program) (x : Sem Value) (nx : Nat) (C : Cx) (S : Nat → Prop) (w : World) (K : Post) : Prop :=
  ∃ v val w' hp' nx' C' S', x.run P w = .ok val w' ∧ K v hp' nx' ∧ HSat hp' nx' C' S' w' ∧ VR w'.heap C' nx' v val ∧ Ext nx C C' S S' w w' ∧ nx ≤ nx'

theorem Does.here (hs : HSat hp nx C S w) {x : Sem Value} {K : Post} {v : V} {val : Value} (hr : x.run P w = .ok val w) (hv : VR w.heap C nx v val) (hk : K v hp nx) : Does P x nx C S w K :=
  ⟨v, val, w, hp, nx, C, S, hr, hk, hs, hv, .refl _ _ _ _, Nat.le_refl _⟩

theorem cut_eq : ∀ (o n : Nat) (l m : List V), cut o n l = some m → o + n ≤ l.length ∧ m = (l.drop o).take n
  | 0, 0, l, m, h => by simp [cut] at h; subst h; simp
  | 0, n + 1, [], m, h => by simp [cut] at h
  | 0, n + 1, x :: l, m, h => by
    simp only [cut] at h
    cases hc : cut 0 n l with
    | none => rw [hc] at h; cases h
    | some q =>
      rw [hc] at h
      cases h
      obtain ⟨h1, h2⟩ := cut_eq 0 n l q hc
      subst h2
      simp
      omega
  | o + 1, n, [], m, h => by simp [cut] at h
  | o + 1, n, x :: l, m, h => by
    simp only [cut] at h
    obtain ⟨h1, h2⟩ := cut_eq o n l m h
    simp
    exact ⟨by omega, h2⟩

/-- cells of an array that read as a list's -/
def CR (h : Array Obj) (C : Cx) (B : Nat) (cs : List V) (arr : Array Value) (q : Nat) : Prop := ∀ (j : Nat) (y : V), cs[j]? = some y → ∃ v, arr[q + j]? = some v ∧ VR h C B y v

theorem ldC_ok (hT : TabOk P tab) {t o : Nat} {cs : List V} {v : V} (hv : ldC tab t o cs = some v) {h : Array Obj} {B : Nat} {b q : Nat} {arr : Array Value} {ty : TypeId} {fz : Nat × Nat} (hc : CR h C B cs arr q) {w : World} (hb : w.heap[b]? = some (.cells arr ty fz)) :
    ∃ val, (loadVar t ⟨b, q + o, none⟩).run P w = .ok val w ∧ VR h C B v val := by
  unfold ldC at hv
  cases ht : tab t with
  | none => rw [ht] at hv; cases hv
  | some ti =>
    rw [ht] at hv
    obtain ⟨i0, d, z, hi0, hu, hsz0, hby0, hdesc, hz, hzl, hzlen, hfs⟩ := hT t _ ht
    simp only at hv
    cases hag : ti.desc.isAgg <;> rw [hag] at hv
    · simp only [nth_eq] at hv
      obtain ⟨val, h1, h2⟩ := hc o v hv
      refine ⟨val, ?_, h2⟩
      simp only [loadVar, Sem.run_bind, run_agg hu hdesc, hag, Result.andThen_ok]
      simp [cell_eq hb, h1]
    · simp only at hv
      cases hcut : cut o ti.size cs with
      | none => rw [hcut] at hv; cases hv
      | some m =>
        rw [hcut] at hv
        cases hv
        obtain ⟨h1, h2⟩ := cut_eq _ _ _ _ hcut
        have run : ∀ n, ti.size = n → (loadVar t ⟨b, q + o, none⟩).run P w = ((loadCells ⟨b, q + o, none⟩ n).run P w).andThen fun a w' => .ok (.agg a) w' := by
          intro n hn
          simp only [loadVar, Sem.run_bind, run_agg hu hdesc, hag, Result.andThen_ok, if_true, run_size hi0, hsz0, hn, Sem.run_pure]
        rcases Nat.eq_zero_or_pos ti.size with h0 | h0
        · refine ⟨.agg #[], ?_, .agg _ _ ?_ ?_⟩
          · rw [run 0 h0]; rfl
          · subst h2; simp [h0]
          · intro i x v hx hv; simp at hv
        · have hlt : q + o + ti.size ≤ arr.size := by
            have h4 : o + ti.size - 1 < cs.length := by omega
            obtain ⟨val, h5, _⟩ := hc (o + ti.size - 1) cs[o + ti.size - 1] (List.getElem?_eq_getElem h4)
            have := (Array.getElem?_eq_some_iff.1 h5).1
            omega
          refine ⟨.agg (arr.extract (q + o) (q + o + ti.size)), ?_, .agg _ _ ?_ ?_⟩
          · rw [run _ rfl, run_loadCells' hb hlt]; rfl
          · subst h2; simp; omega
          · intro i x v hx hv
            subst h2
            rw [List.getElem?_take] at hx
            split at hx
            · rename_i hlt2
              rw [List.getElem?_drop] at hx
              obtain ⟨val, h5, h6⟩ := hc (o + i) x hx
              have e1 : (arr.extract (q + o) (q + o + ti.size))[i]? = arr[q + o + i]? := by
                rw [Array.getElem?_extract, if_pos (by omega)]
              rw [e1, show q + o + i = q + (o + i) by omega, h5] at hv
              cases hv
              exact h6
            · cases hx

theorem LR.cr {h : Array Obj} {B : Nat} {cs : List V} {arr : Array Value} (e : LR h C B cs arr) : CR h C B cs arr 0 := fun j y hy => by
  obtain ⟨v, hv, hr⟩ := e.get hy
  exact ⟨v, by simpa using hv, hr⟩

theorem aload_ok (hT : TabOk P tab) (hs : HSat hp nx C S w) {t : TypeId} {x : V} {vx : Value} {v : V} (hx : VR w.heap C nx x vx) (h : aload tab hp t x = some v) : ∃ val, (Instr.loadAt t vx).run P w = .ok val w ∧ VR w.heap C nx v val := by
  cases x <;> first | (cases h; done) | skip
  case ptr n o =>
    simp only [aload] at h
    cases hob : obj n hp <;> rw [hob] at h <;> first | (cases h; done) | skip
    rename_i ob
    cases ob <;> first | (cases h; done) | skip
    · obtain ⟨b, hn, hb, rfl⟩ := hx.ptr_inv
      obtain ⟨S1, ⟨b', arr, hb', hh, hl, hSb⟩, _, _⟩ := hs.hr.get hob
      rw [hb] at hb'
      cases hb'
      obtain ⟨val, h1, h2⟩ := ldC_ok hT h hl.cr hh
      exact ⟨val, by simpa [Instr.loadAt, Instr.sureAddr] using h1, h2⟩
    · simp only at h
      split at h
      · obtain ⟨b, hn, hb, rfl⟩ := hx.ptr_inv
        obtain ⟨S1, ⟨b', arr, hb', hh, hsz, hl, hxs, hSb⟩, _, _⟩ := hs.hr.get hob
        rw [hb] at hb'
        cases hb'
        obtain ⟨val, h1, h2⟩ := ldC_ok (C := C) (B := nx) (q := 0) hT h (fun j y hy => by
          have hlt := (List.getElem?_eq_some_iff.1 hy).1
          have hlt2 : j < arr.size := by omega
          exact ⟨arr[j], by simp [hlt2], hl j y _ hy (Array.getElem?_eq_getElem hlt2)⟩) hh
        exact ⟨val, by simpa [Instr.loadAt, Instr.sureAddr] using h1, h2⟩
      · cases h
  case elem p y o =>
    simp only [aload] at h
    obtain ⟨b, q, arr, ty, fz, cv, hj, hb, ha, hv, rfl⟩ := hx.elem_inv
    obtain ⟨val, h1, h2⟩ := ldC_ok (C := C) (B := nx) hT h (fun j y hy => ⟨cv j, ha j y hy, .imm _ _ (hv j y hy)⟩) hb
    exact ⟨val, by simpa [Instr.loadAt, Instr.sureAddr] using h1, h2⟩

theorem load_here (hT : TabOk P tab) (hs : HSat hp nx C S w) {t : TypeId} {x : V} {vx : Value} {K : Post} (hx : VR w.heap C nx x vx) (h : oLoad tab t x hp nx K) : ∃ v val, (Instr.loadAt t vx).run P w = .ok val w ∧ VR w.heap C nx v val ∧ K v hp nx := by
  unfold oLoad at h
  cases ha : aload tab hp t x with
  | some v =>
    rw [ha] at h
    simp only [fV_eq] at h
    obtain ⟨val, h1, h2⟩ := aload_ok hT hs hx ha
    exact ⟨_, _, h1, h2, h⟩
  | none =>
    rw [ha] at h
    simp only at h
    cases x <;> first | (cases h; done) | skip
    case ptr n o =>
      simp only at h
      cases hob : obj n hp <;> rw [hob] at h <;> first | (cases h; done) | skip
      rename_i ob
      cases ob <;> first | (cases h; done) | skip
      rename_i ty pre α enc xs
      obtain ⟨i, ho, hlt, h⟩ := h
      have hget : xs[i]? = some xs[i] := List.getElem?_eq_getElem hlt
      have h := h _ hget
      cases hl : ldC tab t 0 [enc xs[i]] with
      | none => rw [hl] at h; cases h
      | some v =>
        rw [hl] at h
        simp only [fV_eq] at h
        obtain ⟨b, hn, hb, rfl⟩ := hx.ptr_inv
        obtain ⟨S1, ⟨b', arr, hb', hh, hsz, _, hxs, hSb⟩, _, _⟩ := hs.hr.get hob
        rw [hb] at hb'
        cases hb'
        obtain ⟨u, hu, _, hr⟩ := hxs i _ hget
        obtain ⟨val, h1, h2⟩ := ldC_ok (C := C) (B := nx) (q := o) hT hl (fun j y hy => by
          cases j with
          | zero => simp at hy; subst hy; exact ⟨u, by rw [ho]; exact hu, .imm _ _ hr⟩
          | succ j => simp at hy) hh
        exact ⟨_, _, (by simpa [Instr.loadAt, Instr.sureAddr] using h1), h2, h⟩
    rename_i n i o
    simp only at h
    cases hob : obj n hp <;> rw [hob] at h <;> first | (cases h; done) | skip
    rename_i ob
    cases ob <;> first | (cases h; done) | skip
    rename_i ty sz α enc xs
    obtain ⟨hlt, h⟩ := h
    have hget : xs[i]? = some xs[i] := List.getElem?_eq_getElem hlt
    have h := h _ hget
    cases hl : ldC tab t o (enc xs[i]).cells with
    | none => rw [hl] at h; cases h
    | some v =>
      rw [hl] at h
      simp only [fV_eq] at h
      obtain ⟨b, hn, hb, rfl⟩ := hx.eptr_inv
      obtain ⟨S1, ⟨_, hsz, ho⟩, _, _⟩ := hs.hr.get hob
      rcases ho with ⟨hb', _⟩ | ⟨b', arr, fz, hb', hh, huf, hc1, hc2, hcs, hce, _⟩
      · rw [hb] at hb'; cases hb'
      · rw [hb] at hb'
        cases hb'
        obtain ⟨val, h1, h2⟩ := ldC_ok (C := C) (B := nx) (q := i * sz) hT hl (fun j y hy => by
          obtain ⟨v, hv, _, hr⟩ := hce i _ j y hget hy
          exact ⟨v, hv, .imm _ _ hr⟩) hh
        rw [hsz]
        exact ⟨_, _, (by simpa [Instr.loadAt, Instr.sureAddr] using h1), h2, h⟩

theorem load_ok (hT : TabOk P tab) (hs : HSat hp nx C S w) {t : TypeId} {x : V} {vx : Value} {K : Post} (hx : VR w.heap C nx x vx) (h : oLoad tab t x hp nx K) : Does P (Instr.loadAt t vx) nx C S w K := by
  obtain ⟨v, val, h1, h2, h3⟩ := load_here hT hs hx h
  exact .here hs h1 h2 h3

theorem toList_cells {cs : List V} {arr : Array Value} {h : Array Obj} {B : Nat} (e : LR h C B cs arr) (hf : flats cs = true) : ∀ v ∈ arr.toList, v.oneCell' = true := by
  intro v hv
  obtain ⟨i, hi, rfl⟩ := List.getElem_of_mem hv
  have hi' : i < arr.size := by simpa using hi
  have hi2 : i < cs.length := by rw [e.1]; exact hi'
  have h1 := e.2 i cs[i] arr[i] (List.getElem?_eq_getElem hi2) (by simp [hi'])
  have : ∀ (l : List V), flats l = true → ∀ x ∈ l, V.flat x = true := by
    intro l
    induction l with
    | nil => intro _ x hx; cases hx
    | cons y l ih =>
      intro hl x hx
      simp only [flats, Bool.and_eq_true] at hl
      simp only [List.mem_cons] at hx
      rcases hx with rfl | hx
      · exact hl.1
      · exact ih hl.2 x hx
  have h2 := flat_one (this cs hf cs[i] (List.getElem_mem hi2)) h1
  simpa using h2

theorem known_flats {x : V} (h : V.known x = true) : flats x.cells = true := by
  cases x with
  | agg cs => exact h
  | _ => simp only [V.known] at h; simp [V.cells, flats, h]

theorem setsA_LR {h : Array Obj} {B : Nat} : ∀ (vs : List V) (us : List Value) (n : Nat) (cs : List V) (arr : Array Value), LR h C B cs arr → vs.length = us.length →
    (∀ (i : Nat) (x : V) (u : Value), vs[i]? = some x → us[i]? = some u → VR h C B x u) → LR h C B (sets n vs cs) (setsA n us arr)
  | [], us, n, cs, arr, e, hl, hv => by
    cases us with
    | nil => exact e
    | cons _ _ => simp at hl
  | x :: vs, us, n, cs, arr, e, hl, hv => by
    cases us with
    | nil => simp at hl
    | cons u us =>
      simp only [sets, setsA]
      exact setsA_LR vs us (n + 1) _ _ (e.set n (hv 0 x u rfl rfl)) (by simpa using hl) (fun i x u hx hu => hv (i + 1) x u hx hu)

theorem setsA_get : ∀ (us : List Value) (n : Nat) (arr : Array Value) (i : Nat), n + us.length ≤ arr.size → (setsA n us arr)[i]? = if n ≤ i ∧ i < n + us.length then us[i - n]? else arr[i]?
  | [], n, arr, i, h => by simp [setsA]; intro h1 h2; omega
  | u :: us, n, arr, i, h => by
    simp only [List.length_cons] at h
    simp only [setsA]
    rw [setsA_get us (n + 1) _ i (by simp; omega)]
    by_cases h1 : n + 1 ≤ i ∧ i < n + 1 + us.length
    · rw [if_pos h1, if_pos (by simp; omega)]
      rw [show i - n = (i - (n + 1)) + 1 by omega]
      simp
    · rw [if_neg h1]
      by_cases h2 : i = n
      · subst h2
        rw [if_pos (by simp)]
        have : i < arr.size := by omega
        simp [this]
      · rw [if_neg (by simp; omega)]
        exact Array.getElem?_setIfInBounds_ne (fun e => h2 e.symm)

theorem sets_get : ∀ (vs : List V) (n : Nat) (cs : List V) (i : Nat), n + vs.length ≤ cs.length → (sets n vs cs)[i]? = if n ≤ i ∧ i < n + vs.length then vs[i - n]? else cs[i]?
  | [], n, cs, i, h => by simp [sets]; intro h1 h2; omega
  | u :: us, n, cs, i, h => by
    simp only [List.length_cons] at h
    simp only [sets]
    rw [sets_get us (n + 1) _ i (by simp; omega)]
    by_cases h1 : n + 1 ≤ i ∧ i < n + 1 + us.length
    · rw [if_pos h1, if_pos (by simp; omega)]
      rw [show i - n = (i - (n + 1)) + 1 by omega]
      simp
    · rw [if_neg h1]
      by_cases h2 : i = n
      · subst h2
        rw [if_pos (by simp)]
        have : i < cs.length := by omega
        simp [this]
      · rw [if_neg (by simp; omega)]
        exact List.getElem?_set_ne (fun e => h2 e.symm)

theorem imm_IR {h : Array Obj} {B : Nat} {x : V} {v : Value} (e : VR h C B x v) (hi : V.isImm x = true) : IR h C.J x v := by
  induction e with
  | imm x v e => exact e
  | agg cs arr hl hv ih =>
    simp only [V.isImm] at hi
    have : ∀ (l : List V), allImm l = true → ∀ x ∈ l, V.isImm x = true := by
      intro l
      induction l with
      | nil => intro _ x hx; cases hx
      | cons y l ihl =>
        intro hl x hx
        simp only [allImm, Bool.and_eq_true] at hl
        simp only [List.mem_cons] at hx
        rcases hx with rfl | hx
        · exact hl.1
        · exact ihl hl.2 x hx
    exact .agg cs arr hl fun i x v hx hv' => ih i x v hx hv' (this cs hi x (List.mem_of_getElem? hx))
  | func f a c x y ha hc hx hy _ _ =>
    simp only [V.isImm, Bool.and_eq_true, List.isEmpty_iff] at hi
    obtain ⟨rfl, rfl⟩ := hi
    simp at ha hc
    have hx0 : x = #[] := Array.eq_empty_of_size_eq_zero ha.symm
    have hy0 : y = #[] := Array.eq_empty_of_size_eq_zero hc.symm
    subst hx0 hy0
    exact .func f
  | _ => simp [V.isImm] at hi

theorem imm_cells {x : V} (hi : V.isImm x = true) : ∀ y ∈ x.cells, V.isImm y = true := by
  cases x with
  | agg cs =>
    simp only [V.isImm] at hi
    have : ∀ (l : List V), allImm l = true → ∀ x ∈ l, V.isImm x = true := by
      intro l
      induction l with
      | nil => intro _ x hx; cases hx
      | cons y l ihl =>
        intro hl x hx
        simp only [allImm, Bool.and_eq_true] at hl
        simp only [List.mem_cons] at hx
        rcases hx with rfl | hx
        · exact hl.1
        · exact ihl hl.2 x hx
    exact this cs hi
  | _ => intro y hy; simp only [V.cells, List.mem_singleton] at hy; subst hy; exact hi

theorem store_ok (hT : TabOk P tab) (hs : HSat hp nx C S w) {t : TypeId} {x u : V} {vx vu : Value} {K : Post} (hx : VR w.heap C nx x vx) (hu : VR w.heap C nx u vu) (h : oStore tab t x u hp nx K) :
    ∃ w' hp', (Instr.storeAt t vx vu).run P w = .ok () w' ∧ K .junk hp' nx ∧ HSat hp' nx C S w' ∧ Ext nx C C S S w w' := by
  unfold oStore at h
  cases ht : tab t with
  | none => rw [ht] at h; cases h
  | some ti =>
    rw [ht] at h
    obtain ⟨i0, d, z, hi0, hund, hsz0, hby0, hdesc, hz, hzl, hzlen, hfs⟩ := hT t _ ht
    simp only at h
    cases hc : (V.known u && Nat.beq u.cells.length ti.size) <;> rw [hc] at h <;> first | (cases h; done) | skip
    simp only [Bool.and_eq_true] at hc
    obtain ⟨hk, hlen⟩ := hc
    have hlen := Nat.eq_of_beq_eq_true hlen
    simp only [cond_true] at h
    have hLR := cells_LR hk hu
    have hone := toList_cells hLR (known_flats hk)
    have hsz : vu.cells.size = ti.size := by rw [← hLR.1]; exact hlen
    have run : ∀ (b off : Nat) (arr : Array Value) (ty : TypeId) (fz : Nat × Nat), w.heap[b]? = some (.cells arr ty fz) → Unfrozen fz arr.size → off + u.cells.length ≤ arr.size →
        (Instr.storeAt t (.pointer (some ⟨b, off, none⟩)) vu).run P w = .ok () (putB w b (.cells (setsA off vu.cells.toList arr) ty fz)) := by
      intro b off arr ty fz hb hf hle
      simp only [Instr.storeAt, Instr.sureAddr, Sem.run_bind, Sem.run_pure, Result.andThen_ok, storeVar, run_size hi0, hsz0]
      rw [if_neg (by simpa using hsz)]
      have := run_storeCells (P := P) vu.cells.toList w b off 0 arr ty fz hb hf (by simp; rw [hsz, ← hlen]; exact hle) hone
      simpa using this
    cases x <;> first | (cases h; done) | skip
    case ptr n o =>
      simp only at h
      cases hob : obj n hp <;> rw [hob] at h <;> first | (cases h; done) | skip
      rename_i ob
      cases ob <;> first | (cases h; done) | skip
      case arr ty pre α enc xs =>
        simp only at h
        obtain ⟨b, hn, hb, rfl⟩ := hx.ptr_inv
        obtain ⟨S1, ⟨b', arr, hb', hh, hasz, hl, hxs, hSb⟩, _, _⟩ := hs.hr.get hob
        rw [hb] at hb'
        cases hb'
        have hSu : ∀ S2, OR w.heap C nx n S2 (.arr ty pre enc xs) → ∀ k, S2 k ↔ k = b := fun S2 ho2 k => by
          obtain ⟨b2, _, hb2, _, _, _, _, hS2⟩ := ho2
          rw [hb] at hb2; cases hb2; exact hS2 k
        have hJne : ∀ p k, C.J p k → b ≠ k := fun p k hj e => (hs.jlt p k hj).2 (by
          obtain ⟨S3, ⟨b3, _, hb3, _, _, _, _, hS3⟩, _, hsub⟩ := hs.hr.get hob
          rw [hb] at hb3; cases hb3
          exact e ▸ hsub b ((hS3 b).2 rfl))
        split at h
        · cases hle : Nat.ble (o + u.cells.length) pre.length <;> rw [hle] at h <;> first | (cases h; done) | skip
          have hle := Nat.le_of_ble_eq_true hle
          simp only [cond_true, setsK_eq, updK_eq] at h
          have hrun := run b o arr ty (0, 0) hh (unfrozen_zero _) (by omega)
          have hvl : vu.cells.toList.length = u.cells.length := by simp [hLR.1]
          have hset := setsA_get vu.cells.toList o arr
          obtain ⟨h1, h2⟩ := put_sat hs hob hb (.cells (setsA o vu.cells.toList arr) ty (0, 0)) (o' := .arr ty (sets o u.cells pre) enc xs) hSu ⟨b, _, hb, putB_at (lt_of_at hh), by rw [setsA_size, sets_length]; exact hasz, (fun i x v hx hv => by
              rw [sets_get _ _ _ _ hle] at hx
              rw [hset i (by rw [hvl]; omega), hvl] at hv
              have := fun {y} (e : VR w.heap C nx y v) => VR.mono (C' := C) (B' := nx) e (h' := (putB w b (.cells (setsA o vu.cells.toList arr) ty (0, 0))).heap) (fun p k hj => ⟨hj, putB_ne (hJne p k hj)⟩) (fun _ _ => rfl) (Nat.le_refl _)
              by_cases hc : o ≤ i ∧ i < o + u.cells.length
              · rw [if_pos hc] at hx hv
                exact this (hLR.2 (i - o) x v hx (by simpa using hv))
              · rw [if_neg hc] at hx hv
                exact this (hl i x v hx hv)), (fun i x hx => by
              obtain ⟨v, h1, h2, h3⟩ := hxs i x hx
              refine ⟨v, ?_, h2, h3.mono (fun p k hj => ⟨hj, putB_ne (hJne p k hj)⟩)⟩
              rw [sets_length, hset _ (by rw [hvl]; omega), if_neg (by rw [hvl]; omega)]
              exact h1), fun _ => Iff.rfl⟩
          exact ⟨_, _, hrun, h, h1, h2⟩
        · cases him : V.isImm u <;> rw [him] at h <;> first | (cases h; done) | skip
          simp only [cond_true] at h
          obtain ⟨i, ho, hlt, y, hy, h⟩ := h
          simp only [updK_eq] at h
          have hul : u.cells.length = 1 := by rw [hy]; rfl
          have hrun := run b o arr ty (0, 0) hh (unfrozen_zero _) (by omega)
          have hvl : vu.cells.toList.length = 1 := by rw [← hul]; simp [hLR.1]
          have hset := setsA_get vu.cells.toList o arr
          obtain ⟨h1, h2⟩ := put_sat hs hob hb (.cells (setsA o vu.cells.toList arr) ty (0, 0)) (o' := .arr ty pre enc (xs.set i y)) hSu ⟨b, _, hb, putB_at (lt_of_at hh), by rw [setsA_size]; simpa using hasz, (fun j x v hx hv => by
              have hj := (List.getElem?_eq_some_iff.1 hx).1
              rw [hset j (by rw [hvl]; omega), if_neg (by omega)] at hv
              exact VR.mono (C' := C) (B' := nx) (hl j x v hx hv) (fun p k hj => ⟨hj, putB_ne (hJne p k hj)⟩) (fun _ _ => rfl) (Nat.le_refl _)), (fun j x hx => by
              rw [hset _ (by rw [hvl]; omega), hvl]
              by_cases hji : j = i
              · subst hji
                rw [List.getElem?_set_self hlt] at hx
                simp only [Option.some.injEq] at hx
                subst hx
                rw [if_pos (by omega)]
                have e0 : pre.length + j - o = 0 := by omega
                rw [e0]
                have hc0 : vu.cells.toList[0]? = some vu.cells.toList[0] := List.getElem?_eq_getElem (by omega)
                refine ⟨_, hc0, hone _ (List.getElem_mem _), ?_⟩
                have hr := hLR.2 0 (enc y) (vu.cells.toList[0]) (by rw [hy]; rfl) (by simpa using hc0)
                have him' : V.isImm (enc y) = true := imm_cells him _ (by rw [hy]; simp)
                exact (imm_IR hr him').mono (fun p k hj => ⟨hj, putB_ne (hJne p k hj)⟩)
              · rw [List.getElem?_set_ne (fun e => hji e.symm)] at hx
                rw [if_neg (by omega)]
                obtain ⟨v, h1, h2, h3⟩ := hxs j x hx
                exact ⟨v, h1, h2, h3.mono (fun p k hj => ⟨hj, putB_ne (hJne p k hj)⟩)⟩), fun _ => Iff.rfl⟩
          exact ⟨_, _, hrun, h, h1, h2⟩
      rename_i ty cs
      simp only at h
      cases hle : Nat.ble (o + u.cells.length) cs.length <;> rw [hle] at h <;> first | (cases h; done) | skip
      have hle := Nat.le_of_ble_eq_true hle
      simp only [cond_true, setsK_eq, updK_eq] at h
      obtain ⟨b, hn, hb, rfl⟩ := hx.ptr_inv
      obtain ⟨S1, ⟨b', arr, hb', hh, hl, hSb⟩, _, _⟩ := hs.hr.get hob
      rw [hb] at hb'
      cases hb'
      have hrun := run b o arr ty (0, 0) hh (unfrozen_zero _) (by rw [← hl.1]; exact hle)
      have hle2 := setsA_LR u.cells vu.cells.toList o cs arr hl (by simp [hLR.1]) (fun j y c hy hc => hLR.2 j y c hy (by simpa using hc))
      obtain ⟨h1, h2⟩ := put_sat hs hob hb (.cells (setsA o vu.cells.toList arr) ty (0, 0)) (o' := .cells ty (sets o u.cells cs)) (fun S2 ho2 k => by
        obtain ⟨b2, _, hb2, _, _, hS2⟩ := ho2
        rw [hb] at hb2; cases hb2; exact hS2 k) ⟨b, _, hb, putB_at (lt_of_at hh), hle2.mono (fun p k hj => ⟨hj, putB_ne (fun e => (hs.jlt p k hj).2 (by
          obtain ⟨S3, ⟨b3, _, hb3, _, _, hS3⟩, _, hsub⟩ := hs.hr.get hob
          rw [hb] at hb3; cases hb3
          exact e ▸ hsub b ((hS3 b).2 rfl)))⟩) (fun _ _ => rfl) (Nat.le_refl _), fun _ => Iff.rfl⟩
      exact ⟨_, _, hrun, h, h1, h2⟩
    case eptr n i o =>
      simp only at h
      cases hob : obj n hp <;> rw [hob] at h <;> first | (cases h; done) | skip
      rename_i ob
      cases ob <;> first | (cases h; done) | skip
      rename_i ty sz α enc xs
      simp only at h
      cases him : V.isImm u <;> rw [him] at h <;> first | (cases h; done) | skip
      simp only [cond_true] at h
      obtain ⟨hlt, h⟩ := h
      have hget : xs[i]? = some xs[i] := List.getElem?_eq_getElem hlt
      obtain ⟨y, ⟨hyl, hy⟩, h⟩ := h _ hget
      simp only [updK_eq] at h
      obtain ⟨b, hn, hb, rfl⟩ := hx.eptr_inv
      obtain ⟨S1, ⟨hlen1, hsz1, ho⟩, _, hsub⟩ := hs.hr.get hob
      rcases ho with ⟨hb', _⟩ | ⟨b', arr, fz, hb', hh, huf, hc1, hc2, hcs, hce, hSb⟩
      · rw [hb] at hb'; cases hb'
      · rw [hb] at hb'
        cases hb'
        have hesz := hcs i _ hget
        have hbd : i * sz + o + u.cells.length ≤ arr.size := by
          have : (i + 1) * sz ≤ (C.N n).cap * sz := Nat.mul_le_mul_right _ (by omega)
          rw [Nat.add_mul] at this
          omega
        rw [hsz1]
        have hrun := run b (i * sz + o) arr ty fz hh huf hbd
        have hjk : ∀ p k, C.J p k → C.J p k ∧ (putB w b (.cells (setsA (i * sz + o) vu.cells.toList arr) ty fz)).heap[k]? = w.heap[k]? := fun p k hj => ⟨hj, putB_ne (fun e => (hs.jlt p k hj).2 (e ▸ hsub b ((hSb b).2 rfl)))⟩
        obtain ⟨h1, h2⟩ := put_sat hs hob hb (.cells (setsA (i * sz + o) vu.cells.toList arr) ty fz) (o' := .row ty sz enc (xs.set i y)) (fun S2 ho2 k => by
          obtain ⟨_, _, ho3⟩ := ho2
          rcases ho3 with ⟨hb2, _⟩ | ⟨b2, _, _, hb2, _, _, _, _, _, _, hS2⟩
          · rw [hb] at hb2; cases hb2
          · rw [hb] at hb2; cases hb2; exact hS2 k) (by
          refine ⟨by simpa using hlen1, hsz1, .inr ⟨b, _, fz, hb, putB_at (lt_of_at hh), by rw [setsA_size]; exact huf, by simpa using hc1, by rw [setsA_size]; exact hc2, ?_, ?_, fun _ => Iff.rfl⟩⟩
          · intro j x hx
            by_cases hij : i = j
            · subst hij
              rw [List.getElem?_set_self hlt] at hx
              cases hx
              rw [hy, sets_length]; exact hesz
            · rw [List.getElem?_set_ne hij] at hx
              exact hcs j x hx
          · intro j x k c hx hxc
            rw [setsA_get _ _ _ _ (by simp; rw [← hLR.1]; omega)]
            by_cases hij : i = j
            · subst hij
              rw [List.getElem?_set_self hlt] at hx
              cases hx
              rw [hy, sets_get _ _ _ _ hyl] at hxc
              by_cases hin : o ≤ k ∧ k < o + u.cells.length
              · rw [if_pos hin] at hxc
                rw [if_pos (by simp; rw [← hLR.1]; omega)]
                obtain ⟨v, hv, hr⟩ := hLR.get hxc
                refine ⟨v, by rw [show i * sz + k - (i * sz + o) = k - o by omega]; simpa using hv, hone v (by simpa using Array.mem_of_getElem? hv), ?_⟩
                exact (imm_IR hr (imm_cells him c (List.mem_of_getElem? hxc))).mono hjk
              · rw [if_neg hin] at hxc
                obtain ⟨v, hv, hone1, hr⟩ := hce i _ k c hget hxc
                refine ⟨v, ?_, hone1, hr.mono hjk⟩
                rw [if_neg]
                · exact hv
                · simp; rw [← hLR.1]
                  intro h1
                  omega
            · rw [List.getElem?_set_ne hij] at hx
              obtain ⟨v, hv, hone1, hr⟩ := hce j x k c hx hxc
              refine ⟨v, ?_, hone1, hr.mono hjk⟩
              have hk2 : k < sz := by
                have := hcs j x hx
                have := (List.getElem?_eq_some_iff.1 hxc).1
                omega
              rw [if_neg]
              · exact hv
              · simp; rw [← hLR.1]
                intro h1
                rcases Nat.lt_or_gt_of_ne hij with h2 | h2
                · have : (i + 1) * sz ≤ j * sz := Nat.mul_le_mul_right _ (by omega)
                  rw [Nat.add_mul] at this
                  omega
                · have : (j + 1) * sz ≤ i * sz := Nat.mul_le_mul_right _ (by omega)
                  rw [Nat.add_mul] at this
                  omega)
        exact ⟨_, _, hrun, h, h1, h2⟩

end
end Go.Sx
end

section
namespace Go.Sx

/-- cells that go with others place by place -/
theorem lift_ix {α : Type _} {β : Type _} {cs ds : List α} {arr : Array β} {Q : α → β → Prop} {Q' : α → β → Prop} (hl : cs.length = arr.size) (hd : cs.length = ds.length)
    (h : ∀ (i : Nat) (x : α) (v : β), cs[i]? = some x → arr[i]? = some v → Q x v)
    (hq : ∀ (i : Nat) (x y : α) (v : β), cs[i]? = some x → ds[i]? = some y → Q x v → Q' y v) : ds.length = arr.size ∧ ∀ (i : Nat) (y : α) (v : β), ds[i]? = some y → arr[i]? = some v → Q' y v := by
  refine ⟨by omega, fun i y v hy hv => ?_⟩
  have hi : i < cs.length := by
    have := (List.getElem?_eq_some_iff.1 hy).1
    omega
  have hx : cs[i]? = some cs[i] := List.getElem?_eq_getElem hi
  exact hq i _ y v hx hy (h i _ v hx hv)

theorem map_at {α β : Type} {γ : Type _} {f : α → γ} {g : β → γ} {xs : List α} {ys : List β} (h : xs.map f = ys.map g) {i : Nat} {y : β} (hy : ys[i]? = some y) : ∃ x, xs[i]? = some x ∧ f x = g y := by
  have := congrArg (fun l => l[i]?) h
  simp only [List.getElem?_map, hy, Option.map_some] at this
  cases hx : xs[i]? with
  | none => rw [hx] at this; simp at this
  | some x => rw [hx] at this; simp at this; exact ⟨x, rfl, this⟩

section
variable {h : Array Obj} {C : Cx} {B : Nat}

theorem VR.leF (hj : ∀ b, C.J true b → C.J false b) {x y : V} {v : Value} (e : leF x y) (hv : VR h C B x v) : VR h C B y v := by
  cases y with
  | junk => exact .junk v
  | isl p' sz' enc' ys =>
    cases x with
    | nils =>
      simp only [Sx.leF] at e
      subst e
      cases hv with
      | imm _ _ e => cases e; exact .imm _ _ (.islNil _ _ _ none 0 (fun _ => rfl))
    | isl p sz enc xs =>
      simp only [Sx.leF] at e
      obtain ⟨e1, e2, e3⟩ := e
      subst e2
      have hlen : xs.length = ys.length := by simpa using congrArg List.length e3
      cases hv with
      | imm _ _ e =>
        cases e with
        | islNil _ _ _ a cap ha =>
          have : ys = [] := List.eq_nil_of_length_eq_zero (by simpa using hlen.symm)
          subst this
          exact .imm _ _ (.islNil _ _ _ a cap ha)
        | isl _ _ _ _ b o cap arr ty fz cv hj' hb hc hs ha hv ho =>
          rw [hlen]
          refine .imm _ _ (.isl p' sz enc' ys b o cap arr ty fz cv ?_ hb (by omega) ?_ ?_ ?_ ?_)
          · cases p' with
            | true => have := e1 rfl; subst this; exact hj'
            | false => cases p with
              | true => exact hj b hj'
              | false => exact hj'
          · intro i y hy
            obtain ⟨x, hx, e⟩ := map_at e3 hy
            rw [← e]; exact hs i x hx
          · intro i y j z hy hz
            obtain ⟨x, hx, e⟩ := map_at e3 hy
            exact ha i x j z hx (by rw [e]; exact hz)
          · intro i y j z hy hz
            obtain ⟨x, hx, e⟩ := map_at e3 hy
            exact hv i x j z hx (by rw [e]; exact hz)
          · intro i y j z hy hz
            obtain ⟨x, hx, e⟩ := map_at e3 hy
            exact ho i x j z hx (by rw [e]; exact hz)
    | _ => exact e.elim
  | int k' m => cases x <;> simp only [Sx.leF] at e <;> first | exact e.elim | (obtain ⟨rfl, rfl⟩ := e; exact hv)
  | bool b => cases x <;> simp only [Sx.leF] at e <;> first | exact e.elim | (subst e; exact hv)
  | str t => cases x <;> simp only [Sx.leF] at e <;> first | exact e.elim | (subst e; exact hv)
  | ptr m o => cases x <;> simp only [Sx.leF] at e <;> first | exact e.elim | (obtain ⟨rfl, rfl⟩ := e; exact hv)
  | vec m => cases x <;> simp only [Sx.leF] at e <;> first | exact e.elim | (subst e; exact hv)
  | _ => simp only [Sx.leF] at e; subst e; exact hv

theorem leFs_ix : ∀ {cs ds : List V}, leFs cs ds → cs.length = ds.length ∧ ∀ (i : Nat) (x y : V), cs[i]? = some x → ds[i]? = some y → Sx.leF x y
  | [], [], _ => ⟨rfl, fun i x y h => by simp at h⟩
  | x :: l, y :: m, h => by
    obtain ⟨h1, h2⟩ := h
    obtain ⟨g1, g2⟩ := leFs_ix h2
    refine ⟨by simp [g1], fun i a b ha hb => ?_⟩
    cases i with
    | zero => simp at ha hb; subst ha; subst hb; exact h1
    | succ i => simp at ha hb; exact g2 i a b ha hb
  | [], _ :: _, h => h.elim
  | _ :: _, [], h => h.elim

theorem leAs_ix : ∀ {cs ds : List V}, leAs cs ds → cs.length = ds.length ∧ ∀ (i : Nat) (x y : V), cs[i]? = some x → ds[i]? = some y → leA x y
  | [], [], _ => ⟨rfl, fun i x y h => by simp at h⟩
  | x :: l, y :: m, h => by
    obtain ⟨h1, h2⟩ := h
    obtain ⟨g1, g2⟩ := leAs_ix h2
    refine ⟨by simp [g1], fun i a b ha hb => ?_⟩
    cases i with
    | zero => simp at ha hb; subst ha; subst hb; exact h1
    | succ i => simp at ha hb; exact g2 i a b ha hb
  | [], _ :: _, h => h.elim
  | _ :: _, [], h => h.elim

theorem leTs_ix : ∀ {cs ds : List V}, leTs cs ds → cs.length = ds.length ∧ ∀ (i : Nat) (x y : V), cs[i]? = some x → ds[i]? = some y → leT x y
  | [], [], _ => ⟨rfl, fun i x y h => by simp at h⟩
  | x :: l, y :: m, h => by
    obtain ⟨h1, h2⟩ := h
    obtain ⟨g1, g2⟩ := leTs_ix h2
    refine ⟨by simp [g1], fun i a b ha hb => ?_⟩
    cases i with
    | zero => simp at ha hb; subst ha; subst hb; exact h1
    | succ i => simp at ha hb; exact g2 i a b ha hb
  | [], _ :: _, h => h.elim
  | _ :: _, [], h => h.elim

theorem LR.leFs (hj : ∀ b, C.J true b → C.J false b) {cs ds : List V} {arr : Array Value} (e : leFs cs ds) (hv : LR h C B cs arr) : LR h C B ds arr :=
  lift_ix (Q' := fun y v => VR h C B y v) hv.1 (leFs_ix e).1 hv.2 (fun i x y _ hx hy hq => VR.leF hj ((leFs_ix e).2 i x y hx hy) hq)

theorem VR.leA (hj : ∀ b, C.J true b → C.J false b) {x y : V} {v : Value} (e : leA x y) (hv : VR h C B x v) : VR h C B y v := by
  cases y with
  | agg ds =>
    cases x with
    | agg cs =>
      simp only [Sx.leA] at e
      cases hv with
      | imm _ _ e' =>
        cases e' with
        | agg _ arr hl hv =>
          obtain ⟨h1, h2⟩ := LR.leFs hj e ⟨hl, fun i x v hx hv' => VR.imm (B := B) _ _ (hv i x v hx hv')⟩
          exact .agg ds arr h1 h2
      | agg _ arr hl hv =>
        obtain ⟨h1, h2⟩ := LR.leFs hj e ⟨hl, hv⟩
        exact .agg ds arr h1 h2
    | _ => exact e.elim
  | _ => exact VR.leF hj e hv

theorem LR.leAs (hj : ∀ b, C.J true b → C.J false b) {cs ds : List V} {arr : Array Value} (e : leAs cs ds) (hv : LR h C B cs arr) : LR h C B ds arr :=
  lift_ix (Q' := fun y v => VR h C B y v) hv.1 (leAs_ix e).1 hv.2 (fun i x y _ hx hy hq => VR.leA hj ((leAs_ix e).2 i x y hx hy) hq)

theorem VR.leT (hj : ∀ b, C.J true b → C.J false b) {x y : V} {v : Value} (e : leT x y) (hv : VR h C B x v) : VR h C B y v := by
  cases y with
  | tup ds =>
    cases x with
    | tup cs =>
      simp only [Sx.leT] at e
      cases hv with
      | imm _ _ e' => cases e'
      | tup _ arr hl hv =>
        obtain ⟨h1, h2⟩ := LR.leAs hj e ⟨hl, hv⟩
        exact .tup ds arr h1 h2
    | _ => exact e.elim
  | _ => exact VR.leA hj e hv

theorem LR.leTs (hj : ∀ b, C.J true b → C.J false b) {cs ds : List V} {arr : Array Value} (e : leTs cs ds) (hv : LR h C B cs arr) : LR h C B ds arr :=
  lift_ix (Q' := fun y v => VR h C B y v) hv.1 (leTs_ix e).1 hv.2 (fun i x y _ hx hy hq => VR.leT hj ((leTs_ix e).2 i x y hx hy) hq)

end

theorem leF_refl (x : V) : leF x x := by
  cases x <;> simp [leF]

theorem leFs_refl : ∀ l : List V, leFs l l
  | [] => trivial
  | x :: l => ⟨leF_refl x, leFs_refl l⟩

theorem leA_refl (x : V) : leA x x := by
  cases x <;> simp [leA, leF_refl, leFs_refl]

theorem leAs_refl : ∀ l : List V, leAs l l
  | [] => trivial
  | x :: l => ⟨leA_refl x, leAs_refl l⟩

theorem leT_refl (x : V) : leT x x := by
  cases x <;> simp [leT, leA_refl, leAs_refl]

theorem leTs_refl : ∀ l : List V, leTs l l
  | [] => trivial
  | x :: l => ⟨leT_refl x, leTs_refl l⟩

end Go.Sx
end

section
namespace Go.Sx

section
variable {P : Program} {tab : Tab} {hp : Hp} {nx : Nat} {C : Cx} {S : Nat → Prop} {w : World}

theorem new_ok (hs : HSat hp nx C S w) {t : TypeId} {cs : List V} {arr : Array Value} (hl : LR w.heap C nx cs arr) {K : Post} (hk : K (.ptr nx 0) ((nx, .cells t cs) :: hp) (nx + 1)) :
    Does P (do pure (.pointer (some (← newRow t arr)))) nx C S w K := by
  have hn := Cx.add_at C nx ⟨some w.heap.size, 0, 0, 0⟩
  obtain ⟨h1, h2⟩ := alloc_sat hs (.cells arr t) (.cells t cs) ⟨some w.heap.size, 0, 0, 0⟩ ⟨w.heap.size, arr, by rw [hn], alloc_at w _, hl.mono (fun p b hj => ⟨hj, alloc_lt w _ (hs.jlt p b hj).1⟩) (fun n hn => Cx.add_lt C _ hn) (by omega), fun _ => Iff.rfl⟩
  exact ⟨_, .pointer (some ⟨w.heap.size, 0, none⟩), _, _, _, _, _, by simp [newRow], hk, h1, .ptr _ _ _ (by omega) (by rw [hn]), h2, by omega⟩

theorem alloc_ok (hT : TabOk P tab) (hs : HSat hp nx C S w) {t : TypeId} {ti : TI} (ht : tab t = some ti) {K : Post} (hk : K (.ptr nx 0) ((nx, .cells t (ofVals ti.zero)) :: hp) (nx + 1)) : Does P (Instr.alloc t true (.tuple #[])) nx C S w K := by
  obtain ⟨i0, d, z, hi0, hu, hsz0, hby0, hdesc, hz, hzl, hzlen, hfs⟩ := hT t _ ht
  obtain ⟨v, val, w', hp', nx', C', S', h1, h2⟩ := new_ok (P := P) hs (t := t) (ofVals_LR (h := w.heap) (C := C) (B := nx) z ti.zero hzl) hk
  refine ⟨v, val, w', hp', nx', C', S', ?_, h2⟩
  simp only [Instr.alloc, Sem.run_bind, run_zero hi0 hz, Result.andThen_ok]
  rw [← h1]
  simp [newVar]

theorem box_ok (hs : HSat hp nx C S w) {t : TypeId} {x : V} {vx : Value} (hx : VR w.heap C nx x vx) (hkn : V.known x = true) {K : Post} (hk : K (.ptr nx 0) ((nx, .cells t x.cells) :: hp) (nx + 1)) : Does P (Instr.box t vx) nx C S w K := by
  obtain ⟨v, val, w', hp', nx', C', S', h1, h2⟩ := new_ok (P := P) hs (t := t) (cells_LR hkn hx) hk
  refine ⟨v, val, w', hp', nx', C', S', ?_, h2⟩
  rw [← h1]
  simp [Instr.box, newVar]

theorem fold_setsA : ∀ (us : List Value) (o j : Nat) (arr : Array Value), (us.zipIdx j).foldl (fun cs (c, j) => cs.setIfInBounds (o + j) c) arr = setsA (o + j) us arr
  | [], _, _, _ => rfl
  | u :: us, o, j, arr => by
    simp only [List.zipIdx_cons, List.foldl_cons, setsA]
    rw [fold_setsA us o (j + 1)]
    rfl

theorem fill_row {sz : Nat} : ∀ (us : List (Nat × Value)) (k : Nat) (arr : Array Value), (∀ (i : Nat) u, us[i]? = some u → u.1 = k + i ∧ u.2.cells.size = sz) → (k + us.length) * sz ≤ arr.size →
    ∃ arr', Instr.fill (fun i => some (i * sz, sz)) arr us = some arr' ∧ arr'.size = arr.size ∧ (∀ p, p < k * sz → arr'[p]? = arr[p]?) ∧ ∀ (i : Nat) u j, us[i]? = some u → j < sz → arr'[(k + i) * sz + j]? = u.2.cells[j]?
  | [], k, arr, _, _ => ⟨arr, rfl, rfl, fun _ _ => rfl, fun i u j h => by simp at h⟩
  | (i0, u) :: us, k, arr, h, hl => by
    obtain ⟨h1, h2⟩ := h 0 _ rfl
    simp only [Nat.add_zero] at h1 h2
    subst h1
    simp only [List.length_cons] at hl
    have hks : (i0 + 1) * sz ≤ arr.size := Nat.le_trans (Nat.mul_le_mul_right _ (by omega)) hl
    rw [Nat.add_mul, Nat.one_mul] at hks
    obtain ⟨arr', g1, g2, g3, g4⟩ := fill_row us (i0 + 1) (setsA (i0 * sz) u.cells.toList arr) (fun i u hu => by
      have := h (i + 1) u hu
      exact ⟨by omega, this.2⟩) (by rw [setsA_size]; rw [show i0 + 1 + us.length = i0 + (us.length + 1) by omega]; exact hl)
    refine ⟨arr', ?_, by rw [g2, setsA_size], ?_, ?_⟩
    · simp only [Instr.fill]
      rw [if_neg (by simp [h2]; omega)]
      rw [← g1]
      congr 1
      rw [← Array.foldl_toList, Array.toList_zipIdx]
      have := fold_setsA u.cells.toList (i0 * sz) 0 arr
      simpa using this
    · intro p hp
      rw [g3 p (by rw [Nat.add_mul]; omega), setsA_get _ _ _ _ (by simp [h2]; omega), if_neg (by omega)]
    · intro i v j hi hj
      cases i with
      | zero =>
        simp at hi
        subst hi
        rw [Nat.add_zero, g3 _ (by rw [Nat.add_mul]; omega), setsA_get _ _ _ _ (by simp [h2]; omega), if_pos (by simp [h2]; omega)]
        rw [show i0 * sz + j - i0 * sz = j by omega]
        simp
      | succ i =>
        have := g4 i v j hi hj
        rw [show i0 + (i + 1) = i0 + 1 + i by omega]
        exact this

/-- a new row -/
theorem row_ok (hs : HSat hp nx C S w) {e sz n cap : Nat} {α : Type} {enc : α → V} {xs : List α} {arr : Array Value} (hn : xs.length = n) (hc : n ≤ cap) (ha : cap * sz ≤ arr.size)
    (hcs : ∀ (i : Nat) x, xs[i]? = some x → (enc x).cells.length = sz)
    (hce : ∀ (i : Nat) x (j : Nat) (y : V), xs[i]? = some x → (enc x).cells[j]? = some y → ∃ v, arr[i * sz + j]? = some v ∧ v.oneCell' = true ∧ IR w.heap C.J y v) {K : Post} (hk : K (.vec nx) ((nx, .row e sz enc xs) :: hp) (nx + 1)) :
    Does P (do pure (.slice (some (← newRow e arr)) n cap)) nx C S w K := by
  subst hn
  have hN := Cx.add_at C nx ⟨some w.heap.size, xs.length, cap, sz⟩
  obtain ⟨h1, h2⟩ := alloc_sat hs (.cells arr e) (.row e sz enc xs) ⟨some w.heap.size, xs.length, cap, sz⟩ ⟨by rw [hN], by rw [hN], .inr ⟨w.heap.size, arr, (0, 0), by rw [hN], alloc_at w _, unfrozen_zero _, by rw [hN]; exact hc, by rw [hN]; exact ha, hcs,
    fun i x j y hx hy => by
      obtain ⟨v, hv, hone, hr⟩ := hce i x j y hx hy
      exact ⟨v, hv, hone, hr.mono (fun p b hj => ⟨hj, alloc_lt w _ (hs.jlt p b hj).1⟩)⟩, fun _ => Iff.rfl⟩⟩
  have hv := VR.vec (h := (w.alloc (.cells arr e)).heap) (C := C.add nx ⟨some w.heap.size, xs.length, cap, sz⟩) (B := nx + 1) nx w.heap.size (by omega) (by rw [hN])
  rw [hN] at hv
  exact ⟨_, .slice (some ⟨w.heap.size, 0, none⟩) xs.length cap, _, _, _, _, _, by simp [newRow], hk, h1, hv, h2, by omega⟩

theorem buildSlice_ok (hT : TabOk P tab) (hs : HSat hp nx C S w) {t : TypeId} {len : Nat} {ps : List (Nat × V)} {us : List (Nat × Value)} {K : Post} (hl : ps.map (·.1) = us.map (·.1))
    (hv : ∀ (i : Nat) x u, ps[i]? = some x → us[i]? = some u → VR w.heap C nx x.2 u.2) (hk : oBuildSlice tab t len ps hp nx K) : Does P (Instr.buildSlice t len us.toArray) nx C S w K := by
  unfold oBuildSlice at hk
  cases ht : tab t with
  | none => rw [ht] at hk; cases hk
  | some ti =>
    obtain ⟨s1, s2, D, zs, q5⟩ := ti
    rw [ht] at hk
    obtain ⟨i0, d, z, hi0, hu, hsz0, hby0, hdesc, hz, hzl, hzlen, hfs⟩ := hT t _ ht
    cases D <;> first | (cases hk; done) | skip
    rename_i e
    simp only at hk
    cases he : tab e with
    | none => rw [he] at hk; cases hk
    | some te =>
      rw [he] at hk
      simp only [DescOk] at hdesc
      subst hdesc
      obtain ⟨ie, de, ze, hie, hue, hsze, hbye, _, hze, hzel, hzelen, _⟩ := hT e _ he
      simp only at hk
      cases hc : (Nat.beq ps.length len && (Nat.ble len 1000 && Nat.ble te.size 1000)) <;> rw [hc] at hk <;> first | (cases hk; done) | skip
      simp only [Bool.and_eq_true] at hc
      obtain ⟨hc1, hc2, hc3⟩ := hc
      have hc1 := Nat.eq_of_beq_eq_true hc1
      have hc2 := Nat.le_of_ble_eq_true hc2
      have hc3 := Nat.le_of_ble_eq_true hc3
      simp only [cond_true] at hk
      obtain ⟨α, enc, xs, hxl, hx, hk⟩ := hk
      have hul : us.length = len := by
        have := congrArg List.length hl
        simp at this
        omega
      have hus : ∀ (i : Nat) u, us[i]? = some u → u.1 = 0 + i ∧ u.2.cells.size = te.size := by
        intro i u hiu
        have hi : i < us.length := (List.getElem?_eq_some_iff.1 hiu).1
        have hix : i < xs.length := by omega
        have hip : i < ps.length := by omega
        obtain ⟨g1, g2, g3, g4, g5⟩ := hx i xs[i] (List.getElem?_eq_getElem hix)
        have hpi : ps[i]? = some ps[i] := List.getElem?_eq_getElem hip
        rw [hpi] at g1 g5
        simp at g1
        simp only [leP] at g5
        have e1 : (ps.map (·.1))[i]? = (us.map (·.1))[i]? := by rw [hl]
        simp [hpi, hiu] at e1
        have hvr := VR.leA hs.jj g5 (hv i _ u hpi hiu)
        have := (cells_LR g3 hvr).1
        exact ⟨by omega, by omega⟩
      have hle : len * te.size ≤ 1000000 := by
        have := Nat.mul_le_mul hc2 hc3
        omega
      let base : Array Value := (Array.range (len * te.size)).map fun i => (if len * te.size = 0 then #[] else ze.cells)[i % (if len * te.size = 0 then #[] else ze.cells).size]!
      obtain ⟨arr', g1, g2, g3, g4⟩ := fill_row us 0 base hus (by simp [base, hul])
      have hbs : base.size = len * te.size := by simp [base]
      obtain ⟨v, val, w', hp', nx', C', S', r1, r2⟩ := row_ok (P := P) hs (e := e) (sz := te.size) (n := len) (cap := len) (enc := enc) (xs := xs) (arr := arr') hxl (Nat.le_refl _) (by rw [g2, hbs]; exact Nat.le_refl _)
        (fun i x hxi => (hx i x hxi).2.1) (fun i x j y hxi hy => by
          obtain ⟨q1, q2, q3, q4, q5⟩ := hx i x hxi
          have hi : i < len := by rw [← hxl]; exact (List.getElem?_eq_some_iff.1 hxi).1
          have hip : ps[i]? = some ps[i] := List.getElem?_eq_getElem (by omega)
          have hiu : us[i]? = some us[i] := List.getElem?_eq_getElem (by omega)
          rw [hip] at q5
          simp only [leP] at q5
          have hvr := VR.leA hs.jj q5 (hv i _ _ hip hiu)
          have hLR := cells_LR q3 hvr
          obtain ⟨c, hc, hr⟩ := hLR.get hy
          have hj : j < te.size := by
            have := (List.getElem?_eq_some_iff.1 hy).1
            omega
          have := g4 i us[i] j hiu hj
          rw [Nat.zero_add] at this
          exact ⟨c, this.trans hc, toList_cells hLR (known_flats q3) c (by simpa using Array.mem_of_getElem? hc), imm_IR hr (imm_cells q4 y (List.mem_of_getElem? hy))⟩) hk
      refine ⟨v, val, w', hp', nx', C', S', ?_, r2⟩
      rw [← r1]
      simp only [Instr.buildSlice, Sem.run_bind, run_und hu, Result.andThen_ok, run_size hie, hsze]
      have hfill : ∀ zero : Array Value, zero = (if len * te.size = 0 then #[] else ze.cells) → Instr.fill (fun i => some (i * te.size, te.size)) ((Array.range (len * te.size)).map fun i => zero[i % zero.size]!) us = some arr' := by
        intro zero hzr
        rw [hzr]
        exact g1
      rw [if_neg (by omega)]
      by_cases h0 : len * te.size = 0
      · have hf := hfill #[] (by rw [if_pos h0])
        rw [if_pos h0]
        simp only [Sem.run_bind, Sem.run_pure, Result.andThen_ok]
        rw [hf]
        rfl
      · have hf := hfill ze.cells (by rw [if_neg h0])
        rw [if_neg h0]
        simp only [Sem.run_bind, Sem.run_pure, Result.andThen_ok, run_zero hie hze]
        rw [hf]
        rfl

end
end Go.Sx
end

section
namespace Go.Sx

section
variable {P : Program} {tab : Tab} {hp : Hp} {nx : Nat} {C : Cx} {S : Nat → Prop} {w : World}

theorem wrap_small {n : Int} (h0 : 0 ≤ n) (h1 : n ≤ 2 ^ 47) : IntKind.i64.wrap n = n := by
  simp only [IntKind.wrap, IntKind.bits, IntKind.signed]
  have : n % (2 ^ 64 : Int) = n := Int.emod_eq_of_lt h0 (by omega)
  simp only [this]
  rw [if_neg]
  simp
  omega

theorem makeSlice_ok (hT : TabOk P tab) (hs : HSat hp nx C S w) {t : TypeId} {l c : V} {vl vc : Value} {K : Post} (hl : VR w.heap C nx l vl) (hc : VR w.heap C nx c vc) (hk : oMakeSlice tab t l c hp nx K) : Does P (Instr.makeSlice t vl vc) nx C S w K := by
  unfold oMakeSlice at hk
  cases ht : tab t with
  | none => rw [ht] at hk; cases hk
  | some ti =>
    obtain ⟨s1, s2, D, zs, q5⟩ := ti
    rw [ht] at hk
    obtain ⟨i0, d, z, hi0, hu, hsz0, hby0, hdesc, hz, hzl, hzlen, hfs⟩ := hT t _ ht
    cases D <;> first | (cases hk; done) | skip
    rename_i e
    simp only at hk
    cases he : tab e with
    | none => rw [he] at hk; cases hk
    | some te =>
      rw [he] at hk
      simp only [DescOk] at hdesc
      subst hdesc
      obtain ⟨ie, de, ze, hie, hue, hsze, hbye, _, hze, hzel, hzelen, _⟩ := hT e _ he
      simp only at hk
      cases l <;> first | (cases hk; done) | skip
      rename_i k1 n
      cases k1 <;> first | (cases hk; done) | skip
      cases c <;> first | (cases hk; done) | skip
      rename_i k2 m
      cases k2 <;> first | (cases hk; done) | skip
      simp only at hk
      obtain ⟨⟨h0, h1, h2, h3⟩, α, enc, x, hx1, hx2, hx3, hk⟩ := hk
      have hvl := hl.int_inv
      have hvc := hc.int_inv
      subst hvl hvc
      obtain ⟨n', rfl⟩ := Int.eq_ofNat_of_zero_le h0
      obtain ⟨m', rfl⟩ := Int.eq_ofNat_of_zero_le (Int.le_trans h0 h1)
      have hzs : ze.cells.size = te.size := by rw [← hzelen.1, ← hzel]; simp
      let zero : Array Value := if m' * te.size = 0 then #[] else ze.cells
      let arr : Array Value := (Array.range (m' * te.size)).map fun i => zero[i % zero.size]!
      obtain ⟨v, val, w', hp', nx', C', S', r1, r2⟩ := row_ok (P := P) hs (e := e) (sz := te.size) (n := n') (cap := m') (enc := enc) (xs := List.replicate n' x) (arr := arr) (by simp) (by omega) (by simp [arr])
        (fun i y hy => by
          have := List.eq_of_mem_replicate (List.mem_of_getElem? hy)
          subst this; exact hx2) (fun i y j u hy hu => by
          have := List.eq_of_mem_replicate (List.mem_of_getElem? hy)
          subst this
          have hi : i < n' := by simpa using (List.getElem?_eq_some_iff.1 hy).1
          have hj : j < te.size := by rw [← hx2]; exact (List.getElem?_eq_some_iff.1 hu).1
          have hlt : i * te.size + j < m' * te.size := by
            have h4 : (i + 1) * te.size ≤ m' * te.size := Nat.mul_le_mul_right _ (by omega)
            rw [Nat.add_mul] at h4
            omega
          have hne : m' * te.size ≠ 0 := by omega
          have hzero : zero = ze.cells := if_neg hne
          rw [hx1] at hu
          have hLR := ofVals_LR (h := w.heap) (C := C) (B := nx) ze te.zero hzel
          obtain ⟨c, hc1, hc2⟩ := hLR.get hu
          refine ⟨c, ?_, hzelen.2 c (by rw [← hzel]; simpa using Array.mem_of_getElem? hc1), imm_IR hc2 (imm_cells hx3 u (by rw [hx1]; exact List.mem_of_getElem? hu))⟩
          have hmod : (i * te.size + j) % te.size = j := by rw [Nat.mul_comm, Nat.mul_add_mod, Nat.mod_eq_of_lt hj]
          have : arr[i * te.size + j]? = some (zero[(i * te.size + j) % zero.size]!) := by
            simp only [arr]
            rw [Array.getElem?_map, Array.getElem?_range, if_pos hlt]
            rfl
          rw [this, hzero, hzs, hmod]
          have hj2 : j < ze.cells.size := by omega
          rw [getElem!_pos ze.cells j hj2]
          rw [Array.getElem?_eq_getElem hj2] at hc1
          exact hc1) (by simpa using hk)
      refine ⟨v, val, w', hp', nx', C', S', ?_, r2⟩
      rw [← r1]
      have e1 := wrap_small (n := (n' : Int)) (by omega) (by omega)
      have e2 := wrap_small (n := (m' : Int)) (by omega) (by omega)
      have hb1 : ¬ ((te.bytes : Int) * (m' : Int) > 2 ^ 48) := by rw [Int.mul_comm]; omega
      simp only [Instr.makeSlice, Sem.run_bind, run_und hu, Result.andThen_ok, asInt, asIntOf, Sem.run_pure, run_info hie, hbye, e1, e2]
      rw [if_neg (by simp [hb1]; omega)]
      simp only [Sem.run_bind, run_askRoom, Result.andThen_ok, run_size hie, hsze, Int.toNat_natCast]
      by_cases h0 : m' * te.size = 0
      · rw [if_pos h0]
        simp only [arr, zero, if_pos h0]
        rfl
      · rw [if_neg h0]
        simp only [arr, zero, if_neg h0, Sem.run_bind, run_zero hie hze, Result.andThen_ok, Sem.run_pure]

/-- what is read at once -/
def SrcR (P : Program) (w : World) (C : Cx) (sz : Nat) (vx : Value) {α : Type} (enc : α → V) (ys : List α) : Prop :=
  ∃ cells : Array Value, (∀ w1, (Builtin.lenOf vx).run P w1 = .ok ys.length w1) ∧ (∀ w1, w1.heap = w.heap → (Builtin.firstCells sz ys.length vx).run P w1 = .ok cells w1) ∧ cells.size = ys.length * sz ∧
    (∀ (i : Nat) y, ys[i]? = some y → (enc y).cells.length = sz) ∧
    ∀ (i : Nat) y (j : Nat) (c : V), ys[i]? = some y → (enc y).cells[j]? = some c → ∃ v, cells[i * sz + j]? = some v ∧ v.oneCell' = true ∧ IR w.heap C.J c v

theorem SrcR.row {sz b o cap : Nat} {arr : Array Value} {ty : TypeId} {fz : Nat × Nat} {α : Type} {enc : α → V} {ys : List α} (hb : w.heap[b]? = some (.cells arr ty fz)) (hl : o + ys.length * sz ≤ arr.size ∨ ys.length * sz = 0)
    (hcs : ∀ (i : Nat) x, ys[i]? = some x → (enc x).cells.length = sz)
    (hce : ∀ (i : Nat) x (j : Nat) (y : V), ys[i]? = some x → (enc x).cells[j]? = some y → ∃ v, arr[o + (i * sz + j)]? = some v ∧ v.oneCell' = true ∧ IR w.heap C.J y v) : SrcR P w C sz (.slice (some ⟨b, o, none⟩) ys.length cap) enc ys := by
  rcases hl with hl | hl
  · refine ⟨arr.extract o (o + ys.length * sz), fun w1 => rfl, fun w1 h1 => ?_, by simp; omega, hcs, fun i y j c hy hc => ?_⟩
    · simp only [Builtin.firstCells]
      exact run_loadCells' (by rw [h1]; exact hb) hl
    · obtain ⟨v, hv, hone, hr⟩ := hce i y j c hy hc
      refine ⟨v, ?_, hone, hr⟩
      have hi := (List.getElem?_eq_some_iff.1 hy).1
      have hj : j < sz := by rw [← hcs i y hy]; exact (List.getElem?_eq_some_iff.1 hc).1
      have : (i + 1) * sz ≤ ys.length * sz := Nat.mul_le_mul_right _ (by omega)
      rw [Nat.add_mul] at this
      rw [Array.getElem?_extract, if_pos (by omega)]
      exact hv
  · refine ⟨#[], fun w1 => rfl, fun w1 h1 => ?_, by simp [hl], hcs, fun i y j c hy hc => ?_⟩
    · simp only [Builtin.firstCells, hl]; rfl
    · have hi := (List.getElem?_eq_some_iff.1 hy).1
      have hj : j < sz := by rw [← hcs i y hy]; exact (List.getElem?_eq_some_iff.1 hc).1
      have : (i + 1) * sz ≤ ys.length * sz := Nat.mul_le_mul_right _ (by omega)
      rw [Nat.add_mul] at this
      omega

theorem src_ok (hs : HSat hp nx C S w) {sz : Nat} {x : V} {vx : Value} {K : (α : Type) → (α → V) → List α → Prop} (hx : VR w.heap C nx x vx) (h : src hp sz x K) : ∃ (α : Type) (enc : α → V) (ys : List α), K α enc ys ∧ SrcR P w C sz vx enc ys := by
  cases x <;> first | (cases h; done) | skip
  case nils =>
    have e := hx.nils_inv
    subst e
    exact ⟨Empty, _, [], h, #[], fun w1 => rfl, fun w1 _ => rfl, by simp, by simp, by simp⟩
  case str l =>
    simp only [src] at h
    cases hsz : Nat.beq 1 sz <;> rw [hsz] at h <;> first | (cases h; done) | skip
    have hsz' := Nat.eq_of_beq_eq_true hsz
    subst hsz'
    obtain ⟨s, rfl, hl⟩ := hx.str_inv
    have hlen : s.size = l.length := by rw [Go.Lib.size_eq, hl]
    refine ⟨UInt8, encB, l, h, (s.extract 0 l.length).data.map fun b => .int .u8 b.toNat, fun w1 => by simp [Builtin.lenOf, hlen], fun w1 _ => by simp [Builtin.firstCells], ?_, fun i y hy => rfl, fun i y j c hy hc => ?_⟩
    · have e0 : (s.extract 0 l.length).data.toList = l := by rw [Go.Lib.extract_data, hl]; simp
      have : (s.extract 0 l.length).data.size = l.length := by rw [← Array.length_toList, e0]
      rw [Array.size_map, this, Nat.mul_one]
    · have e0 : (s.extract 0 l.length).data.toList = l := by rw [Go.Lib.extract_data, hl]; simp
      cases j with
      | succ j => simp [encB, V.cells] at hc
      | zero =>
        simp [encB, V.cells] at hc
        subst hc
        refine ⟨.int .u8 y.toNat, ?_, rfl, .int _ _⟩
        have : (s.extract 0 l.length).data[i]? = some y := by
          rw [← Array.getElem?_toList, e0, hy]
        rw [Nat.mul_one, Nat.add_zero, Array.getElem?_map, this]
        rfl
  case isl p sz' α enc xs =>
    simp only [src] at h
    cases hsz : Nat.beq sz' sz <;> rw [hsz] at h <;> first | (cases h; done) | skip
    have hsz' := Nat.eq_of_beq_eq_true hsz
    subst hsz'
    refine ⟨α, enc, xs, h, ?_⟩
    rcases hx.isl_inv with ⟨rfl, ad, cap, had, rfl⟩ | ⟨b, o, cap, arr, ty, fz, cv, hj, hb, hc, hss, ha, hv, hone, rfl⟩
    · refine ⟨#[], fun w1 => rfl, fun w1 _ => ?_, by simp, by simp, by simp⟩
      cases ad with
      | none => rfl
      | some a => simp only [Builtin.firstCells, List.length_nil, Nat.zero_mul]; rfl
    · refine SrcR.row hb ?_ hss (fun i x j y hx hy => ⟨cv i j, ha i x j y hx hy, hone i x j y hx hy, hv i x j y hx hy⟩)
      by_cases h0 : xs.length * sz' = 0
      · exact .inr h0
      · left
        have hp1 : 0 < sz' := Nat.pos_of_ne_zero (fun e => h0 (by rw [e]; simp))
        have hp2 : 0 < xs.length := Nat.pos_of_ne_zero (fun e => h0 (by rw [e]; simp))
        have hget : xs[xs.length - 1]? = some xs[xs.length - 1] := List.getElem?_eq_getElem (by omega)
        have hl2 := hss _ _ hget
        have hgc : (enc xs[xs.length - 1]).cells[sz' - 1]? = some _ := List.getElem?_eq_getElem (by omega)
        have := (Array.getElem?_eq_some_iff.1 (ha _ _ _ _ hget hgc)).1
        have e1 : xs.length * sz' = (xs.length - 1) * sz' + sz' := by
          rw [← Nat.succ_mul]; congr 1; omega
        omega
  case vec n =>
    simp only [src] at h
    cases hob : obj n hp <;> rw [hob] at h <;> first | (cases h; done) | skip
    rename_i ob
    cases ob <;> first | (cases h; done) | skip
    rename_i ty sz' α enc xs
    simp only at h
    cases hsz : Nat.beq sz' sz <;> rw [hsz] at h <;> first | (cases h; done) | skip
    have hsz' := Nat.eq_of_beq_eq_true hsz
    subst hsz'
    refine ⟨α, enc, xs, h, ?_⟩
    obtain ⟨S1, ⟨hlen1, hsz1, ho⟩, _, hsub⟩ := hs.hr.get hob
    obtain ⟨hn, ⟨b, hb, rfl⟩ | ⟨hb, rfl⟩⟩ := hx.vec_inv
    · rcases ho with ⟨hb', _⟩ | ⟨b', arr, fz, hb', hh, huf, hc1, hc2, hcs, hce, hSb⟩
      · rw [hb] at hb'; cases hb'
      · rw [hb] at hb'
        cases hb'
        rw [hlen1]
        refine SrcR.row hh (.inl ?_) hcs (fun i x j y hx hy => by
          obtain ⟨v, hv, hone, hr⟩ := hce i x j y hx hy
          exact ⟨v, by simpa using hv, hone, hr⟩)
        have := Nat.mul_le_mul_right sz' hc1
        omega
    · rcases ho with ⟨_, rfl, _⟩ | ⟨b', arr, fz, hb', _⟩
      · exact ⟨#[], fun w1 => rfl, fun w1 _ => rfl, by simp, by simp, by simp⟩
      · rw [hb] at hb'; cases hb'
  case sub n q l =>
    simp only [src] at h
    cases hob : obj n hp <;> rw [hob] at h <;> first | (cases h; done) | skip
    rename_i ob
    cases ob <;> first | (cases h; done) | skip
    rename_i ty sz' α enc xs
    simp only at h
    cases hsz : Nat.beq sz' sz <;> rw [hsz] at h <;> first | (cases h; done) | skip
    have hsz' := Nat.eq_of_beq_eq_true hsz
    subst hsz'
    refine ⟨α, enc, (xs.drop q).take l, h, ?_⟩
    obtain ⟨S1, ⟨hlen1, hsz1, ho⟩, _, hsub⟩ := hs.hr.get hob
    have hget : ∀ (i : Nat) x, ((xs.drop q).take l)[i]? = some x → i < l ∧ xs[q + i]? = some x := by
      intro i x hx
      rw [List.getElem?_take] at hx
      split at hx
      · rename_i hlt; rw [List.getElem?_drop] at hx; exact ⟨hlt, hx⟩
      · cases hx
    obtain ⟨hn, ⟨b, c, p, hb, hc, hl1, hp0, rfl⟩ | ⟨hb, h0, rfl⟩⟩ := hx.sub_inv
    · rcases ho with ⟨hb', _⟩ | ⟨b', arr, fz, hb', hh, huf, hc1, hc2, hcs, hce, hSb⟩
      · rw [hb] at hb'; cases hb'
      · rw [hb] at hb'
        cases hb'
        rw [hlen1] at hl1
        have hlen2 : ((xs.drop q).take l).length = l := by simp; omega
        have := SrcR.row (P := P) (C := C) (cap := c) (o := p) (sz := sz') (enc := enc) (ys := (xs.drop q).take l) hh (by
          rw [hlen2]
          rcases hp0 with h0 | h0
          · right; rw [h0]; simp
          · left
            rw [h0, hsz1, ← Nat.add_mul]
            exact Nat.le_trans (Nat.mul_le_mul_right _ (by omega)) hc2) (fun i x hx => hcs _ x (hget i x hx).2) (fun i x j y hx hy => by
          obtain ⟨hil, hx2⟩ := hget i x hx
          obtain ⟨v, hv, hone, hr⟩ := hce _ x j y hx2 hy
          refine ⟨v, ?_, hone, hr⟩
          rcases hp0 with h0 | h0
          · omega
          · rw [← hv, h0, hsz1]
            congr 1
            rw [Nat.add_mul]
            omega)
        rw [hlen2] at this
        exact this
    · subst h0
      exact ⟨#[], fun w1 => by simp [Builtin.lenOf], fun w1 _ => by simp [Builtin.firstCells], by simp, by simp, by simp⟩

end
end Go.Sx
end

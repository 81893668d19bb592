/- Soundness of append; no condition. Soundness of conversions and readings of strings; all operations; no condition. Soundness of all operations but calls; no condition. The computed weakest precondition of regions and code, and what calls and loops owe; no condition. Soundness of one operation of a region, guards and calls too; no condition. -/
import Derived.Laws.BytesString
import Derived.Laws.RangeString
import Derived.Test.YtlbbdkecjpaglaaFab

set_option linter.all false

section
namespace Go.Sx

section
variable {P : Program} {tab : Tab} {hp : Hp} {nx : Nat} {C : Cx} {S : Nat → Prop} {w : World}

theorem Does.of_run {x x' : Sem Value} {K : Post} (h : Does P x nx C S w K) (e2 : x'.run P w = x.run P w) : Does P x' nx C S w K := by
  obtain ⟨v, val, w', hp', nx', C', S', h1, h2⟩ := h
  exact ⟨v, val, w', hp', nx', C', S', by rw [e2]; exact h1, h2⟩

/-- what comes of a world that differs in a draw alone -/
theorem Does.drew {x x' : Sem Value} {K : Post} {w1 : World} (hh : w1.heap = w.heap) (h1 : w1.os = w.os) (h2 : w1.tape = w.tape) (h3 : w1.output = w.output) (h : Does P x nx C S w1 K) (e : x'.run P w = x.run P w1) : Does P x' nx C S w K := by
  obtain ⟨v, val, w', hp', nx', C', S', r1, r2, r3, r4, r5, r6⟩ := h
  refine ⟨v, val, w', hp', nx', C', S', by rw [e]; exact r1, r2, r3, r4, ?_, r6⟩
  exact ⟨by rw [← hh]; exact r5.size, by rw [← hh]; exact r5.keep, by rw [← hh]; exact r5.own, r5.jmono, by rw [← hh]; exact r5.jnew, r5.names, r5.os.trans h1, r5.tape.trans h2, r5.output.trans h3⟩

/-- a row is let go -/
theorem drop_sat (hs : HSat hp nx C S w) {n : Nat} {o : Ob} (ho : obj n hp = some o) : ∃ S2, HSat (del n hp) nx C S2 w ∧ (∀ b, S2 b → S b) ∧ ∃ S1, OR w.heap C nx n S1 o ∧ (∀ b, S1 b → ¬ S2 b) ∧ (∀ b, S b ↔ S1 b ∨ S2 b) := by
  obtain ⟨S1, S2, h1, h2, h3, h4, h5, h6⟩ := hs.hr.del ho
  exact ⟨S2, ⟨h2, fun b hb => hs.lt b ((h4 b).2 (.inr hb)), fun p b hj => ⟨(hs.jlt p b hj).1, fun hb => (hs.jlt p b hj).2 ((h4 b).2 (.inr hb))⟩, hs.jj⟩, fun b hb => (h4 b).2 (.inr hb), S1, h1, h3, h4⟩

/-- less is owned -/
theorem Does.less {x : Sem Value} {K : Post} {S2 : Nat → Prop} (hsub : ∀ b, S2 b → S b) (h : Does P x nx C S2 w K) : Does P x nx C S w K := by
  obtain ⟨v, val, w', hp', nx', C', S', r1, r2, r3, r4, r5, r6⟩ := h
  refine ⟨v, val, w', hp', nx', C', S', r1, r2, r3, r4, ?_, r6⟩
  exact ⟨r5.size, fun b hb hn => r5.keep b hb (fun h => hn (hsub b h)), fun b hb => (r5.own b hb).imp (hsub b) id, r5.jmono, fun p b hj => (r5.jnew p b hj).imp id (fun h => h.imp (hsub b) id), r5.names, r5.os, r5.tape, r5.output⟩

/-- an append that grows: its run -/
theorem run_append_grow {t u ty e : TypeId} {ie : TypeInfo} {ze : Value} {du : TypeDesc} (hu : P.underlying t = some (.slice e)) (hu2 : P.underlying u = some du) (hdu : du = .string ∨ ∃ k, du = .slice k) (hie : P.info? e = some ie) (hz : ie.zero = some ze)
    {base : Option Addr} {sLen sCap n : Nat} {vy : Value} {old new : Array Value} (hn : ∀ w1, (Builtin.lenOf vy).run P w1 = .ok n w1) (hnew : ∀ w1, w1.heap = w.heap → (Builtin.firstCells ie.size n vy).run P w1 = .ok new w1)
    (hold : ∀ w1, w1.heap = w.heap → (Builtin.firstCells ie.size sLen (.slice base sLen sCap)).run P w1 = .ok old w1) (hgt : sCap < sLen + n) (hb0 : ie.bytes ≠ 0) (hb : (sLen + n) * ie.bytes ≤ 2 ^ 47) :
    ∃ cap, sLen + n ≤ cap ∧ (Builtin.append_ #[t, u] ty #[.slice base sLen sCap, vy]).run P w = (do pure (.slice (some (← newRow e (old ++ new ++ Builtin.zeroCells ze.cells (cap - (sLen + n))))) (sLen + n) cap) : Sem Value).run P w.drew := by
  refine ⟨(Question.appendCap (sLen + n) sCap e).cut (w.tape w.drawn (.appendCap (sLen + n) sCap e)), by simp only [Question.cut]; omega, ?_⟩
  have hfit : ¬ (Builtin.nextslicecap (sLen + n) sCap * ie.bytes > 2 ^ 48) := by
    have := growslice_fits hgt (bytes := ie.bytes) (by omega)
    omega
  have hz2 : ∀ w1, (zeroValue e).run P w1 = .ok ze w1 := fun w1 => run_zero hie hz w1
  unfold Builtin.append_
  rcases hdu with rfl | ⟨k, rfl⟩
  all_goals
    simp only [List.size_toArray, List.length_cons, List.length_nil, List.getElem?_toArray, List.getElem?_cons_zero, List.getElem?_cons_succ]
    simp only [Sem.run_bind, run_und hu, run_und hu2, Result.andThen_ok, run_size hie, hn, run_info hie, Sem.run_pure, if_false, Bool.false_eq_true]
    rw [if_neg (by omega)]
    simp only [Sem.run_bind, run_info hie, Result.andThen_ok]
    rw [if_neg (by simp [hb0])]
    simp only [Sem.run_bind, run_info hie, Result.andThen_ok]
    rw [if_neg hfit]
    simp only [Sem.run_bind, run_choose, run_info hie, Question.forced, Bool.false_eq_true, if_false, Result.andThen_ok, run_askRoom, World.drew_eq]
    rw [hold w.drew rfl]
    simp only [Result.andThen_ok, Bool.not_false, if_true]
    rw [hnew w.drew rfl]
    simp only [Result.andThen_ok, hz2]
    rfl

/-- an append that finds room: its run -/
theorem run_append_room {t u ty e : TypeId} {ie : TypeInfo} {du : TypeDesc} (hu : P.underlying t = some (.slice e)) (hu2 : P.underlying u = some du) (hdu : du = .string ∨ ∃ k, du = .slice k) (hie : P.info? e = some ie)
    {base : Option Addr} {sLen sCap n : Nat} {vy : Value} {new : Array Value} (hn : ∀ w1, (Builtin.lenOf vy).run P w1 = .ok n w1) (hnew : ∀ w1, w1.heap = w.heap → (Builtin.firstCells ie.size n vy).run P w1 = .ok new w1)
    (hle : sLen + n ≤ sCap) : (Builtin.append_ #[t, u] ty #[.slice base sLen sCap, vy]).run P w = (match base with
      | some a => (do storeCells (a.add (sLen * ie.size)) new.toList; pure (.slice base (sLen + n) sCap) : Sem Value)
      | none => pure (.slice base (sLen + n) sCap)).run P w := by
  unfold Builtin.append_
  rcases hdu with rfl | ⟨k, rfl⟩
  all_goals
    simp only [List.size_toArray, List.length_cons, List.length_nil, List.getElem?_toArray, List.getElem?_cons_zero, List.getElem?_cons_succ]
    simp only [Sem.run_bind, run_und hu, run_und hu2, Result.andThen_ok, run_size hie, hn, Sem.run_pure, if_false, Bool.false_eq_true]
    rw [if_pos hle]
    simp only [Sem.run_bind, Bool.not_false, if_true]
    rw [hnew w rfl]
    simp only [Result.andThen_ok]
    cases base <;> simp

theorem map_get {α β : Type} {enc : α → V} {enc' : β → V} {xs : List α} {ys : List β} (h : ys.map enc' = xs.map enc) {i : Nat} {x : α} (hx : xs[i]? = some x) : ∃ y, ys[i]? = some y ∧ enc' y = enc x := by
  have e : (ys.map enc')[i]? = (xs.map enc)[i]? := by rw [h]
  simp [hx] at e
  obtain ⟨y, hy, he⟩ := e
  exact ⟨y, hy, he⟩

/-- the array behind an append that grows -/
theorem grown_cells {J : Bool → Nat → Prop} {h : Array Obj} {sz : Nat} {α : Type} {enc : α → V} {xs zs : List α} {old new rest : Array Value}
    (ho : old.size = xs.length * sz) (hn : new.size = zs.length * sz)
    (h1 : ∀ (i : Nat) x (j : Nat) (y : V), xs[i]? = some x → (enc x).cells[j]? = some y → ∃ v, old[i * sz + j]? = some v ∧ v.oneCell' = true ∧ IR h J y v)
    (h2 : ∀ (i : Nat) x (j : Nat) (y : V), zs[i]? = some x → (enc x).cells[j]? = some y → ∃ v, new[i * sz + j]? = some v ∧ v.oneCell' = true ∧ IR h J y v)
    (h3 : ∀ (i : Nat) x, (xs ++ zs)[i]? = some x → (enc x).cells.length = sz) :
    ∀ (i : Nat) x (j : Nat) (y : V), (xs ++ zs)[i]? = some x → (enc x).cells[j]? = some y → ∃ v, (old ++ new ++ rest)[i * sz + j]? = some v ∧ v.oneCell' = true ∧ IR h J y v := by
  intro i x j y hx hy
  have hj : j < sz := by rw [← h3 i x hx]; exact (List.getElem?_eq_some_iff.1 hy).1
  by_cases hi : i < xs.length
  · rw [List.getElem?_append_left hi] at hx
    obtain ⟨v, hv, hone, hr⟩ := h1 i x j y hx hy
    have hb : i * sz + j < old.size := (Array.getElem?_eq_some_iff.1 hv).1
    refine ⟨v, ?_, hone, hr⟩
    rw [Array.append_assoc, Array.getElem?_append_left hb]
    exact hv
  · rw [List.getElem?_append_right (by omega)] at hx
    obtain ⟨v, hv, hone, hr⟩ := h2 _ x j y hx hy
    have hb : (i - xs.length) * sz + j < new.size := (Array.getElem?_eq_some_iff.1 hv).1
    refine ⟨v, ?_, hone, hr⟩
    have e : i * sz + j = old.size + ((i - xs.length) * sz + j) := by
      rw [ho, ← Nat.add_assoc, ← Nat.add_mul]
      congr 2
      omega
    rw [Array.append_assoc, e, Array.getElem?_append_right (by omega), Nat.add_sub_cancel_left, Array.getElem?_append_left hb]
    exact hv

theorem append_ok (hT : TabOk P tab) (hs : HSat hp nx C S w) {t u ty : TypeId} {x y : V} {vx vy : Value} {K : Post} (hx : VR w.heap C nx x vx) (hy : VR w.heap C nx y vy) {du : TypeDesc} (hu2 : P.underlying u = some du) (hdu : du = .string ∨ ∃ k, du = .slice k)
    (hk : oAppend tab t x y hp nx K) : Does P (Builtin.append_ #[t, u] ty #[vx, vy]) nx C S w K := by
  unfold oAppend at hk
  cases ht : tab t with
  | none => rw [ht] at hk; cases hk
  | some ti =>
    obtain ⟨s1, s2, D, zs, q5⟩ := ti
    rw [ht] at hk
    obtain ⟨i0, d, z, hi0, hu, hsz0, hby0, hdesc, hz, hzl, hzlen, hfs⟩ := hT t _ ht
    cases D <;> first | (cases hk; done) | skip
    rename_i e
    simp only at hk
    cases he : tab e with
    | none => rw [he] at hk; cases hk
    | some te =>
      rw [he] at hk
      simp only [DescOk] at hdesc
      subst hdesc
      obtain ⟨ie, de, ze, hie, hue, hsze, hbye, _, hze, hzel, hzelen, _⟩ := hT e _ he
      simp only at hk
      cases hb0 : Nat.beq te.bytes 0 <;> rw [hb0] at hk <;> first | (cases hk; done) | skip
      have hb0 : ie.bytes ≠ 0 := fun e => by rw [hbye] at e; rw [e] at hb0; cases hb0
      simp only [cond_false] at hk
      have hzs : ze.cells.size = te.size := by rw [← hzelen.1, ← hzel]; simp
      have zsz : ∀ n, (Builtin.zeroCells ze.cells n).size = n * te.size := fun n => by simp [Builtin.zeroCells, hzs]
      cases x <;> first | (cases hk; done) | skip
      case nils =>
        have e0 := hx.nils_inv
        subst e0
        simp only at hk
        obtain ⟨α, enc, ys, ⟨hbd, hk⟩, cells, hn, hnew, hcsz, hcl, hce⟩ := src_ok (P := P) hs hy hk
        by_cases h0 : ys.length = 0
        · have hys := List.length_eq_zero_iff.1 h0
          subst hys
          have run := run_append_room (w := w) (ty := ty) (base := none) (sLen := 0) (sCap := 0) hu hu2 hdu hie (new := cells) hn (by rw [hsze]; exact hnew) (by simp)
          have hN := Cx.add_at C nx ⟨none, 0, 0, te.size⟩
          refine ⟨.vec nx, .slice none 0 0, w, (nx, .row e te.size enc []) :: hp, nx + 1, C.add nx ⟨none, 0, 0, te.size⟩, S, by rw [run]; rfl, hk, ⟨?_, hs.lt, hs.jlt, hs.jj⟩, .vecNil _ (by omega) (by rw [hN]), ⟨Nat.le_refl _, fun _ _ _ => rfl, fun _ h => .inl h, fun _ _ h => h, fun _ _ h => .inl h, fun n hn => Cx.add_lt C _ hn, rfl, rfl, rfl⟩, by omega⟩
          exact .cons nx _ hp (fun _ => False) S S (by omega) (fun a ha => by have := hs.hr.names a ha; omega) ⟨by rw [hN]; rfl, by rw [hN], .inl ⟨by rw [hN], rfl, by rw [hN], fun _ h => h⟩⟩
            (hs.hr.mono (fun p b hj => ⟨hj, rfl⟩) (fun n hn => Cx.add_lt C _ hn) (by omega) (fun _ _ => rfl)) (fun _ h => h.elim) (fun b => by simp)
        · obtain ⟨cap, hcap, run⟩ := run_append_grow (w := w) (ty := ty) (base := none) (sLen := 0) (sCap := 0) (n := ys.length) (vy := vy) (old := #[]) (new := cells) hu hu2 hdu hie hze hn (by rw [hsze]; exact hnew) (fun w1 _ => rfl) (by omega) hb0 (by rw [hbye]; simpa using hbd)
          obtain ⟨hs1, _⟩ := drew_sat (w' := w.drew) hs rfl rfl rfl rfl
          refine Does.drew (w1 := w.drew) rfl rfl rfl rfl (row_ok (P := P) hs1 (e := e) (sz := te.size) (n := 0 + ys.length) (cap := cap) (enc := enc) (xs := ys) (by simp) hcap (by
            simp only [Array.size_append, zsz, hcsz, List.size_toArray, List.length_nil]
            have : ys.length + (cap - (0 + ys.length)) = cap := by omega
            rw [Nat.zero_add, ← Nat.add_mul, this]
            exact Nat.le_refl _) hcl ?_ hk) run
          have := grown_cells (J := C.J) (h := w.drew.heap) (sz := te.size) (enc := enc) (xs := []) (zs := ys) (old := #[]) (new := cells) (rest := Builtin.zeroCells ze.cells (cap - (0 + ys.length))) (by simp) hcsz (by simp) hce (by simpa using hcl)
          simpa using this
      case vec n =>
        simp only at hk
        cases hob : obj n hp <;> rw [hob] at hk <;> first | (cases hk; done) | skip
        rename_i ob
        cases ob <;> first | (cases hk; done) | skip
        rename_i e' sz α enc xs
        simp only at hk
        cases hc : (Nat.beq e' e && Nat.beq sz te.size) <;> rw [hc] at hk <;> first | (cases hk; done) | skip
        simp only [Bool.and_eq_true] at hc
        have hc1 := Nat.eq_of_beq_eq_true hc.1
        have hc2 := Nat.eq_of_beq_eq_true hc.2
        subst hc1 hc2
        simp only [cond_true] at hk
        obtain ⟨β, enc', ys, ⟨zs', hmap, hbd, hk⟩, cells, hn, hnew, hcsz, hcl, hce⟩ := src_ok (P := P) hs hy hk
        simp only [delK_eq] at hk
        have hlen : zs'.length = ys.length := by
          have := congrArg List.length hmap
          simpa using this.symm
        have hcl' : ∀ (i : Nat) x, zs'[i]? = some x → (enc x).cells.length = te.size := fun i x hx => by
          obtain ⟨y, hy, he⟩ := map_get hmap hx
          rw [← he]; exact hcl i y hy
        have hce' : ∀ (i : Nat) x (j : Nat) (c : V), zs'[i]? = some x → (enc x).cells[j]? = some c → ∃ v, cells[i * te.size + j]? = some v ∧ v.oneCell' = true ∧ IR w.heap C.J c v := fun i x j c hx hc => by
          obtain ⟨y, hy, he⟩ := map_get hmap hx
          rw [← he] at hc; exact hce i y j c hy hc
        rw [← hlen] at hn hnew hcsz
        obtain ⟨S2, hs2, hsub, S1, ⟨hlen1, hsz1, ho⟩, hdis, hS⟩ := drop_sat hs hob
        have hnn : n < nx := hs.hr.names _ (by
          have : ∀ (l : Hp), obj n l = some (.row e' te.size enc xs) → (n, Ob.row e' te.size enc xs) ∈ l := by
            intro l
            induction l with
            | nil => intro h; simp [obj] at h
            | cons c r ih =>
              intro h
              obtain ⟨c1, c2⟩ := c
              simp only [obj] at h
              by_cases hc : c1 = n
              · subst hc; simp at h; subst h; simp
              · rw [beq_ne hc] at h; simp [ih h]
          exact this hp hob)
        have old : ∀ (arr : Array Value) (fz : Nat × Nat) (b : Nat), w.heap[b]? = some (.cells arr e' fz) → xs.length ≤ (C.N n).cap → (C.N n).cap * te.size ≤ arr.size → ∀ (i : Nat) x (j : Nat) (y : V), xs[i]? = some x → (enc x).cells[j]? = some y → ∀ v, arr[i * te.size + j]? = some v →
            (enc x).cells.length = te.size → (arr.extract 0 (0 + xs.length * te.size))[i * te.size + j]? = some v := by
          intro arr fz b hb h1 h2 i x j y hx hy v hv hl
          have hi := (List.getElem?_eq_some_iff.1 hx).1
          have hj : j < te.size := by rw [← hl]; exact (List.getElem?_eq_some_iff.1 hy).1
          have h4 : (i + 1) * te.size ≤ xs.length * te.size := Nat.mul_le_mul_right _ (by omega)
          have h5 := Nat.mul_le_mul_right te.size h1
          rw [Nat.add_mul] at h4
          rw [Array.getElem?_extract, if_pos (by omega), Nat.zero_add]
          exact hv
        obtain ⟨_, ⟨b, hb, rfl⟩ | ⟨hb, rfl⟩⟩ := hx.vec_inv
        · rcases ho with ⟨hb', _⟩ | ⟨b', arr, fz, hb', hh, huf, hcc1, hcc2, hcs, hcce, hSb⟩
          · rw [hb] at hb'; cases hb'
          · rw [hb] at hb'
            cases hb'
            rw [hlen1]
            have hall : ∀ (i : Nat) x, (xs ++ zs')[i]? = some x → (enc x).cells.length = te.size := by
              intro i x hx
              by_cases hi : i < xs.length
              · rw [List.getElem?_append_left hi] at hx; exact hcs i x hx
              · rw [List.getElem?_append_right (by omega)] at hx; exact hcl' _ x hx
            have hold1 : ∀ (i : Nat) x (j : Nat) (y : V), xs[i]? = some x → (enc x).cells[j]? = some y → ∃ v, (arr.extract 0 (0 + xs.length * te.size))[i * te.size + j]? = some v ∧ v.oneCell' = true ∧ IR w.heap C.J y v := fun i x j y hx hy => by
              obtain ⟨v, hv, hone, hr⟩ := hcce i x j y hx hy
              exact ⟨v, old arr fz b hh hcc1 hcc2 i x j y hx hy v hv (hcs i x hx), hone, hr⟩
            have hle0 : xs.length * te.size ≤ arr.size := Nat.le_trans (Nat.mul_le_mul_right _ hcc1) hcc2
            have holds : (arr.extract 0 (0 + xs.length * te.size)).size = xs.length * te.size := by simp; omega
            by_cases hroom : xs.length + zs'.length ≤ (C.N n).cap
            · have run := run_append_room (w := w) (ty := ty) (base := some ⟨b, 0, none⟩) (sLen := xs.length) (sCap := (C.N n).cap) hu hu2 hdu hie (new := cells) hn (by rw [hsze]; exact hnew) hroom
              have hmul := Nat.mul_le_mul_right te.size hroom
              rw [Nat.add_mul] at hmul
              have hst := run_storeCells (P := P) cells.toList w b (xs.length * te.size) 0 arr e' fz hh huf (by simp [hcsz]; omega) (fun v hv => by
                obtain ⟨k, hk', rfl⟩ := List.getElem_of_mem hv
                have hk2 : k < cells.size := by simpa using hk'
                have hsz' : 0 < te.size := by
                  rcases Nat.eq_zero_or_pos te.size with h | h
                  · rw [h] at hcsz; simp at hcsz; simp [hcsz] at hk2
                  · exact h
                have hdiv : k / te.size < zs'.length := by rw [Nat.div_lt_iff_lt_mul hsz']; omega
                have hmod : k % te.size < te.size := Nat.mod_lt _ hsz'
                have hget : zs'[k / te.size]? = some zs'[k / te.size] := List.getElem?_eq_getElem hdiv
                have hl := hcl' _ _ hget
                have hgc : (enc zs'[k / te.size]).cells[k % te.size]? = some (enc zs'[k / te.size]).cells[k % te.size] := List.getElem?_eq_getElem (by omega)
                obtain ⟨v, hv, hone, hr⟩ := hce' _ _ _ _ hget hgc
                rw [show k / te.size * te.size + k % te.size = k by rw [Nat.mul_comm]; exact Nat.div_add_mod k te.size] at hv
                rw [Array.getElem?_eq_getElem hk2] at hv
                cases hv
                simpa using hone)
              have hN := Cx.add_at C nx ⟨some b, xs.length + zs'.length, (C.N n).cap, te.size⟩
              have hbS1 : S1 b := (hSb b).2 rfl
              have hbS : S b := (hS b).2 (.inl hbS1)
              let w' := putB w b (.cells (setsA (xs.length * te.size + 0) cells.toList arr) e' fz)
              have keep : ∀ k, k ≠ b → w'.heap[k]? = w.heap[k]? := fun k hk => putB_ne (fun e => hk e.symm)
              have hjk : ∀ p k, C.J p k → (C.add nx ⟨some b, xs.length + zs'.length, (C.N n).cap, te.size⟩).J p k ∧ w'.heap[k]? = w.heap[k]? := fun p k hj => ⟨hj, keep k (fun e => (hs.jlt p k hj).2 (e ▸ hbS))⟩
              have hNl : ∀ k, k < nx → (C.add nx ⟨some b, xs.length + zs'.length, (C.N n).cap, te.size⟩).N k = C.N k := fun k hk => Cx.add_lt C _ hk
              have hvv := VR.vec (h := w'.heap) (C := C.add nx ⟨some b, xs.length + zs'.length, (C.N n).cap, te.size⟩) (B := nx + 1) nx b (by omega) (by rw [hN])
              rw [hN] at hvv
              refine ⟨.vec nx, .slice (some ⟨b, 0, none⟩) (xs.length + zs'.length) (C.N n).cap, w', (nx, .row e' te.size enc (xs ++ zs')) :: del n hp, nx + 1, C.add nx ⟨some b, xs.length + zs'.length, (C.N n).cap, te.size⟩, fun k => k = b ∨ S2 k, ?_, hk, ⟨?_, ?_, ?_, hs.jj⟩, hvv, ⟨?_, fun k hk hS => keep k (fun e => hS (e ▸ hbS)), ?_, fun _ _ h => h, fun _ _ h => .inl h, hNl, rfl, rfl, rfl⟩, by omega⟩
              · rw [run]
                simp only [Sem.run_bind, add_plain, hsze, Nat.zero_add, hst, Result.andThen_ok, Sem.run_pure]
                rfl
              · refine .cons nx _ (del n hp) (fun k => k = b) S2 _ (by omega) (fun a ha => by have := hs2.hr.names a ha; omega) ⟨by rw [hN]; simp, by rw [hN], .inr ⟨b, _, fz, by rw [hN], putB_at (lt_of_at hh), by rw [setsA_size]; exact huf, by rw [hN]; simpa using hroom, by rw [hN, setsA_size]; exact hcc2, hall, ?_, fun _ => Iff.rfl⟩⟩
                  (hs2.hr.mono hjk hNl (by omega) (fun k hk => keep k (fun e => hdis b hbS1 (e ▸ hk)))) (fun k hk => hk ▸ hdis b hbS1) (fun _ => Iff.rfl)
                intro i x j y hx hy
                have hj : j < te.size := by rw [← hall i x hx]; exact (List.getElem?_eq_some_iff.1 hy).1
                rw [setsA_get _ _ _ _ (by simp [hcsz]; omega)]
                by_cases hi : i < xs.length
                · rw [List.getElem?_append_left hi] at hx
                  obtain ⟨v, hv, hone, hr⟩ := hcce i x j y hx hy
                  refine ⟨v, ?_, hone, hr.mono hjk⟩
                  have h4 : (i + 1) * te.size ≤ xs.length * te.size := Nat.mul_le_mul_right _ (by omega)
                  rw [Nat.add_mul] at h4
                  rw [if_neg (by omega)]
                  exact hv
                · rw [List.getElem?_append_right (by omega)] at hx
                  obtain ⟨v, hv, hone, hr⟩ := hce' _ x j y hx hy
                  refine ⟨v, ?_, hone, hr.mono hjk⟩
                  have e1 : i * te.size + j = xs.length * te.size + ((i - xs.length) * te.size + j) := by
                    rw [← Nat.add_assoc, ← Nat.add_mul]
                    congr 2
                    omega
                  have hlt := (Array.getElem?_eq_some_iff.1 hv).1
                  rw [if_pos (by simp; omega), e1]
                  rw [show xs.length * te.size + ((i - xs.length) * te.size + j) - (xs.length * te.size + 0) = (i - xs.length) * te.size + j by omega]
                  simpa using hv
              · rintro k (rfl | hk)
                · simp only [w', putB_size]; exact lt_of_at hh
                · simp only [w', putB_size]; exact hs2.lt k hk
              · intro p k hj
                simp only [w', putB_size]
                have := hs.jlt p k hj
                refine ⟨this.1, ?_⟩
                rintro (rfl | hk)
                · exact this.2 hbS
                · exact this.2 (hsub k hk)
              · simp only [w', putB_size]; exact Nat.le_refl _
              · rintro k (rfl | hk)
                · exact .inl hbS
                · exact .inl (hsub k hk)
            · obtain ⟨cap, hcap, run⟩ := run_append_grow (w := w) (ty := ty) (base := some ⟨b, 0, none⟩) (sLen := xs.length) (sCap := (C.N n).cap) (n := zs'.length) (vy := vy) (old := arr.extract 0 (0 + xs.length * te.size)) (new := cells) hu hu2 hdu hie hze hn (by rw [hsze]; exact hnew)
                (fun w1 h1 => by
                  simp only [Builtin.firstCells, hsze]
                  exact run_loadCells' (by rw [h1]; exact hh) (by omega)) (by omega) hb0 (by rw [hbye]; exact hbd)
              obtain ⟨hs1, _⟩ := drew_sat (w' := w.drew) hs2 rfl rfl rfl rfl
              refine Does.less hsub (Does.drew (w1 := w.drew) rfl rfl rfl rfl (row_ok (P := P) hs1 (e := e') (sz := te.size) (n := xs.length + zs'.length) (cap := cap) (enc := enc) (xs := xs ++ zs') (by simp) hcap (by
                simp only [Array.size_append, zsz, hcsz, holds]
                have : xs.length + zs'.length + (cap - (xs.length + zs'.length)) = cap := by omega
                rw [← Nat.add_mul, ← Nat.add_mul, this]
                exact Nat.le_refl _) hall ?_ hk) run)
              exact grown_cells (J := C.J) (h := w.drew.heap) holds hcsz hold1 hce' hall
        · rcases ho with ⟨_, rfl, hcap0, hSn⟩ | ⟨b', arr, fz, hb', _⟩
          · by_cases h0 : zs'.length = 0
            · have hzs0 := List.length_eq_zero_iff.1 h0
              subst hzs0
              have run := run_append_room (w := w) (ty := ty) (base := none) (sLen := 0) (sCap := 0) hu hu2 hdu hie (new := cells) hn (by rw [hsze]; exact hnew) (by simp)
              have hN := Cx.add_at C nx ⟨none, 0, 0, te.size⟩
              refine ⟨.vec nx, .slice none 0 0, w, (nx, .row e' te.size enc ([] ++ [])) :: del n hp, nx + 1, C.add nx ⟨none, 0, 0, te.size⟩, S2, by rw [run]; rfl, hk, ⟨?_, hs2.lt, hs2.jlt, hs.jj⟩, .vecNil _ (by omega) (by rw [hN]), ⟨Nat.le_refl _, fun _ _ _ => rfl, fun k hk => .inl (hsub k hk), fun _ _ h => h, fun _ _ h => .inl h, fun n hn => Cx.add_lt C _ hn, rfl, rfl, rfl⟩, by omega⟩
              exact .cons nx _ (del n hp) (fun _ => False) S2 S2 (by omega) (fun a ha => by have := hs2.hr.names a ha; omega) ⟨by rw [hN]; rfl, by rw [hN], .inl ⟨by rw [hN], rfl, by rw [hN], fun _ h => h⟩⟩
                (hs2.hr.mono (fun p b hj => ⟨hj, rfl⟩) (fun n hn => Cx.add_lt C _ hn) (by omega) (fun _ _ => rfl)) (fun _ h => h.elim) (fun b => by simp)
            · obtain ⟨cap, hcap, run⟩ := run_append_grow (w := w) (ty := ty) (base := none) (sLen := 0) (sCap := 0) (n := zs'.length) (vy := vy) (old := #[]) (new := cells) hu hu2 hdu hie hze hn (by rw [hsze]; exact hnew) (fun w1 _ => rfl) (by omega) hb0 (by rw [hbye]; simpa using hbd)
              obtain ⟨hs1, _⟩ := drew_sat (w' := w.drew) hs2 rfl rfl rfl rfl
              refine Does.less hsub (Does.drew (w1 := w.drew) rfl rfl rfl rfl (row_ok (P := P) hs1 (e := e') (sz := te.size) (n := 0 + zs'.length) (cap := cap) (enc := enc) (xs := [] ++ zs') (by simp) hcap (by
                simp only [Array.size_append, zsz, hcsz, List.size_toArray, List.length_nil]
                have : zs'.length + (cap - (0 + zs'.length)) = cap := by omega
                rw [Nat.zero_add, ← Nat.add_mul, this]
                exact Nat.le_refl _) (by simpa using hcl') ?_ hk) run)
              exact grown_cells (J := C.J) (h := w.drew.heap) (sz := te.size) (enc := enc) (xs := []) (zs := zs') (old := #[]) (new := cells) (by simp) hcsz (by simp) hce' (by simpa using hcl')
          · rw [hb] at hb'; cases hb'

end
end Go.Sx
end

section
namespace Go.Sx

section
variable {P : Program} {tab : Tab} {hp : Hp} {nx : Nat} {C : Cx} {S : Nat → Prop} {w : World}

theorem freeze_eq {w : World} {b : Nat} {arr : Array Value} {ty : TypeId} (h : w.heap[b]? = some (.cells arr ty (0, 0))) (n : Nat) : w.freeze ⟨b, n, none⟩ 1 = putB w b (.cells arr ty (n, n + 1)) := by
  have hb := lt_of_at h
  have : w.heap[b] = .cells arr ty (0, 0) := by rw [Array.getElem?_eq_getElem hb] at h; exact Option.some.inj h
  unfold World.freeze putB
  rw [if_neg (by omega)]
  congr 1
  apply Array.ext
  · simp
  · intro i h1 h2
    simp only [Array.getElem_modify]
    by_cases e : b = i
    · subst e; simp [this]
    · have h3 : (w.heap.setIfInBounds b (Obj.cells arr ty (n, n + 1)))[i]? = w.heap[i]? := Array.getElem?_setIfInBounds_ne e
      rw [Array.getElem?_eq_getElem h2, Array.getElem?_eq_getElem (by simpa using h1)] at h3
      simp only [if_neg e]
      exact (Option.some.inj h3).symm

/-- a string's bytes, as a new row -/
theorem bytes_ok (hs : HSat hp nx C S w) {e : TypeId} {s : ByteArray} {l : List UInt8} (hl : s.data.toList = l) {K : Post} (hk : K (.vec nx) ((nx, .row e 1 encB l) :: hp) (nx + 1)) : Does P (Conv.stringToBytes e s) nx C S w K := by
  have hlen : s.size = l.length := by rw [Go.Lib.size_eq, hl]
  let cap := (Question.appendCap s.size 0 e).cut (w.tape w.drawn (.appendCap s.size 0 e))
  have hcap : s.size ≤ cap := by simp only [cap, Question.cut]; omega
  let arr : Array Value := (s.data.map fun b => Value.int .u8 b.toNat) ++ Array.replicate (cap - s.size) (.int .u8 0)
  have hdsz : s.data.size = s.size := rfl
  have hasz : arr.size = cap := by simp [arr, hdsz]; omega
  obtain ⟨hs1, _⟩ := drew_sat (w' := w.drew) hs rfl rfl rfl rfl
  let w2 := w.drew.alloc (.cells arr e)
  have hb2 : w2.heap[w.heap.size]? = some (.cells arr e (0, 0)) := alloc_at w.drew _
  let w3 := putB w2 w.heap.size (.cells arr e (arr.size, arr.size + 1))
  have run : (Conv.stringToBytes e s).run P w = .ok (.slice (some ⟨w.heap.size, 0, none⟩) s.size cap) w3 := by
    simp only [Conv.stringToBytes, Sem.run_bind, run_choose, Question.forced, Bool.false_eq_true, if_false, Result.andThen_ok, World.drew_eq, newRow, run_newObj, World.alloc_eq, Sem.run_pure, markStringish, run_shape]
    have : (w.drew.alloc (.cells arr e)).shape? w.heap.size = some (e, arr.size) := by simp only [World.shape?]; rw [hb2]
    rw [show (w.drew.alloc (.cells ((s.data.map fun b => Value.int .u8 b.toNat) ++ Array.replicate (cap - s.size) (.int .u8 0)) e)).shape? w.drew.heap.size = some (e, arr.size) from this]
    simp only [run_freeze, Result.andThen_ok]
    have := freeze_eq hb2 arr.size
    show Result.ok _ ((w.drew.alloc (.cells arr e)).freeze ⟨w.heap.size, arr.size, none⟩ 1) = _
    rw [this]
    rfl
  have hN := Cx.add_at C nx ⟨some w.heap.size, l.length, cap, 1⟩
  have hsz3 : w3.heap.size = w.heap.size + 1 := by simp only [w3, putB_size]; exact World.size_alloc ..
  have keep : ∀ k, k < w.heap.size → w3.heap[k]? = w.heap[k]? := fun k hk => by
    simp only [w3]; rw [putB_ne (by omega)]; exact alloc_lt w.drew _ hk
  have hjk : ∀ p k, C.J p k → (C.add nx ⟨some w.heap.size, l.length, cap, 1⟩).J p k ∧ w3.heap[k]? = w.heap[k]? := fun p k hj => ⟨hj, keep k (hs.jlt p k hj).1⟩
  have hvv := VR.vec (h := w3.heap) (C := C.add nx ⟨some w.heap.size, l.length, cap, 1⟩) (B := nx + 1) nx w.heap.size (by omega) (by rw [hN])
  rw [hN] at hvv
  refine ⟨.vec nx, _, w3, (nx, .row e 1 encB l) :: hp, nx + 1, C.add nx ⟨some w.heap.size, l.length, cap, 1⟩, fun k => k = w.heap.size ∨ S k, run, hk, ⟨?_, ?_, ?_, hs.jj⟩, by rw [hlen]; exact hvv, ⟨by omega, fun k hk _ => keep k hk, ?_, fun _ _ h => h, fun _ _ h => .inl h, fun n hn => Cx.add_lt C _ hn, rfl, rfl, rfl⟩, by omega⟩
  · refine .cons nx _ hp (fun k => k = w.heap.size) S _ (by omega) (fun a ha => by have := hs.hr.names a ha; omega) ⟨by rw [hN], by rw [hN], .inr ⟨w.heap.size, arr, (arr.size, arr.size + 1), by rw [hN], putB_at (lt_of_at hb2), fun p hp h => by omega, by rw [hN]; show l.length ≤ cap; omega, by rw [hN]; show cap * 1 ≤ arr.size; omega, fun i x hx => rfl, ?_, fun _ => Iff.rfl⟩⟩
      (hs.hr.mono hjk (fun n hn => Cx.add_lt C _ hn) (by omega) (fun k hk => keep k (hs.lt k hk))) (fun k hk hS => by have := hs.lt k hS; omega) (fun _ => Iff.rfl)
    intro i x j y hx hy
    cases j with
    | succ j => simp [encB, V.cells] at hy
    | zero =>
      simp [encB, V.cells] at hy
      subst hy
      refine ⟨.int .u8 x.toNat, ?_, rfl, .int _ _⟩
      have hi := (List.getElem?_eq_some_iff.1 hx).1
      have : s.data[i]? = some x := by rw [← Array.getElem?_toList, hl, hx]
      rw [Nat.mul_one, Nat.add_zero, Array.getElem?_append_left (by simp [hdsz]; omega), Array.getElem?_map, this]
      rfl
  · rintro k (rfl | hk)
    · omega
    · have := hs.lt k hk; omega
  · intro p k hj
    have := hs.jlt p k hj
    refine ⟨by omega, ?_⟩
    rintro (rfl | hk)
    · omega
    · exact this.2 hk
  · rintro k (rfl | hk)
    · exact .inr (Nat.le_refl _)
    · exact .inl hk

theorem foldl_push (l : List UInt8) : ∀ (s : ByteArray), ((l.map fun b => (b.toNat : Int)).foldl (fun r n => r.push (UInt8.ofNat n.toNat)) s).data.toList = s.data.toList ++ l := by
  induction l with
  | nil => intro s; simp
  | cons b l ih =>
    intro s
    simp only [List.map_cons, List.foldl_cons]
    rw [ih]
    simp

theorem tab_str (hT : TabOk P tab) {t : TypeId} {a b : Nat} {c : List Value} {q5 : Bool} (h : tab t = some ⟨a, b, .str, c, q5⟩) : P.underlying t = some .string := by
  obtain ⟨_, _, _, _, hu, _, _, hd, _⟩ := hT t _ h
  simp only [DescOk] at hd
  subst hd
  exact hu
theorem tab_slice (hT : TabOk P tab) {t e : TypeId} {a b : Nat} {c : List Value} {q5 : Bool} (h : tab t = some ⟨a, b, .slice e, c, q5⟩) : P.underlying t = some (.slice e) := by
  obtain ⟨_, _, _, _, hu, _, _, hd, _⟩ := hT t _ h
  simp only [DescOk] at hd
  subst hd
  exact hu
theorem tab_int (hT : TabOk P tab) {t : TypeId} {k : IntKind} {a b : Nat} {c : List Value} {q5 : Bool} (h : tab t = some ⟨a, b, .int k, c, q5⟩) : P.underlying t = some (.int k) := by
  obtain ⟨_, _, _, _, hu, _, _, hd, _⟩ := hT t _ h
  simp only [DescOk] at hd
  subst hd
  exact hu

/-- a conversion of bytes to a string -/
theorem str_ok (hs : HSat hp nx C S w) {x : V} {vx : Value} {K : Post} (hx : VR w.heap C nx x vx) (hne : ∀ l, x ≠ .str l) (hk : src hp 1 x (fun _ enc ys => ∃ bs : List UInt8, ys.map enc = bs.map encB ∧ K (.str bs) hp nx)) :
    (∃ A n c, vx = .slice A n c) ∧ Does P (Conv.bytesToString vx) nx C S w K := by
  obtain ⟨α, enc, ys, ⟨bs, hmap, hk2⟩, cells, hn, hnew, hcsz, hcl, hce⟩ := src_ok (P := P) hs hx hk
  have hlen : bs.length = ys.length := by
    have := congrArg List.length hmap
    simpa using this.symm
  have hcells : cells = ((bs.map fun b => (b.toNat : Int)).map (Value.int .u8)).toArray := by
    apply Array.ext_getElem?
    intro i
    by_cases hi : i < bs.length
    · have hget : bs[i]? = some bs[i] := List.getElem?_eq_getElem hi
      obtain ⟨y, hy, he⟩ := map_get hmap hget
      obtain ⟨v, hv, _, hr⟩ := hce i y 0 (encB bs[i]) hy (by rw [he]; rfl)
      cases hr
      simp at hv
      rw [hv]
      simp [hget]
    · rw [Array.getElem?_eq_none (by omega), Array.getElem?_eq_none (by simp; omega)]
  have hsl : ∃ A n c, vx = .slice A n c := by
    cases x <;> first | (exact absurd rfl (hne _)) | (cases hk; done) | skip
    case nils => exact ⟨_, _, _, hx.nils_inv⟩
    case isl => rcases hx.isl_inv with ⟨_, _, _, _, h⟩ | ⟨_, _, _, _, _, _, _, _, _, _, _, _, _, _, h⟩ <;> exact ⟨_, _, _, h⟩
    case vec => obtain ⟨_, ⟨_, _, h⟩ | ⟨_, h⟩⟩ := hx.vec_inv <;> exact ⟨_, _, _, h⟩
    case sub => obtain ⟨_, ⟨_, _, _, _, _, _, _, h⟩ | ⟨_, _, h⟩⟩ := hx.sub_inv <;> exact ⟨_, _, _, h⟩
  refine ⟨hsl, ?_⟩
  obtain ⟨A, n, c, rfl⟩ := hsl
  have hn' := hn w
  simp only [Builtin.lenOf, Sem.run_pure, Result.ok.injEq] at hn'
  obtain ⟨rfl, _⟩ := hn'
  cases A with
  | none =>
    have h0 := hnew w rfl
    simp only [Builtin.firstCells, Sem.run_pure, Result.ok.injEq] at h0
    have hz : bs = [] := by
      have : cells.size = 0 := by rw [← h0.1]; rfl
      exact List.length_eq_zero_iff.1 (by omega)
    subst hz
    exact .here hs (val := .string .empty) rfl (.imm _ _ (.str _ _ rfl)) hk2
  | some a =>
    have h0 := hnew w rfl
    simp only [Builtin.firstCells, Nat.mul_one] at h0
    rw [hcells] at h0
    exact .here hs (run_bytesToString w a _ c _ h0) (.imm _ _ (.str _ _ (by rw [foldl_push]; rfl))) hk2

theorem conv_ok (hT : TabOk P tab) (hs : HSat hp nx C S w) {s d : TypeId} {x : V} {vx : Value} {K : Post} (hx : VR w.heap C nx x vx) (hp0 : ∀ v, convP tab s d x = some v → ∃ val, (convert s d vx).run P w = .ok val w ∧ VR w.heap C nx v val)
    (hk : oConv tab s d x hp nx K) : Does P (convert s d vx) nx C S w K := by
  unfold oConv at hk
  cases hc : convP tab s d x with
  | some v =>
    rw [hc] at hk
    obtain ⟨val, h1, h2⟩ := hp0 v hc
    exact .here hs h1 h2 hk
  | none =>
    rw [hc] at hk
    simp only at hk
    cases htd : tab d with
    | none => rw [htd] at hk; cases hk
    | some td =>
      obtain ⟨d1, d2, D, d4, q5⟩ := td
      rw [htd] at hk
      cases D <;> first | (cases hk; done) | skip
      case str =>
        have hud := tab_str hT htd
        simp only at hk
        cases hts : tab s with
        | none => rw [hts] at hk; cases hk
        | some ts =>
          obtain ⟨s1, s2, D, s4, q5⟩ := ts
          rw [hts] at hk
          cases D <;> first | (cases hk; done) | skip
          rename_i e
          have hus := tab_slice hT hts
          simp only at hk
          cases hte : tab e with
          | none => rw [hte] at hk; cases hk
          | some te =>
            obtain ⟨e1, e2, D, e4, q6⟩ := te
            rw [hte] at hk
            cases D <;> first | (cases hk; done) | skip
            rename_i k
            cases k <;> first | (cases hk; done) | skip
            have hue := tab_int hT hte
            have key : (∀ l, x ≠ .str l) → src hp 1 x (fun _ enc ys => ∃ bs : List UInt8, ys.map enc = bs.map encB ∧ K (.str bs) hp nx) → Does P (convert s d vx) nx C S w K := by
              intro hne hk
              obtain ⟨⟨A, n, c, rfl⟩, h⟩ := str_ok (P := P) hs hx hne hk
              exact h.of_run (run_convert_bytes_string w s d e A n c hus hue hud)
            cases x <;> first | (cases hk; done) | (exact key (fun l e => by cases e) hk)
      case slice e =>
        have hud := tab_slice hT htd
        simp only at hk
        cases hts : tab s with
        | none => rw [hts] at hk; cases hk
        | some ts =>
          obtain ⟨s1, s2, D, s4, q5⟩ := ts
          rw [hts] at hk
          cases D <;> first | (cases hk; done) | skip
          have hus := tab_str hT hts
          simp only at hk
          cases hte : tab e with
          | none => rw [hte] at hk; cases hk
          | some te =>
            obtain ⟨e1, e2, D, e4, q6⟩ := te
            rw [hte] at hk
            cases D <;> first | (cases hk; done) | skip
            rename_i k
            cases k <;> first | (cases hk; done) | skip
            have hue := tab_int hT hte
            cases x <;> first | (cases hk; done) | skip
            obtain ⟨sv, rfl, hl⟩ := hx.str_inv
            refine Does.of_run (bytes_ok (P := P) hs hl hk) ?_
            simp only [convert, Sem.run_bind, run_und hus, run_und hud, Result.andThen_ok, run_und hue]

end
end Go.Sx
end

section
namespace Go.Sx

section
variable {P : Program} {tab : Tab} {hp : Hp} {nx : Nat} {C : Cx} {S : Nat → Prop} {w : World}

/-- what an operation of a region comes to -/
def ODoes (P : Program) (x : Sem Next) (nx : Nat) (C : Cx) (S : Nat → Prop) (w : World) (K : Post) : Prop :=
  ∃ v val r w' hp' nx' C' S', x.run P w = .ok r w' ∧ (r = .value val ∨ r = .skip ∧ val = undef) ∧ K v hp' nx' ∧ HSat hp' nx' C' S' w' ∧ VR w'.heap C' nx' v val ∧ Ext nx C C' S S' w w' ∧ nx ≤ nx'

theorem ODoes.of {x : Sem Next} {y : Sem Value} {K : Post} (h : Does P y nx C S w K) (e : ∀ val w', y.run P w = .ok val w' → x.run P w = .ok (.value val) w') : ODoes P x nx C S w K := by
  obtain ⟨v, val, w', hp', nx', C', S', h1, h2⟩ := h
  exact ⟨v, val, .value val, w', hp', nx', C', S', e _ _ h1, .inl rfl, h2⟩

theorem iter_ok (hs : HSat hp nx C S w) {s : ByteArray} {l : List UInt8} (hl : s.data.toList = l) {K : Post} (hk : K (.ptr nx 0) ((nx, .iter l 0) :: hp) (nx + 1)) : Does P (do pure (.pointer (some ⟨← newObj (.stringIter s 0), 0, none⟩))) nx C S w K := by
  have hn := Cx.add_at C nx ⟨some w.heap.size, 0, 0, 0⟩
  obtain ⟨h1, h2⟩ := alloc_sat hs (.stringIter s 0) (.iter l 0) ⟨some w.heap.size, 0, 0, 0⟩ ⟨w.heap.size, s, by rw [hn], alloc_at w _, hl, fun _ => Iff.rfl⟩
  exact ⟨_, .pointer (some ⟨w.heap.size, 0, none⟩), _, _, _, _, _, by simp, hk, h1, .ptr _ _ _ (by omega) (by rw [hn]), h2, by omega⟩

theorem next_ok (hs : HSat hp nx C S w) {x : V} {vx : Value} {K : Post} (hx : VR w.heap C nx x vx) (t : TypeId) (hk : oNext x hp nx K) : Does P (Instr.next vx true t) nx C S w K := by
  cases x <;> first | (cases hk; done) | skip
  rename_i n o
  cases o with
  | succ _ => cases hk
  | zero =>
    simp only [oNext] at hk
    cases hob : obj n hp <;> rw [hob] at hk <;> first | (cases hk; done) | skip
    rename_i ob
    cases ob <;> first | (cases hk; done) | skip
    rename_i s pos
    obtain ⟨b, hn, hb, rfl⟩ := hx.ptr_inv
    obtain ⟨S1, ⟨b', st, hb', hh, hl, hSb⟩, _, hsub⟩ := hs.hr.get hob
    rw [hb] at hb'
    cases hb'
    have hlen : st.size = s.length := by rw [Go.Lib.size_eq, hl]
    have hget : ∀ w1 : World, w1.heap = w.heap → (getObj b).run P w1 = .ok (.stringIter st pos) w1 := by
      intro w1 h1
      simp only [getObj, Sem.run, h1, hh]
    simp only at hk
    by_cases hlt : pos < s.length
    · rw [show decide (pos < s.length) = true by simp [hlt]] at hk
      simp only [br] at hk
      obtain ⟨hasc, hk⟩ := hk s[pos] (List.getElem?_eq_getElem hlt)
      simp only [updK_eq] at hk
      have hlt2 : pos < st.size := by omega
      have hbyte : st[pos] = s[pos] := by
        simp only [← hl]
        rfl
      have hdec := decode_ascii st pos hlt2 (by rw [hbyte]; exact hasc)
      have hbS : S b := hsub b ((hSb b).2 rfl)
      obtain ⟨h1, h2⟩ := put_sat hs hob hb (.stringIter st (pos + 1)) (o' := .iter s (pos + 1)) (fun S2 ho2 k => by
        obtain ⟨b2, _, hb2, _, _, hS2⟩ := ho2
        rw [hb] at hb2; cases hb2; exact hS2 k) ⟨b, st, hb, putB_at (lt_of_at hh), hl, fun _ => Iff.rfl⟩
      refine ⟨_, .tuple #[.bool true, .int .i64 pos, .int .i32 (s[pos].toNat : Int)], _, _, _, C, S, ?_, hk, h1, ?_, h2, Nat.le_refl _⟩
      · simp only [Instr.next, Sem.run_bind, hget w rfl, Result.andThen_ok]
        rw [if_pos hlt2]
        rw [hdec, hbyte]
        simp only [Sem.run_bind]
        have : (setObj b (.stringIter st (pos + 1))).run P w = .ok () (putB w b (.stringIter st (pos + 1))) := by
          simp only [setObj, Sem.run, hh]
          rfl
        rw [this]
        rfl
      · refine .tup _ _ rfl fun i x v hx hv => ?_
        rcases i with _ | _ | _ | i
        · simp at hx hv; subst hx hv; exact .imm _ _ (.bool _)
        · simp at hx hv; subst hx hv; exact .imm _ _ (.int _ _)
        · simp at hx hv; subst hx hv; exact .imm _ _ (.int _ _)
        · simp at hx
    · rw [show decide (pos < s.length) = false by simp [hlt]] at hk
      simp only [br] at hk
      refine .here hs (val := .tuple #[.bool false]) ?_ (.tup _ _ rfl fun i x v hx hv => ?_) hk
      · simp only [Instr.next, Sem.run_bind, hget w rfl, Result.andThen_ok]
        rw [if_neg (by omega)]
        rfl
      · rcases i with _ | i
        · simp at hx hv; subst hx hv; exact .imm _ _ (.bool _)
        · simp at hx

theorem aop_ok (hT : TabOk P tab) {tm : Tm} {nt : Nat} {a : Act} {al : List (Nat × Bool)} (hs : HSat hp nx C S w) (ht : TSat tm nt C nx w.heap a.tmps) (hg : GOk al a.tmps) {o : Oper} {K : Post} (h : aop tab al tm hp nx o.op K) :
    ODoes P (execOp a.eval o) nx C S w K := by
  have ev := fun x => evg_ok ht hg x
  have worldless : aopW tab al tm hp o.op (fun v => K v hp nx) → ODoes P (execOp a.eval o) nx C S w K := by
    intro h
    obtain ⟨v, val, h1, h2, h3⟩ := aopW_ok hT ht hg hs.hr h
    exact ⟨v, val, .value val, w, hp, nx, C, S, h1 w, .inl rfl, h3, hs, h2, .refl _ _ _ _, Nat.le_refl _⟩
  have fromDoes : ∀ y : Sem Value, execOp a.eval o = (do pure (Next.value (← y)) : Sem Next) → Does P y nx C S w K → ODoes P (execOp a.eval o) nx C S w K := fun y e h =>
    .of h fun val w' hr => by rw [e, Sem.run_bind, hr]; rfl
  have viaW : ∀ (p : Bool) (why : String), (bif p then aopW tab al tm hp o.op (fun v => K v hp nx) else Stuck why) → ODoes P (execOp a.eval o) nx C S w K := by
    intro p why h
    cases p
    · cases h
    · exact worldless h
  cases hop : o.op
  case load t x =>
    rw [hop] at h
    exact fromDoes _ (by simp only [execOp, hop]) (load_ok hT hs (ev x) h)
  case store t x y =>
    rw [hop] at h
    simp only [aop, fV_eq] at h
    obtain ⟨w', hp', h1, h2, h3, h4⟩ := store_ok (P := P) hT hs (ev x) (ev y) h
    exact ⟨.junk, undef, .skip, w', hp', nx, C, S, by simp [execOp, hop, h1], .inr ⟨rfl, rfl⟩, h2, h3, .junk _, h4, Nat.le_refl _⟩
  case alloc t =>
    rw [hop] at h
    simp only [aop] at h
    cases ht' : tab t with
    | none => rw [ht'] at h; cases h
    | some ti =>
      rw [ht'] at h
      simp only [fL_eq] at h
      exact fromDoes _ (by simp only [execOp, hop]) (alloc_ok hT hs ht' h)
  case box t x =>
    rw [hop] at h
    simp only [aop] at h
    cases hk : V.known (evg al tm x) <;> rw [hk] at h
    · cases h
    · simp only [cond_true, fL_eq] at h
      exact fromDoes _ (by simp only [execOp, hop]) (box_ok hs (ev x) hk h)
  case buildSlice t n ps =>
    rw [hop] at h
    obtain ⟨hp1, hp2⟩ := evParts_ok (C := C) (B := nx) ht hg ps.toList
    have := buildSlice_ok (P := P) (us := ps.toList.map fun (i, x) => (i, a.eval x)) hT hs (by rw [hp1]; simp) (fun i x u hx hu => by
        simp only [List.getElem?_map] at hu
        cases hpi : ps.toList[i]? with
        | none => rw [hpi] at hu; cases hu
        | some p => rw [hpi] at hu; cases hu; exact hp2 i x p hx hpi) h
    have e : (ps.toList.map fun (i, x) => (i, a.eval x)).toArray = ps.map fun (i, x) => (i, a.eval x) := by rw [← Array.toList_map]
    rw [e] at this
    exact fromDoes _ (by simp only [execOp, hop]) this
  case makeSlice t l c =>
    rw [hop] at h
    exact fromDoes _ (by simp only [execOp, hop]) (makeSlice_ok hT hs (ev l) (ev c) h)
  case convert s d x =>
    rw [hop] at h
    refine fromDoes _ (by simp only [execOp, hop]) (conv_ok hT hs (ev x) (fun v hv => ?_) h)
    obtain ⟨val, h1, h2⟩ := apure_ok (o := { o with op := .convert s d x }) hT ht hg hs.hr (v := v) hv
    refine ⟨val, ?_, h2⟩
    have := h1 w
    simp only [execOp, Sem.run_bind] at this
    cases hc : (convert s d (a.eval x)).run P w with
    | ok v w' =>
      rw [hc] at this
      simp only [Result.andThen_ok, Sem.run_pure, Result.ok.injEq, Next.value.injEq] at this
      rw [this.1, this.2]
    | halt hh w' => rw [hc] at this; cases this
  case range t x =>
    rw [hop] at h
    simp only [aop] at h
    cases ht' : tab t with
    | none => rw [ht'] at h; cases h
    | some ti =>
      obtain ⟨d1, d2, D, d4, q5⟩ := ti
      rw [ht'] at h
      cases D <;> first | (cases h; done) | skip
      have hu := tab_str hT ht'
      have ex := ev x
      simp only at h
      cases hx : evg al tm x <;> rw [hx] at h ex <;> first | (cases h; done) | skip
      obtain ⟨sv, hsv, hl⟩ := ex.str_inv
      refine fromDoes (Instr.range t (a.eval x)) (by simp only [execOp, hop]) ((iter_ok (P := P) hs hl h).of_run ?_)
      simp only [Instr.range, hsv, Sem.run_bind, run_und hu, Result.andThen_ok, Sem.run_pure]
  case next it b =>
    rw [hop] at h
    cases b
    · exact viaW (isW (.next it false)) _ (by rw [hop]; exact h)
    · exact fromDoes _ (by simp only [execOp, hop]) (next_ok hs (ev it) o.type h)
  case call c =>
    rw [hop] at h
    simp only [aop] at h
    cases hc : c.callee <;> rw [hc] at h <;> first | (cases h; done) | skip
    rename_i bi
    simp only at h
    cases bi
    case append =>
      simp only at h
      cases hal : c.args.toList with
      | nil => rw [hal] at h; cases h
      | cons x l =>
        rw [hal] at h
        cases l with
        | nil => cases h
        | cons y l =>
          cases l with
          | cons _ _ => cases h
          | nil =>
            cases hat : c.argTypes.toList with
            | nil => rw [hat] at h; cases h
            | cons t l2 =>
              rw [hat] at h
              cases l2 with
              | nil => cases h
              | cons u l2 =>
                cases l2 with
                | cons _ _ => cases h
                | nil =>
                  simp only at h
                  have hca : c.args.map a.eval = #[a.eval x, a.eval y] := by
                    have : c.args = #[x, y] := by rw [← Array.toArray_toList (xs := c.args), hal]
                    rw [this]; simp
                  have hct : c.argTypes = #[t, u] := by rw [← Array.toArray_toList (xs := c.argTypes), hat]
                  have go : ∀ du, P.underlying u = some du → (du = .string ∨ ∃ k, du = .slice k) → oAppend tab t (evg al tm x) (evg al tm y) hp nx K → ODoes P (execOp a.eval o) nx C S w K := by
                    intro du hu2 hdu hk
                    have hd := append_ok (P := P) (ty := o.type) hT hs (ev x) (ev y) hu2 hdu hk
                    refine .of hd fun val w' hr => ?_
                    simp only [execOp, hop, Sem.run_bind, resolve, hc, Sem.run_pure, Result.andThen_ok, invoke, builtin, hca, hct, hr]
                  cases htu : tab u with
                  | none => rw [htu] at h; cases h
                  | some tu =>
                    obtain ⟨d1, d2, D, d4, q5⟩ := tu
                    rw [htu] at h
                    cases D <;> first | (cases h; done) | skip
                    case str => exact go _ (tab_str hT htu) (.inl rfl) h
                    case slice e => exact go _ (tab_slice hT htu) (.inr ⟨e, rfl⟩) h
    all_goals (exact viaW _ _ (by rw [hop]; exact h))
  all_goals (rw [hop] at h; simp only [aop] at h; exact viaW _ _ (by rw [hop]; exact h))

end
end Go.Sx
end

section
namespace Go.Sx

/-- a call comes to a value, in a world -/
def CallSem (P : Program) (f : FuncId) (cargs : Array Value) (w : World) (R : Value → World → Prop) : Prop :=
  match (callFunc f cargs).run P w with
  | .ok (.enter g args) w1 => Calls P g args w1 fun e w' => ∃ v, e = .returned v ∧ R v w'
  | .ok (.value v) w1 => R v w1
  | _ => False

/-- what a call owes -/
structure CallOb (P : Program) (f : FuncId) (args : List V) (hp : Hp) (nx : Nat) (K : Post) : Prop where
  out : ∀ C S w cargs, HSat hp nx C S w → LR w.heap C nx args cargs → CallSem P f cargs w fun val w' =>
    ∃ v hp' nx' C' S', K v hp' nx' ∧ HSat hp' nx' C' S' w' ∧ VR w'.heap C' nx' v val ∧ Ext nx C C' S S' w w' ∧ nx ≤ nx'

abbrev PostC := Exit → Tm → Hp → Nat → Prop

def isWhn : V → Bool
  | .whn _ _ _ => true
  | _ => false

def noW : Tm → Bool
  | [] => true
  | (_, v) :: l => !isWhn v && noW l

/-- what code owes -/
def Good (P : Program) (nt ar : Nat) (c : Code) (Q : PostC) (tm : Tm) (hp : Hp) (nx : Nat) : Prop :=
  ∀ C S w a, a.defers = [] → ar ≤ nx → HSat hp nx C S w → TSat tm nt C nx w.heap a.tmps → noW tm = true →
    c.wp P (fun e a' w' => a'.defers = [] ∧ ∃ tm' hp' nx' C' S', Q e tm' hp' nx' ∧ HSat hp' nx' C' S' w' ∧ TSat tm' nt C' nx' w'.heap a'.tmps ∧ Ext ar C C' S S' w w' ∧ ar ≤ nx' ∧ noW tm' = true) a w

structure LoopOb (P : Program) (nt ar : Nat) (c : Code) (Q : PostC) (tm : Tm) (hp : Hp) (nx : Nat) : Prop where
  out : Good P nt ar (.loop c) Q tm hp nx

def memN (t : Nat) : List Nat → Bool
  | [] => false
  | k :: l => bif Nat.beq k t then true else memN t l

def putK (nt : Nat) (gs : List Nat) (d : Option Nat) (v : V) (tm : Tm) (K : Tm → Prop) : Prop := match d with
  | none => K tm
  | some t => bif Nat.blt t nt && !memN t gs then K ((t, v) :: tm) else Stuck "a slot"

/-- where slot g holds b -/
def resV (g : Nat) (b : Bool) : V → V
  | .whn s p x => bif Nat.beq s g then (bif (bif p then b else !b) then x else .tup []) else .whn s p x
  | x => x

def resolve (g : Nat) (b : Bool) : Tm → Tm
  | [] => []
  | (t, x) :: l => (t, resV g b x) :: resolve g b l

def resolveK (g : Nat) (b : Bool) : Tm → (Tm → Prop) → Prop
  | [], K => K []
  | (t, x) :: l, K => fV (resV g b x) fun x => resolveK g b l fun l => K ((t, x) :: l)

theorem resolveK_eq (g : Nat) (b : Bool) (tm : Tm) (K : Tm → Prop) : resolveK g b tm K = K (resolve g b tm) := by
  induction tm generalizing K with
  | nil => rfl
  | cons x l ih => obtain ⟨t, x⟩ := x; simp only [resolveK, fV_eq, ih, resolve]

def clrV : V → V
  | .whn _ _ _ => .junk
  | x => x

def clr : Tm → Tm
  | [] => []
  | (t, x) :: l => (t, clrV x) :: clr l

def clrK : Tm → (Tm → Prop) → Prop
  | [], K => K []
  | (t, x) :: l, K => fV (clrV x) fun x => clrK l fun l => K ((t, x) :: l)

theorem clrK_eq (tm : Tm) (K : Tm → Prop) : clrK tm K = K (clr tm) := by
  induction tm generalizing K with
  | nil => rfl
  | cons x l ih => obtain ⟨t, x⟩ := x; simp only [clrK, fV_eq, ih, clr]

/-- does slot g hold pol? -/
def guardK : Nat → Nat → Bool → Tm → (Tm → Prop) → (Tm → Prop) → Prop
  | 0, _, _, _, _, _ => Stuck "guards"
  | n + 1, g, pol, tm, yes, no => match lk g tm with
    | .bool b => match pol with
      | true => br b (resolveK g true tm fun tm => yes ((g, .bool true) :: tm)) (resolveK g false tm fun tm => no ((g, .bool false) :: tm))
      | false => br b (resolveK g true tm fun tm => no ((g, .bool true) :: tm)) (resolveK g false tm fun tm => yes ((g, .bool false) :: tm))
    | .tup [] => no tm
    | .whn s _ _ => match lk s tm with
      | .bool b => br b (resolveK s true tm fun tm => guardK n g pol ((s, .bool true) :: tm) yes no) (resolveK s false tm fun tm => guardK n g pol ((s, .bool false) :: tm) yes no)
      | _ => Stuck "a guard's guard"
    | _ => Stuck "a guard"

/-- the guards that hold where slot g holds pol -/
def allow : Nat → Nat → Bool → Tm → List (Nat × Bool)
  | 0, _, _, _ => []
  | n + 1, g, pol, tm => (g, pol) :: match lk g tm with
    | .whn s p _ => allow n s p tm
    | _ => []

/-- operations that can be told though they may not be done -/
def gpure (tab : Tab) (al : List (Nat × Bool)) (tm : Tm) (hp : Hp) (o : Op) : Option V := match o with
  | .load t a => aload tab hp t (evg al tm a)
  | o => bif isW o then apure tab al tm hp o else none

/-- an operation, calls too -/
def stepK (P : Program) (tab : Tab) (o : Oper) (tm : Tm) (hp : Hp) (nx : Nat) (K : Post) : Prop := match o.op with
  | .call c => match c.callee with
    | .value f => match evg [] tm f with
      | .func g first caps => fL (first ++ (evgs [] tm c.args.toList ++ caps)) fun args => CallOb P g args hp nx K
      | _ => Stuck "a call of what?"
    | .builtin _ => aop tab [] tm hp nx o.op K
    | _ => Stuck "a method's call"
  | _ => aop tab [] tm hp nx o.op K

def gslot (ops : Array Oper) (j : Nat) : Option Nat := (ops[j]?).bind (·.dst)

abbrev PostT := Tm → Hp → Nat → Prop

/-- one operation of a region, guards and all -/
def oneK (P : Program) (tab : Tab) (nt : Nat) (all : Array Oper) (o : Oper) (gs : List Nat) (tm : Tm) (hp : Hp) (nx : Nat) (K : List Nat → PostT) : Prop := match o.guard with
  | none => stepK P tab o tm hp nx fun v hp nx => putK nt gs o.dst v tm fun tm => K gs tm hp nx
  | some (j, pol) => match gslot all j with
    | none => Stuck "a guard without a slot"
    | some g => match gpure tab (allow 4 g pol tm) tm hp o.op with
      | some v => fV v fun v => fV (bif isWhn v then .junk else .whn g pol v) fun v => putK nt (g :: gs) o.dst v tm fun tm => K (g :: gs) tm hp nx
      | none => guardK 4 g pol tm (fun tm => stepK P tab o tm hp nx fun v hp nx => putK nt gs o.dst v tm fun tm => K gs tm hp nx) (fun tm => putK nt gs o.dst (.tup []) tm fun tm => K gs tm hp nx)

def endK (gs : List Nat) (tm : Tm) (hp : Hp) (nx : Nat) (K : PostT) : Prop := match gs with
  | [] => K tm hp nx
  | _ => clrK tm fun tm => K tm hp nx

/-- a region's operations, in the text's order -/
def aops (P : Program) (tab : Tab) (nt : Nat) (all : Array Oper) : List Oper → List Nat → Tm → Hp → Nat → PostT → Prop
  | [], gs, tm, hp, nx, K => endK gs tm hp nx K
  | o :: os, gs, tm, hp, nx, K => oneK P tab nt all o gs tm hp nx fun gs tm hp nx => aops P tab nt all os gs tm hp nx K

end Go.Sx
end

section
namespace Go.Sx

section
variable {P : Program} {tab : Tab} {hp : Hp} {nx nt : Nat} {C : Cx} {S : Nat → Prop} {w : World}

/-- the guarded values of a frame hang on slots of gs -/
def WL (gs : List Nat) (tm : Tm) : Prop := ∀ e ∈ tm, ∀ g p x, e.2 = .whn g p x → g ∈ gs ∧ isWhn x = false

theorem noW_WL {tm : Tm} : noW tm = true ↔ WL [] tm := by
  induction tm with
  | nil => simp [noW, WL]
  | cons e l ih =>
    obtain ⟨t, v⟩ := e
    simp only [noW, Bool.and_eq_true]
    rw [ih]
    constructor
    · rintro ⟨h1, h2⟩ e he g p x hx
      simp only [List.mem_cons] at he
      rcases he with rfl | he
      · simp only at hx; subst hx; cases h1
      · exact h2 e he g p x hx
    · intro h
      refine ⟨?_, fun e he => h e (by simp [he])⟩
      cases v <;> first | rfl | skip
      rename_i s p x
      have := h (t, .whn s p x) (by simp) s p x rfl
      simp at this

theorem lk_mem {t : Nat} {tm : Tm} {v : V} (h : lk t tm = v) (hv : v ≠ .junk) : (t, v) ∈ tm := by
  induction tm with
  | nil => simp only [lk] at h; exact absurd h.symm hv
  | cons e l ih =>
    obtain ⟨k, x⟩ := e
    simp only [lk] at h
    by_cases hk : k = t
    · subst hk; simp at h; subst h; simp
    · rw [beq_ne hk] at h; simp only [cond_false] at h; simp [ih h]

theorem WL.at_ {gs : List Nat} {tm : Tm} (h : WL gs tm) {t g : Nat} {p : Bool} {x : V} (e : lk t tm = .whn g p x) : g ∈ gs ∧ isWhn x = false :=
  h _ (lk_mem e (by simp)) g p x rfl

theorem WL.mono {gs gs' : List Nat} {tm : Tm} (h : WL gs tm) (hs : ∀ g ∈ gs, g ∈ gs') : WL gs' tm := fun e he g p x hx => ⟨hs g (h e he g p x hx).1, (h e he g p x hx).2⟩

theorem memN_false {t : Nat} {gs : List Nat} (h : memN t gs = false) : t ∉ gs := by
  induction gs with
  | nil => simp
  | cons k l ih =>
    simp only [memN] at h
    by_cases hk : k = t
    · subst hk; simp at h
    · rw [beq_ne hk] at h
      simp only [cond_false] at h
      simp only [List.mem_cons, not_or]
      exact ⟨fun e => hk e.symm, ih h⟩

theorem lk_cons_self (t : Nat) (v : V) (tm : Tm) : lk t ((t, v) :: tm) = v := by simp [lk]
theorem lk_cons_ne {t s : Nat} (h : t ≠ s) (v : V) (tm : Tm) : lk s ((t, v) :: tm) = lk s tm := by simp [lk, beq_ne h]

/-- a slot is written -/
theorem put_TSat {gs : List Nat} {tm : Tm} {h : Array Obj} {B : Nat} {tmc : Array Value} (ht : TSat tm nt C B h tmc) (hw : WL gs tm) {t : Nat} (hlt : t < nt) (hm : t ∉ gs) {v : V} {val : Value}
    (hv : TR h C B (tmc.setIfInBounds t val) t v) : TSat ((t, v) :: tm) nt C B h (tmc.setIfInBounds t val) where
  size := by simp [ht.size]
  out s hs := by
    have : t ≠ s := by omega
    rw [lk_cons_ne this]
    exact ht.out s hs
  at_ s hs := by
    by_cases e : t = s
    · subst e; rw [lk_cons_self]; exact hv
    · rw [lk_cons_ne e]
      have h1 := ht.at_ s hs
      have e2 : (tmc.setIfInBounds t val)[s]? = tmc[s]? := Array.getElem?_setIfInBounds_ne e
      cases hl : lk s tm <;> rw [hl] at h1 <;> simp only [TR] at h1 ⊢
      case whn g p x =>
        have hg := (hw.at_ hl).1
        have e3 : (tmc.setIfInBounds t val)[g]? = tmc[g]? := Array.getElem?_setIfInBounds_ne (fun e => hm (by rw [e]; exact hg))
        rw [e2, e3]
        exact h1
      all_goals (rw [e2]; exact h1)

theorem TR_plain {h : Array Obj} {B : Nat} {tmc : Array Value} {t : Nat} {v : V} {val : Value} (hv : VR h C B v val) (ht : tmc[t]? = some val) : TR h C B tmc t v := by
  cases v <;> simp only [TR] <;> first | exact ⟨val, ht, hv⟩ | exact hv.whn_inv.elim

theorem lk_resolve (g : Nat) (b : Bool) (t : Nat) (tm : Tm) : lk t (resolve g b tm) = resV g b (lk t tm) := by
  induction tm with
  | nil => rfl
  | cons e l ih =>
    obtain ⟨k, x⟩ := e
    simp only [resolve, lk]
    cases Nat.beq k t
    · simp only [cond_false]; exact ih
    · rfl

theorem resolve_TSat {tm : Tm} {h : Array Obj} {B : Nat} {tmc : Array Value} (ht : TSat tm nt C B h tmc) {g : Nat} {b : Bool} (hg : tmc[g]? = some (.bool b)) : TSat (resolve g b tm) nt C B h tmc where
  size := ht.size
  out s hs := by rw [lk_resolve, ht.out s hs]; rfl
  at_ s hs := by
    rw [lk_resolve]
    have h1 := ht.at_ s hs
    cases hl : lk s tm <;> rw [hl] at h1 <;> simp only [resV] <;> first | exact h1 | skip
    rename_i s' p x
    by_cases e : s' = g
    · subst e
      simp only [Nat.beq_refl, cond_true]
      simp only [TR] at h1
      rw [hg] at h1
      cases hpb : (bif p then b else !b) with
      | true =>
        have : p = b := by cases p <;> cases b <;> simp_all
        subst this
        simp only [cond_true]
        rcases h1 with ⟨_, v, hv, hr⟩ | h2
        · exact TR_plain hr hv
        · exact absurd rfl h2.1
      | false =>
        simp only [cond_false]
        rcases h1 with ⟨h2, _⟩ | h2
        · have : b = p := by simpa using h2
          subst this
          cases b <;> simp at hpb
        · exact TR_plain (.tup _ _ rfl (by simp)) h2.2
    · rw [beq_ne e]
      exact h1

theorem resolve_WL {gs : List Nat} {tm : Tm} (hw : WL gs tm) (g : Nat) (b : Bool) : WL gs (resolve g b tm) := by
  induction tm with
  | nil => simp [resolve, WL]
  | cons e l ih =>
    obtain ⟨t, v⟩ := e
    intro e he g' p x hx
    simp only [resolve, List.mem_cons] at he
    rcases he with rfl | he
    · simp only at hx
      cases v <;> simp only [resV] at hx <;> first | (cases hx; done) | skip
      rename_i s q y
      have := hw (t, .whn s q y) (by simp) s q y rfl
      cases hs : Nat.beq s g <;> rw [hs] at hx
      · simp only [cond_false, V.whn.injEq] at hx
        obtain ⟨rfl, rfl, rfl⟩ := hx
        exact this
      · simp only [cond_true] at hx
        cases hq : (bif q then b else !b) <;> rw [hq] at hx
        · cases hx
        · simp only [cond_true] at hx
          rw [hx] at this
          simp [isWhn] at this
    · exact ih (fun e he => hw e (by simp [he])) e he g' p x hx

/-- a known test's value is laid once more -/
theorem note_TSat {tm : Tm} {h : Array Obj} {B : Nat} {tmc : Array Value} (ht : TSat tm nt C B h tmc) {g : Nat} {b : Bool} (hlt : g < nt) (hg : tmc[g]? = some (.bool b)) : TSat ((g, .bool b) :: tm) nt C B h tmc where
  size := ht.size
  out s hs := by rw [lk_cons_ne (by omega)]; exact ht.out s hs
  at_ s hs := by
    by_cases e : g = s
    · subst e; rw [lk_cons_self]; exact TR_plain (.imm _ _ (.bool _)) hg
    · rw [lk_cons_ne e]; exact ht.at_ s hs

theorem note_WL {gs : List Nat} {tm : Tm} (hw : WL gs tm) (t : Nat) {v : V} (hv : isWhn v = false) : WL gs ((t, v) :: tm) := by
  intro e he g p x hx
  simp only [List.mem_cons] at he
  rcases he with rfl | he
  · simp only at hx; subst hx; cases hv
  · exact hw e he g p x hx

theorem lk_lt {tm : Tm} {h : Array Obj} {B : Nat} {tmc : Array Value} (ht : TSat tm nt C B h tmc) {t : Nat} {v : V} (e : lk t tm = v) (hv : v ≠ .junk) : t < nt := by
  apply Nat.lt_of_not_le
  intro hle
  have := ht.out t hle
  rw [e] at this
  exact hv this

theorem lk_bool {tm : Tm} {h : Array Obj} {B : Nat} {tmc : Array Value} (ht : TSat tm nt C B h tmc) {t : Nat} {b : Bool} (e : lk t tm = .bool b) : tmc[t]? = some (.bool b) ∧ t < nt := by
  have hlt := lk_lt ht e (by simp)
  have h1 := ht.at_ t hlt
  rw [e] at h1
  simp only [TR] at h1
  obtain ⟨v, hv, hr⟩ := h1
  rw [hr.bool_inv] at hv
  exact ⟨hv, hlt⟩

theorem guardK_ok {h : Array Obj} {B : Nat} {tmc : Array Value} {gs : List Nat} : ∀ (n g : Nat) (pol : Bool) (tm : Tm) (yes no : Tm → Prop), TSat tm nt C B h tmc → WL gs tm → guardK n g pol tm yes no →
    (tmc[g]? = some (.bool pol) ∧ ∃ tm', TSat tm' nt C B h tmc ∧ WL gs tm' ∧ yes tm') ∨ (tmc[g]? ≠ some (.bool pol) ∧ ∃ tm', TSat tm' nt C B h tmc ∧ WL gs tm' ∧ no tm')
  | 0, _, _, _, _, _, _, _, hk => by cases hk
  | n + 1, g, pol, tm, yes, no, ht, hw, hk => by
    simp only [guardK] at hk
    cases hl : lk g tm <;> rw [hl] at hk <;> first | (cases hk; done) | skip
    case bool b =>
      obtain ⟨hg, hlt⟩ := lk_bool ht hl
      cases pol <;> cases b <;> simp only [br, resolveK_eq] at hk
      · exact .inl ⟨hg, _, note_TSat (resolve_TSat ht hg) hlt hg, note_WL (resolve_WL hw _ _) _ rfl, hk⟩
      · exact .inr ⟨by rw [hg]; simp, _, note_TSat (resolve_TSat ht hg) hlt hg, note_WL (resolve_WL hw _ _) _ rfl, hk⟩
      · exact .inr ⟨by rw [hg]; simp, _, note_TSat (resolve_TSat ht hg) hlt hg, note_WL (resolve_WL hw _ _) _ rfl, hk⟩
      · exact .inl ⟨hg, _, note_TSat (resolve_TSat ht hg) hlt hg, note_WL (resolve_WL hw _ _) _ rfl, hk⟩
    case tup cs =>
      cases cs with
      | cons _ _ => cases hk
      | nil =>
        have h1 := ht.at_ g (lk_lt ht hl (by simp))
        rw [hl] at h1
        simp only [TR] at h1
        obtain ⟨v, hv, hr⟩ := h1
        obtain ⟨arr, rfl, _⟩ := hr.tup_inv
        exact .inr ⟨by rw [hv]; simp, tm, ht, hw, hk⟩
    case whn s p x =>
      simp only at hk
      cases hs : lk s tm <;> rw [hs] at hk <;> first | (cases hk; done) | skip
      rename_i b
      obtain ⟨hg, hlt⟩ := lk_bool ht hs
      cases b <;> simp only [br, resolveK_eq] at hk
      · exact guardK_ok n g pol _ yes no (note_TSat (resolve_TSat ht hg) hlt hg) (note_WL (resolve_WL hw _ _) _ rfl) hk
      · exact guardK_ok n g pol _ yes no (note_TSat (resolve_TSat ht hg) hlt hg) (note_WL (resolve_WL hw _ _) _ rfl) hk

theorem allow_ok {h : Array Obj} {B : Nat} {tmc : Array Value} {tm : Tm} (ht : TSat tm nt C B h tmc) : ∀ (n g : Nat) (pol : Bool), tmc[g]? = some (.bool pol) → GOk (allow n g pol tm) tmc
  | 0, _, _, _ => GOk.nil _
  | n + 1, g, pol, hg => by
    simp only [allow]
    refine GOk.cons ?_ hg
    cases hl : lk g tm <;> first | exact GOk.nil _ | skip
    rename_i s p x
    have h1 := ht.at_ g (lk_lt ht hl (by simp))
    rw [hl] at h1
    simp only [TR] at h1
    rcases h1 with ⟨h2, _⟩ | h2
    · exact allow_ok ht n s p h2
    · rw [hg] at h2
      have := h2.2
      simp [undef] at this

/-- what one operation comes to -/
def Next1 (C : Cx) (S : Nat → Prop) (w : World) (nx nt : Nat) (K : List Nat → PostT) (a' : Act) (w' : World) : Prop :=
  a'.defers = [] ∧ ∃ gs' tm' hp' nx' C' S', K gs' tm' hp' nx' ∧ HSat hp' nx' C' S' w' ∧ TSat tm' nt C' nx' w'.heap a'.tmps ∧ WL gs' tm' ∧ Ext nx C C' S S' w w' ∧ nx ≤ nx'

abbrev onlyN (R : Act → World → Prop) : Exit → Act → World → Prop := fun e a w => e = .normal ∧ R a w

theorem stepK_ok (hT : TabOk P tab) {tm : Tm} {a : Act} (hs : HSat hp nx C S w) (ht : TSat tm nt C nx w.heap a.tmps) {o : Oper} {K : Post} {Q : Exit → Act → World → Prop} (h : stepK P tab o tm hp nx K) :
    o.wp P a w (fun a' w' => ∃ v val hp' nx' C' S', a' = a.put o.dst val ∧ K v hp' nx' ∧ HSat hp' nx' C' S' w' ∧ VR w'.heap C' nx' v val ∧ Ext nx C C' S S' w w' ∧ nx ≤ nx') Q := by
  have plain : aop tab [] tm hp nx o.op K → o.wp P a w (fun a' w' => ∃ v val hp' nx' C' S', a' = a.put o.dst val ∧ K v hp' nx' ∧ HSat hp' nx' C' S' w' ∧ VR w'.heap C' nx' v val ∧ Ext nx C C' S S' w w' ∧ nx ≤ nx') Q := by
    intro h
    obtain ⟨v, val, r, w', hp', nx', C', S', h1, h2, h3⟩ := aop_ok hT hs ht (GOk.nil _) h
    unfold Oper.wp
    rw [h1]
    rcases h2 with rfl | ⟨rfl, rfl⟩
    · exact ⟨v, val, hp', nx', C', S', rfl, h3⟩
    · exact ⟨v, undef, hp', nx', C', S', rfl, h3⟩
  cases hop : o.op
  case call c =>
    simp only [stepK, hop] at h
    cases hc : c.callee <;> rw [hc] at h <;> first | (cases h; done) | skip
    case builtin b => exact plain (by rw [hop]; exact h)
    case value f =>
      have ef := evg_ok ht (GOk.nil _) f
      simp only at h
      cases hf : evg [] tm f <;> rw [hf] at h ef <;> first | (cases h; done) | skip
      rename_i g first caps
      simp only [fL_eq] at h
      obtain ⟨x1, y1, hv, hl1, hl2⟩ := ef.func_inv
      have hargs := evgs_ok ht (GOk.nil _) c.args.toList
      have e2 : (c.args.toList.map a.eval).toArray = c.args.map a.eval := by rw [← Array.toList_map]
      rw [e2] at hargs
      have app : ∀ {l1 l2 : List V} {a1 a2 : Array Value}, LR w.heap C nx l1 a1 → LR w.heap C nx l2 a2 → LR w.heap C nx (l1 ++ l2) (a1 ++ a2) := by
        intro l1 l2 a1 a2 h1 h2
        refine ⟨by simp [h1.1, h2.1], fun i x v hx hv => ?_⟩
        by_cases hi : i < l1.length
        · rw [List.getElem?_append_left hi] at hx
          rw [Array.getElem?_append_left (by rw [← h1.1]; exact hi)] at hv
          exact h1.2 i x v hx hv
        · rw [List.getElem?_append_right (by omega)] at hx
          rw [Array.getElem?_append_right (by rw [← h1.1]; omega), ← h1.1] at hv
          exact h2.2 _ x v hx hv
      have hsem := h.out C S w (x1 ++ c.args.map a.eval ++ y1) hs (by rw [Array.append_assoc]; exact app hl1 (app hargs hl2))
      have hexec : (execOp a.eval o).run P w = (callFunc g (x1 ++ c.args.map a.eval ++ y1)).run P w := by
        simp only [execOp, hop, Sem.run_bind, Go.resolve, hc, hv, Deferred.ofValue, Sem.run_pure, Result.andThen_ok, invoke]
      unfold Oper.wp
      rw [hexec]
      unfold CallSem at hsem
      cases hr : (callFunc g (x1 ++ c.args.map a.eval ++ y1)).run P w with
      | halt hh w1 => rw [hr] at hsem; exact hsem.elim
      | ok n w1 =>
        rw [hr] at hsem
        cases n <;> first | exact hsem.elim | skip
        case value v =>
          obtain ⟨v', hp', nx', C', S', h3⟩ := hsem
          exact ⟨v', v, hp', nx', C', S', rfl, h3⟩
        case enter g2 args =>
          simp only [Oper.upon]
          refine Calls.mono hsem fun e w' he => ?_
          obtain ⟨v, rfl, v', hp', nx', C', S', h3⟩ := he
          exact ⟨v', v, hp', nx', C', S', rfl, h3⟩
  all_goals (exact plain (by simp only [stepK, hop] at h; rw [hop]; exact h))

theorem gslot_yield {ops : Array Oper} {j g : Nat} (h : gslot ops j = some g) (tmps : Array Value) : yielded ops tmps j = match tmps[g]? with | some (.bool b) => some b | _ => none := by
  unfold gslot at h
  unfold yielded
  rw [h]
  rfl

theorem putK_ok {gs : List Nat} {tm : Tm} {a : Act} {h : Array Obj} {B : Nat} (ht : TSat tm nt C B h a.tmps) (hw : WL gs tm) {d : Option Nat} {v : V} {val : Value} (hv : VR h C B v val) (hw2 : isWhn v = false) {K : Tm → Prop} (hk : putK nt gs d v tm K) :
    ∃ tm', K tm' ∧ TSat tm' nt C B h (a.put d val).tmps ∧ WL gs tm' := by
  cases d with
  | none => exact ⟨tm, hk, ht, hw⟩
  | some t =>
    simp only [putK] at hk
    cases hc : (Nat.blt t nt && !memN t gs) <;> rw [hc] at hk
    · cases hk
    · simp only [Bool.and_eq_true, Bool.not_eq_true'] at hc
      have hlt : t < nt := by have := hc.1; rwa [Nat.blt_eq] at this
      have hsz := ht.size
      refine ⟨_, hk, put_TSat ht hw hlt (memN_false hc.2) (TR_plain hv ?_), note_WL hw _ hw2⟩
      simp [hsz, hlt]

theorem isWhn_VR {h : Array Obj} {B : Nat} {v : V} {val : Value} (hv : VR h C B v val) : isWhn v = false := by
  cases v <;> first | rfl | exact hv.whn_inv.elim

theorem put_defers {a : Act} (h : a.defers = []) (d : Option Nat) (v : Value) : (a.put d v).defers = [] := by
  cases d <;> exact h

theorem oneK_ok (hT : TabOk P tab) {ops : Array Oper} {i : Nat} {o : Oper} (hi : ops[i]? = some o) {gs : List Nat} {tm : Tm} {a : Act} (hd : a.defers = []) (hs : HSat hp nx C S w) (ht : TSat tm nt C nx w.heap a.tmps) (hw : WL gs tm)
    {K : List Nat → PostT} {Q : Exit → Act → World → Prop} (h : oneK P tab nt ops o gs tm hp nx K) : wpOp P ops Q i (Next1 C S w nx nt K) a w := by
  have fin : ∀ (gs' : List Nat) (tm1 : Tm), TSat tm1 nt C nx w.heap a.tmps → WL gs' tm1 → stepK P tab o tm1 hp nx (fun v hp nx => putK nt gs' o.dst v tm1 fun tm => K gs' tm hp nx) → o.wp P a w (Next1 C S w nx nt K) Q := by
    intro gs' tm1 ht1 hw1 h1
    refine Oper.wp_mono ?_ (stepK_ok hT hs ht1 (Q := Q) h1)
    rintro a' w' ⟨v, val, hp', nx', C', S', rfl, hk, hs', hv, he, hle⟩
    have ht2 : TSat tm1 nt C' nx' w'.heap a.tmps := ht1.mono (he.jkeep hs) (fun n hn => he.names n hn) hle
    obtain ⟨tm', h1, h2, h3⟩ := putK_ok ht2 hw1 hv (isWhn_VR hv) hk
    exact ⟨put_defers hd _ _, gs', tm', hp', nx', C', S', h1, hs', h2, h3, he, hle⟩
  unfold wpOp
  simp only [hi]
  unfold oneK at h
  cases hgd : o.guard with
  | none =>
    rw [hgd] at h
    have hwant : Region.wanted o (yielded ops a.tmps) = true := by simp [Region.wanted, hgd]
    rw [if_pos hwant]
    exact .inl (fin gs tm ht hw h)
  | some jp =>
    obtain ⟨j, pol⟩ := jp
    rw [hgd] at h
    simp only at h
    cases hgs : gslot ops j with
    | none => rw [hgs] at h; cases h
    | some g =>
      rw [hgs] at h
      simp only at h
      have hwant : Region.wanted o (yielded ops a.tmps) = true ↔ a.tmps[g]? = some (.bool pol) := by
        simp only [Region.wanted, hgd, gslot_yield hgs]
        constructor
        · intro h
          split at h
          · rename_i b hb
            rw [hb]
            simp at h
            rw [h]
          · simp at h
        · intro h
          rw [h]
          simp
      cases hgp : gpure tab (allow 4 g pol tm) tm hp o.op with
      | some v =>
        rw [hgp] at h
        simp only [fV_eq] at h
        have put : ∀ val, TR w.heap C nx (a.put o.dst val).tmps (o.dst.getD 0) (bif isWhn v then .junk else .whn g pol v) ∨ o.dst = none → Next1 C S w nx nt K (a.put o.dst val) w := by
          intro val hTR
          cases hdst : o.dst with
          | none =>
            rw [hdst] at h
            exact ⟨hd, g :: gs, tm, hp, nx, C, S, h, hs, ht, hw.mono (fun g hg => by simp [hg]), .refl _ _ _ _, Nat.le_refl _⟩
          | some t =>
            rw [hdst] at h hTR
            simp only [putK] at h
            cases hc : (Nat.blt t nt && !memN t (g :: gs)) <;> rw [hc] at h
            · cases h
            · simp only [Bool.and_eq_true, Bool.not_eq_true'] at hc
              have hlt : t < nt := by have := hc.1; rwa [Nat.blt_eq] at this
              have hw' : WL (g :: gs) tm := hw.mono (fun g hg => by simp [hg])
              refine ⟨hd, g :: gs, _, hp, nx, C, S, h, hs, put_TSat ht hw' hlt (memN_false hc.2) ?_, ?_, .refl _ _ _ _, Nat.le_refl _⟩
              · rcases hTR with h1 | h1
                · exact h1
                · cases h1
              · intro e he g' p x hx
                simp only [List.mem_cons] at he
                rcases he with rfl | he
                · simp only at hx
                  cases hv : isWhn v <;> rw [hv] at hx
                  · simp only [cond_false, V.whn.injEq] at hx
                    obtain ⟨rfl, rfl, rfl⟩ := hx
                    exact ⟨by simp, hv⟩
                  · cases hx
                · exact hw' e he g' p x hx
        have hslot : ∀ val t, o.dst = some t → (Nat.blt t nt && !memN t (g :: gs)) = true → (a.put o.dst val).tmps[t]? = some val ∧ (a.put o.dst val).tmps[g]? = a.tmps[g]? := by
          intro val t hdst hc
          simp only [Bool.and_eq_true, Bool.not_eq_true'] at hc
          have hlt : t < nt := by have := hc.1; rwa [Nat.blt_eq] at this
          have hne := memN_false hc.2
          rw [hdst]
          have hsz := ht.size
          refine ⟨by simp [Act.put, hsz, hlt], ?_⟩
          simp only [Act.put]
          exact Array.getElem?_setIfInBounds_ne (fun e => hne (by simp [e]))
        have hcheck : ∀ t, o.dst = some t → (Nat.blt t nt && !memN t (g :: gs)) = true := by
          intro t hdst
          rw [hdst] at h
          simp only [putK] at h
          cases hc : (Nat.blt t nt && !memN t (g :: gs)) with
          | true => rfl
          | false => rw [hc] at h; cases h
        by_cases hwt : a.tmps[g]? = some (.bool pol)
        · rw [if_pos (hwant.2 hwt)]
          have hal := allow_ok ht 4 g pol hwt
          have hrun : ∃ val, (execOp a.eval o).run P w = .ok (.value val) w ∧ VR w.heap C nx v val := by
            cases hop : o.op <;> rw [hop] at hgp <;> simp only [gpure] at hgp
            case load t x =>
              obtain ⟨val, h1, h2⟩ := aload_ok (P := P) hT hs (evg_ok ht hal x) hgp
              exact ⟨val, by simp [execOp, hop, h1], h2⟩
            all_goals
              rename_i q
              first
                | (cases hgp; done)
                | (cases hiw : isW o.op with
                   | false => rw [hop] at hiw; rw [hiw] at hgp; cases hgp
                   | true =>
                     rw [hop] at hiw
                     rw [hiw] at hgp
                     simp only [cond_true] at hgp
                     obtain ⟨val, h1, h2⟩ := apure_ok (P := P) (o := o) hT ht hal hs.hr (by rw [hop]; exact hgp)
                     exact ⟨val, h1 w, h2⟩)
          obtain ⟨val, h1, h2⟩ := hrun
          refine .inl ?_
          unfold Oper.wp
          rw [h1]
          refine put val ?_
          cases hdst : o.dst with
          | none => exact .inr rfl
          | some t =>
            left
            obtain ⟨e1, e2⟩ := hslot val t hdst (hcheck t hdst)
            rw [hdst] at e1 e2
            rw [isWhn_VR h2]
            simp only [cond_false, TR, Option.getD_some]
            exact .inl ⟨e2.trans hwt, val, e1, h2⟩
        · rw [if_neg (fun e => hwt (hwant.1 e))]
          refine put undef ?_
          cases hdst : o.dst with
          | none => exact .inr rfl
          | some t =>
            left
            obtain ⟨e1, e2⟩ := hslot undef t hdst (hcheck t hdst)
            rw [hdst] at e1 e2
            cases hv : isWhn v
            · simp only [cond_false, TR, Option.getD_some]
              exact .inr ⟨by rw [e2]; exact hwt, e1⟩
            · simp only [cond_true, TR, Option.getD_some]
              exact ⟨_, e1, .junk _⟩
      | none =>
        rw [hgp] at h
        simp only at h
        rcases guardK_ok 4 g pol tm _ _ ht hw h with ⟨hwt, tm', ht', hw', h1⟩ | ⟨hwt, tm', ht', hw', h1⟩
        · rw [if_pos (hwant.2 hwt)]
          exact .inl (fin gs tm' ht' hw' h1)
        · rw [if_neg (fun e => hwt (hwant.1 e))]
          obtain ⟨tm2, h2, h3, h4⟩ := putK_ok (val := undef) ht' hw' (.tup _ _ rfl (by simp)) rfl h1
          exact ⟨put_defers hd _ _, gs, tm2, hp, nx, C, S, h2, hs, h3, h4, .refl _ _ _ _, Nat.le_refl _⟩

end
end Go.Sx
end

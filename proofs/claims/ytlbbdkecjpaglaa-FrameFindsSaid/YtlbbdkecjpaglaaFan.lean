/- lodestarref06.Put is message.Put (printed by genlaw.py); no condition. lodestarref03.Great, lodestarref06.GreatChanges, Great; no condition. lodestarref06.Great; no condition. What a message reads as; no condition. -/
import Derived.KernelRfl
import Derived.Test.YtlbbdkecjpaglaaFam

set_option linter.all false

section
open Go.Proofs
namespace Go.Sx
set_option linter.unusedVariables false

open Classical in
theorem put_cls (m : Msg) (L : List UInt8) (N : List (List UInt8)) (hL : mFields m.kind = (L, true)) (hN : rForm m.kind = (N, true)) (h1 : (mRun L (([], false), m)).1 = rRun m N ([], false))
    (h2 : (mRun L (([], false), m)).2.Empty ↔ m = N.foldl (rTake m) (Msg.zero m.kind)) : rPut m = mPut m := by
  have e : rOnly m = N.foldl (rTake m) (Msg.zero m.kind) := by simp only [rOnly, hN]
  simp only [rPut, mPut, hL, hN, e, ← h2, h1, true_and, if_true]
  by_cases hb : (rRun m N ([], false)).2 = true
  · rw [if_neg (fun h => by rw [hb] at h; cases h.2), if_pos (.inl hb)]
  · by_cases he : (mRun L (([], false), m)).2.Empty
    · rw [if_pos ⟨he, by simpa using hb⟩, if_neg (fun h => h.elim hb (fun h => h he))]
    · rw [if_neg (fun h => he h.1), if_pos (.inr he)]

theorem cls0 (m : Msg) (hL : mFields m.kind = ([99], true)) (hN : rForm m.kind = ([n_caps], true)) : rPut m = mPut m := by
  refine put_cls m _ _ hL hN rfl ?_
  show Msg.Empty { m with caps := 0 } ↔ m = { Msg.zero m.kind with caps := m.caps }
  rw [Msg.ext_iff']
  simp [Msg.Empty, Msg.zero]

theorem cls1 (m : Msg) (hL : mFields m.kind = ([99, 116, 110], true)) (hN : rForm m.kind = ([n_caps, n_token, n_n], true)) : rPut m = mPut m := by
  refine put_cls m _ _ hL hN rfl ?_
  show Msg.Empty { m with caps := 0, token := 0, n := 0 } ↔ m = { Msg.zero m.kind with caps := m.caps, token := m.token, n := m.n }
  rw [Msg.ext_iff']
  simp [Msg.Empty, Msg.zero]

theorem cls2 (m : Msg) (hL : mFields m.kind = ([116, 110], true)) (hN : rForm m.kind = ([n_token, n_n], true)) : rPut m = mPut m := by
  refine put_cls m _ _ hL hN rfl ?_
  show Msg.Empty { m with token := 0, n := 0 } ↔ m = { Msg.zero m.kind with token := m.token, n := m.n }
  rw [Msg.ext_iff']
  simp [Msg.Empty, Msg.zero]

theorem cls3 (m : Msg) (hL : mFields m.kind = ([110], true)) (hN : rForm m.kind = ([n_n], true)) : rPut m = mPut m := by
  refine put_cls m _ _ hL hN rfl ?_
  show Msg.Empty { m with n := 0 } ↔ m = { Msg.zero m.kind with n := m.n }
  rw [Msg.ext_iff']
  simp [Msg.Empty, Msg.zero]

theorem cls4 (m : Msg) (hL : mFields m.kind = ([101], true)) (hN : rForm m.kind = ([n_code], true)) : rPut m = mPut m := by
  refine put_cls m _ _ hL hN rfl ?_
  show Msg.Empty { m with code := 0 } ↔ m = { Msg.zero m.kind with code := m.code }
  rw [Msg.ext_iff']
  simp [Msg.Empty, Msg.zero]

theorem cls5 (m : Msg) (hL : mFields m.kind = ([114, 67], true)) (hN : rForm m.kind = ([n_req, n_conf], true)) : rPut m = mPut m := by
  refine put_cls m _ _ hL hN rfl ?_
  show Msg.Empty { m with req := 0, conf := ⟨[], 0, 0, false, 0, 0⟩ } ↔ m = { Msg.zero m.kind with req := m.req, conf := m.conf }
  rw [Msg.ext_iff']
  simp [Msg.Empty, Msg.zero]

theorem cls6 (m : Msg) (hL : mFields m.kind = ([114, 78], true)) (hN : rForm m.kind = ([n_req, n_name], true)) : rPut m = mPut m := by
  refine put_cls m _ _ hL hN rfl ?_
  show Msg.Empty { m with req := 0, name := [] } ↔ m = { Msg.zero m.kind with req := m.req, name := m.name }
  rw [Msg.ext_iff']
  simp [Msg.Empty, Msg.zero]

theorem cls7 (m : Msg) (hL : mFields m.kind = ([114], true)) (hN : rForm m.kind = ([n_req], true)) : rPut m = mPut m := by
  refine put_cls m _ _ hL hN rfl ?_
  show Msg.Empty { m with req := 0 } ↔ m = { Msg.zero m.kind with req := m.req }
  rw [Msg.ext_iff']
  simp [Msg.Empty, Msg.zero]

theorem cls8 (m : Msg) (hL : mFields m.kind = ([114, 78, 76], true)) (hN : rForm m.kind = ([n_req, n_name, n_changes], true)) : rPut m = mPut m := by
  refine put_cls m _ _ hL hN rfl ?_
  show Msg.Empty { m with req := 0, name := [], changes := [] } ↔ m = { Msg.zero m.kind with req := m.req, name := m.name, changes := m.changes }
  rw [Msg.ext_iff']
  simp [Msg.Empty, Msg.zero]

theorem cls9 (m : Msg) (hL : mFields m.kind = ([114, 78, 105], true)) (hN : rForm m.kind = ([n_req, n_name, n_id], true)) : rPut m = mPut m := by
  refine put_cls m _ _ hL hN rfl ?_
  show Msg.Empty { m with req := 0, name := [], id := 0 } ↔ m = { Msg.zero m.kind with req := m.req, name := m.name, id := m.id }
  rw [Msg.ext_iff']
  simp [Msg.Empty, Msg.zero]

theorem cls10 (m : Msg) (hL : mFields m.kind = ([114, 78, 118, 107, 119, 102], true)) (hN : rForm m.kind = ([n_req, n_name, n_vec, n_k, n_width, n_filter], true)) : rPut m = mPut m := by
  refine put_cls m _ _ hL hN rfl ?_
  show Msg.Empty { m with req := 0, name := [], vec := [], k := 0, width := 0, fall := [], fany := [], fnone := [] } ↔ m = { Msg.zero m.kind with req := m.req, name := m.name, vec := m.vec, k := m.k, width := m.width, fall := m.fall, fany := m.fany, fnone := m.fnone }
  rw [Msg.ext_iff']
  simp [Msg.Empty, Msg.zero]

theorem cls11 (m : Msg) (hL : mFields m.kind = ([114, 78, 118, 102], true)) (hN : rForm m.kind = ([n_req, n_name, n_vec, n_filter], true)) : rPut m = mPut m := by
  refine put_cls m _ _ hL hN rfl ?_
  show Msg.Empty { m with req := 0, name := [], vec := [], fall := [], fany := [], fnone := [] } ↔ m = { Msg.zero m.kind with req := m.req, name := m.name, vec := m.vec, fall := m.fall, fany := m.fany, fnone := m.fnone }
  rw [Msg.ext_iff']
  simp [Msg.Empty, Msg.zero]

theorem cls12 (m : Msg) (hL : mFields m.kind = ([114, 117, 112, 107], true)) (hN : rForm m.kind = ([n_req, n_num, n_page, n_k], true)) : rPut m = mPut m := by
  refine put_cls m _ _ hL hN rfl ?_
  show Msg.Empty { m with req := 0, num := 0, page := 0, k := 0 } ↔ m = { Msg.zero m.kind with req := m.req, num := m.num, page := m.page, k := m.k }
  rw [Msg.ext_iff']
  simp [Msg.Empty, Msg.zero]

theorem cls13 (m : Msg) (hL : mFields m.kind = ([114, 117], true)) (hN : rForm m.kind = ([n_req, n_num], true)) : rPut m = mPut m := by
  refine put_cls m _ _ hL hN rfl ?_
  show Msg.Empty { m with req := 0, num := 0 } ↔ m = { Msg.zero m.kind with req := m.req, num := m.num }
  rw [Msg.ext_iff']
  simp [Msg.Empty, Msg.zero]

theorem cls14 (m : Msg) (hL : mFields m.kind = ([114, 117, 112, 98], true)) (hN : rForm m.kind = ([n_req, n_num, n_page, n_bytes], true)) : rPut m = mPut m := by
  refine put_cls m _ _ hL hN rfl ?_
  show Msg.Empty { m with req := 0, num := 0, page := 0, bytes := [] } ↔ m = { Msg.zero m.kind with req := m.req, num := m.num, page := m.page, bytes := m.bytes }
  rw [Msg.ext_iff']
  simp [Msg.Empty, Msg.zero]

theorem cls15 (m : Msg) (hL : mFields m.kind = ([114, 101, 86, 117, 83, 73, 72], true)) (hN : rForm m.kind = ([n_req, n_code, n_version, n_num, n_names, n_items, n_hits], true)) : rPut m = mPut m := by
  refine put_cls m _ _ hL hN rfl ?_
  show Msg.Empty { m with req := 0, code := 0, version := 0, num := 0, names := [], items := [], hits := [] } ↔ m = { Msg.zero m.kind with req := m.req, code := m.code, version := m.version, num := m.num, names := m.names, items := m.items, hits := m.hits }
  rw [Msg.ext_iff']
  simp [Msg.Empty, Msg.zero]

theorem rPut_eq (m : Msg) : rPut m = mPut m := by
  by_cases h0 : m.kind = 1
  · exact cls0 m (by rw [mFields, if_pos h0]) (by rw [rForm, if_pos h0])
  by_cases h1 : m.kind = 2
  · exact cls1 m (by rw [mFields, if_neg h0, if_pos h1]) (by rw [rForm, if_neg h0, if_pos h1])
  by_cases h2 : m.kind = 3
  · exact cls2 m (by rw [mFields, if_neg h0, if_neg h1, if_pos h2]) (by rw [rForm, if_neg h0, if_neg h1, if_pos h2])
  by_cases h3 : m.kind = 4 ∨ m.kind = 7 ∨ m.kind = 8 ∨ m.kind = 9 ∨ m.kind = 10
  · exact cls3 m (by rw [mFields, if_neg h0, if_neg h1, if_neg h2, if_pos h3]) (by rw [rForm, if_neg h0, if_neg h1, if_neg h2, if_pos h3])
  by_cases h4 : m.kind = 5 ∨ m.kind = 6
  · exact cls4 m (by rw [mFields, if_neg h0, if_neg h1, if_neg h2, if_neg h3, if_pos h4]) (by rw [rForm, if_neg h0, if_neg h1, if_neg h2, if_neg h3, if_pos h4])
  by_cases h5 : m.kind = 11
  · exact cls5 m (by rw [mFields, if_neg h0, if_neg h1, if_neg h2, if_neg h3, if_neg h4, if_pos h5]) (by rw [rForm, if_neg h0, if_neg h1, if_neg h2, if_neg h3, if_neg h4, if_pos h5])
  by_cases h6 : m.kind = 12 ∨ m.kind = 20
  · exact cls6 m (by rw [mFields, if_neg h0, if_neg h1, if_neg h2, if_neg h3, if_neg h4, if_neg h5, if_pos h6]) (by rw [rForm, if_neg h0, if_neg h1, if_neg h2, if_neg h3, if_neg h4, if_neg h5, if_pos h6])
  by_cases h7 : m.kind = 13
  · exact cls7 m (by rw [mFields, if_neg h0, if_neg h1, if_neg h2, if_neg h3, if_neg h4, if_neg h5, if_neg h6, if_pos h7]) (by rw [rForm, if_neg h0, if_neg h1, if_neg h2, if_neg h3, if_neg h4, if_neg h5, if_neg h6, if_pos h7])
  by_cases h8 : m.kind = 14
  · exact cls8 m (by rw [mFields, if_neg h0, if_neg h1, if_neg h2, if_neg h3, if_neg h4, if_neg h5, if_neg h6, if_neg h7, if_pos h8]) (by rw [rForm, if_neg h0, if_neg h1, if_neg h2, if_neg h3, if_neg h4, if_neg h5, if_neg h6, if_neg h7, if_pos h8])
  by_cases h9 : m.kind = 15
  · exact cls9 m (by rw [mFields, if_neg h0, if_neg h1, if_neg h2, if_neg h3, if_neg h4, if_neg h5, if_neg h6, if_neg h7, if_neg h8, if_pos h9]) (by rw [rForm, if_neg h0, if_neg h1, if_neg h2, if_neg h3, if_neg h4, if_neg h5, if_neg h6, if_neg h7, if_neg h8, if_pos h9])
  by_cases h10 : m.kind = 16
  · exact cls10 m (by rw [mFields, if_neg h0, if_neg h1, if_neg h2, if_neg h3, if_neg h4, if_neg h5, if_neg h6, if_neg h7, if_neg h8, if_neg h9, if_pos h10]) (by rw [rForm, if_neg h0, if_neg h1, if_neg h2, if_neg h3, if_neg h4, if_neg h5, if_neg h6, if_neg h7, if_neg h8, if_neg h9, if_pos h10])
  by_cases h11 : m.kind = 17
  · exact cls11 m (by rw [mFields, if_neg h0, if_neg h1, if_neg h2, if_neg h3, if_neg h4, if_neg h5, if_neg h6, if_neg h7, if_neg h8, if_neg h9, if_neg h10, if_pos h11]) (by rw [rForm, if_neg h0, if_neg h1, if_neg h2, if_neg h3, if_neg h4, if_neg h5, if_neg h6, if_neg h7, if_neg h8, if_neg h9, if_neg h10, if_pos h11])
  by_cases h12 : m.kind = 18
  · exact cls12 m (by rw [mFields, if_neg h0, if_neg h1, if_neg h2, if_neg h3, if_neg h4, if_neg h5, if_neg h6, if_neg h7, if_neg h8, if_neg h9, if_neg h10, if_neg h11, if_pos h12]) (by rw [rForm, if_neg h0, if_neg h1, if_neg h2, if_neg h3, if_neg h4, if_neg h5, if_neg h6, if_neg h7, if_neg h8, if_neg h9, if_neg h10, if_neg h11, if_pos h12])
  by_cases h13 : m.kind = 19 ∨ m.kind = 22 ∨ m.kind = 23
  · exact cls13 m (by rw [mFields, if_neg h0, if_neg h1, if_neg h2, if_neg h3, if_neg h4, if_neg h5, if_neg h6, if_neg h7, if_neg h8, if_neg h9, if_neg h10, if_neg h11, if_neg h12, if_pos h13]) (by rw [rForm, if_neg h0, if_neg h1, if_neg h2, if_neg h3, if_neg h4, if_neg h5, if_neg h6, if_neg h7, if_neg h8, if_neg h9, if_neg h10, if_neg h11, if_neg h12, if_pos h13])
  by_cases h14 : m.kind = 21
  · exact cls14 m (by rw [mFields, if_neg h0, if_neg h1, if_neg h2, if_neg h3, if_neg h4, if_neg h5, if_neg h6, if_neg h7, if_neg h8, if_neg h9, if_neg h10, if_neg h11, if_neg h12, if_neg h13, if_pos h14]) (by rw [rForm, if_neg h0, if_neg h1, if_neg h2, if_neg h3, if_neg h4, if_neg h5, if_neg h6, if_neg h7, if_neg h8, if_neg h9, if_neg h10, if_neg h11, if_neg h12, if_neg h13, if_pos h14])
  by_cases h15 : m.kind = 24
  · exact cls15 m (by rw [mFields, if_neg h0, if_neg h1, if_neg h2, if_neg h3, if_neg h4, if_neg h5, if_neg h6, if_neg h7, if_neg h8, if_neg h9, if_neg h10, if_neg h11, if_neg h12, if_neg h13, if_neg h14, if_pos h15]) (by rw [rForm, if_neg h0, if_neg h1, if_neg h2, if_neg h3, if_neg h4, if_neg h5, if_neg h6, if_neg h7, if_neg h8, if_neg h9, if_neg h10, if_neg h11, if_neg h12, if_neg h13, if_neg h14, if_pos h15])
  have e1 : mFields m.kind = ([], false) := by rw [mFields, if_neg h0, if_neg h1, if_neg h2, if_neg h3, if_neg h4, if_neg h5, if_neg h6, if_neg h7, if_neg h8, if_neg h9, if_neg h10, if_neg h11, if_neg h12, if_neg h13, if_neg h14, if_neg h15]
  have e2 : rForm m.kind = ([], false) := by rw [rForm, if_neg h0, if_neg h1, if_neg h2, if_neg h3, if_neg h4, if_neg h5, if_neg h6, if_neg h7, if_neg h8, if_neg h9, if_neg h10, if_neg h11, if_neg h12, if_neg h13, if_neg h14, if_neg h15]
  simp [rPut, mPut, e1, e2]

end Go.Sx
end

section
open Go.Proofs
namespace Go.Sx
set_option linter.unusedVariables false

abbrev TextsRaw (l : List (List UInt8)) : Prop := (∀ x ∈ l, x.length ≤ 9223372036854775807) ∧ l.length ≤ 9223372036854775807

theorem take_all_succ {α : Type} {l : List α} {i : Nat} {x : α} {P : α → Prop} (h : ∀ y ∈ l.take i, P y) (hx : l[i]? = some x) (hp : P x) : ∀ y ∈ l.take (i + 1), P y := by
  intro y hy
  rw [List.take_add_one, hx] at hy
  simp at hy
  rcases hy with hy | hy
  · exact h y hy
  · subst hy; exact hp

theorem great3_ob (p : Bool) (l : List (List UInt8)) (hl : TextsRaw l) (K : Post) (hK : ∀ b : Bool, (b = false → (∀ x ∈ l, x.length ≤ 20000) ∧ l.length ≤ 300) → K (.bool b) [] 0) : CallOb Try.prog 13 [.isl p 1 encStr l] [] 0 K := by
  refine contract TrytabOk Try.checked.mixed Try.func13 rfl Try.call13 [] [] [2] (res1 Try.results13) Try.ntmps13 rfl ?_
  have hl2 := hl.2
  conv => whnf
  refine loop_rule TrytabOk Try.checked.mixed [0, 3, 4] [] [] (T := { x : Nat × Nat // x.1 ≤ l.length ∧ x.2 ≤ 50000 ∧ (x.2 < 20000 → ∀ y ∈ l.take x.1, y.length ≤ 20000) }) (fun x => [.isl p 1 encStr l, .int .i64 (x.1.2 : Int), .int .i64 (x.1.1 : Int)])
    (fun x => []) 0 (fun x => l.length - x.1.1) ⟨(0, 0), by simp, by simp, by simp⟩ rfl rfl ?_ ?_
  · conv => whnf
    exact ⟨leTs_refl _, leH_refl _, Nat.le_refl _⟩
  · rintro ⟨⟨i, n⟩, hi, hn, hal⟩
    simp only at hi hn hal
    conv => whnf
    refine br_intro (fun hlt => ?_) (fun hlt => ?_)
    · rw [pickAnd] at hlt
      simp only [Bool.and_eq_true, decide_eq_true_eq] at hlt
      have h1 : i < l.length := by omega
      have h2 : n < 20000 := by omega
      conv => whnf
      refine ⟨⟨by simp only; omega, by simp only; omega⟩, ?_⟩
      intro x hxi
      have hxi' : l[i]? = some x := by simpa using hxi
      have hx := hl.1 x (List.mem_of_getElem? hxi')
      conv => whnf
      by_cases hm : (20000 : Int) < (x.length : Int)
      · rw [if_pos hm]
        refine ⟨⟨(i + 1, n + 1 + 20000), h1, by simp only; omega, fun h => by simp only at h; omega⟩, ?_, ⟨leT_refl _, ⟨rfl, ?_⟩, ⟨rfl, wrapI64' (m := i + 1) (by omega)⟩, trivial⟩, leH_refl _, Nat.le_refl _⟩
        · show l.length - (i + 1) < l.length - i; omega
        · show IntKind.i64.wrap (IntKind.i64.wrap ((n : Int) + 1) + 20000) = ((n + 1 + 20000 : Nat) : Int)
          rw [wrapI64 ((n : Int) + 1) (by omega) (by omega), wrapI64 _ (by omega) (by omega)]; omega
      · rw [if_neg hm]
        refine ⟨⟨(i + 1, n + 1 + x.length), h1, by simp only; omega, fun h => take_all_succ (hal h2) hxi' (by omega)⟩, ?_, ⟨leT_refl _, ⟨rfl, ?_⟩, ⟨rfl, wrapI64' (m := i + 1) (by omega)⟩, trivial⟩, leH_refl _, Nat.le_refl _⟩
        · show l.length - (i + 1) < l.length - i; omega
        · show IntKind.i64.wrap (IntKind.i64.wrap ((n : Int) + 1) + (x.length : Int)) = ((n + 1 + x.length : Nat) : Int)
          rw [wrapI64 ((n : Int) + 1) (by omega) (by omega), wrapI64 _ (by omega) (by omega)]; omega
    · rw [pickAnd] at hlt
      simp only [Bool.and_eq_false_iff, decide_eq_false_iff_not] at hlt
      conv => whnf
      refine ⟨_, _, _, leT_refl _, leH_refl _, Nat.le_refl _, hK _ (fun hb => ?_)⟩
      have h1 : ¬ (20000 : Int) ≤ (n : Int) ∧ ¬ (300 : Int) < (l.length : Int) := by
        constructor
        · intro h; simp [h] at hb
        · intro h; simp [h] at hb
      have h2 : ¬ i < l.length := by rcases hlt with h | h <;> omega
      have h3 := hal (by omega)
      rw [List.take_of_length_le (by omega)] at h3
      exact ⟨h3, by omega⟩

structure Item.Raw (x : Item) : Prop where
  id : x.id < 2 ^ 32
  vec : ∀ n ∈ x.vec, -2147483648 ≤ n ∧ n < 2147483648
  vlen : x.vec.length ≤ 9223372036854775807
  tags : TextsRaw x.tags

def Item.Small (x : Item) : Prop := x.vec.length ≤ 50000 ∧ (∀ t ∈ x.tags, t.length ≤ 20000) ∧ x.tags.length ≤ 300

theorem Item.Raw.ok {x : Item} (h : x.Raw) (s : x.Small) : x.Ok :=
  ⟨h.id, h.vec, by have := s.1; omega, fun t ht => by have := s.2.1 t ht; omega, by have := s.2.2; omega⟩

set_option maxRecDepth 4000 in
theorem greatChg_ob (p : Bool) (l : List Chg) (hr : ∀ x ∈ l, x.item.Raw) (hl : l.length ≤ 9223372036854775807) (K : Post) (hK : ∀ b : Bool, (b = false → (∀ x ∈ l, x.item.Small) ∧ l.length ≤ 50000) → K (.bool b) [] 0) : CallOb Try.prog 14 [.isl p 4 encChg l] [] 0 K := by
  refine contract TrytabOk Try.checked.mixed Try.func14 rfl Try.call14 [] [] [2] (res1 Try.results14) Try.ntmps14 rfl ?_
  conv => whnf
  refine loop_rule TrytabOk Try.checked.mixed [0, 3, 4] [] [] (T := { x : Nat × Nat // x.1 ≤ l.length ∧ x.2 ≤ 110000 ∧ x.1 ≤ x.2 ∧ (x.2 < 50000 → ∀ y ∈ l.take x.1, y.item.Small) }) (fun x => [.isl p 4 encChg l, .int .i64 (x.1.2 : Int), .int .i64 (x.1.1 : Int)])
    (fun x => []) 0 (fun x => l.length - x.1.1) ⟨(0, 0), by simp, by simp, by simp, by simp⟩ rfl rfl ?_ ?_
  · conv => whnf
    exact ⟨leTs_refl _, leH_refl _, Nat.le_refl _⟩
  · rintro ⟨⟨i, n⟩, hi, hn, hin, hal⟩
    simp only at hi hn hal hin
    conv => whnf
    refine br_intro (fun hlt => ?_) (fun hlt => ?_)
    · rw [pickAnd] at hlt
      simp only [Bool.and_eq_true, decide_eq_true_eq] at hlt
      have h1 : i < l.length := by omega
      have h2 : n < 50000 := by omega
      conv => whnf
      refine ⟨⟨by simp only; omega, by simp only; omega⟩, ?_⟩
      intro x hxi
      have hxi' : l[i]? = some x := by simpa using hxi
      have hx := hr x (List.mem_of_getElem? hxi')
      conv => whnf
      refine ⟨⟨by simp only; omega, by simp only; omega⟩, ?_⟩
      intro x' hxj
      have : x' = x := by
        have hxj' : l[i]? = some x' := by simpa using hxj
        rw [hxi'] at hxj'; cases hxj'; rfl
      subst this
      clear hxj
      conv => whnf
      refine call_rule [] ?_
      conv => whnf
      refine great3_ob true x'.item.tags hx.tags _ (fun b hb => ?_)
      cases b
      · conv => whnf
        by_cases hm : (50000 : Int) < (x'.item.vec.length : Int)
        · rw [if_pos hm]
          refine ⟨⟨(i + 1, n + 1 + 50000), h1, by simp only; omega, by simp only; omega, fun h => by simp only at h; omega⟩, ?_, ⟨leT_refl _, ⟨rfl, ?_⟩, ⟨rfl, wrapI64' (m := i + 1) (by omega)⟩, trivial⟩, leH_refl _, Nat.le_refl _⟩
          · show l.length - (i + 1) < l.length - i; omega
          · show IntKind.i64.wrap (IntKind.i64.wrap ((n : Int) + 1) + 50000) = ((n + 1 + 50000 : Nat) : Int)
            rw [wrapI64 ((n : Int) + 1) (by omega) (by omega), wrapI64 _ (by omega) (by omega)]; omega
        · rw [if_neg hm]
          refine ⟨⟨(i + 1, n + 1 + x'.item.vec.length), h1, by simp only; omega, by simp only; omega, fun h => take_all_succ (hal h2) hxi' ⟨by omega, hb rfl⟩⟩, ?_, ⟨leT_refl _, ⟨rfl, ?_⟩, ⟨rfl, wrapI64' (m := i + 1) (by omega)⟩, trivial⟩, leH_refl _, Nat.le_refl _⟩
          · show l.length - (i + 1) < l.length - i; omega
          · show IntKind.i64.wrap (IntKind.i64.wrap ((n : Int) + 1) + (x'.item.vec.length : Int)) = ((n + 1 + x'.item.vec.length : Nat) : Int)
            rw [wrapI64 ((n : Int) + 1) (by omega) (by omega), wrapI64 _ (by omega) (by omega)]; omega
      · conv => whnf
        exact ⟨_, _, _, leT_refl _, leH_refl _, Nat.le_refl _, hK true (fun h => by cases h)⟩
    · rw [pickAnd] at hlt
      simp only [Bool.and_eq_false_iff, decide_eq_false_iff_not] at hlt
      conv => whnf
      refine ⟨_, _, _, leT_refl _, leH_refl _, Nat.le_refl _, hK _ (fun hb => ?_)⟩
      have h1 : ¬ (50000 : Int) ≤ (n : Int) := by simpa using hb
      have h2 : ¬ i < l.length := by rcases hlt with h | h <;> omega
      have h3 := hal (by omega)
      rw [List.take_of_length_le (by omega)] at h3
      exact ⟨h3, by omega⟩

end Go.Sx
end

section
open Go.Proofs
namespace Go.Sx
set_option linter.unusedVariables false

structure Msg.Raw (m : Msg) : Prop where
  kind : m.kind < 256
  req : m.req < 2 ^ 32
  caps : m.caps < 2 ^ 32
  token : m.token < 2 ^ 64
  code : m.code < 256
  n : m.n < 2 ^ 32
  name : m.name.length ≤ 9223372036854775807
  cname : m.conf.name.length ≤ 9223372036854775807
  dim : m.conf.dim < 256
  metric : m.conf.metric < 256
  links : m.conf.links < 256
  cwidth : m.conf.width < 65536
  changes : (∀ x ∈ m.changes, x.item.Raw) ∧ m.changes.length ≤ 9223372036854775807
  id : m.id < 2 ^ 32
  vec : (∀ n ∈ m.vec, -2147483648 ≤ n ∧ n < 2147483648) ∧ m.vec.length ≤ 9223372036854775807
  k : m.k < 65536
  width : m.width < 65536
  fall : TextsRaw m.fall
  fany : TextsRaw m.fany
  fnone : TextsRaw m.fnone
  num : m.num < 2 ^ 32
  page : m.page < 2 ^ 32
  bytes : m.bytes.length ≤ 9223372036854775807
  version : m.version < 2 ^ 64
  names : TextsRaw m.names
  items : (∀ x ∈ m.items, x.Raw) ∧ m.items.length ≤ 9223372036854775807
  hits : (∀ x ∈ m.hits, x.Ok) ∧ m.hits.length ≤ 9223372036854775807

theorem pickOr (a b : Bool) : (bif a then true else b) = (a || b) := by cases a <;> rfl

def mn (c : Nat) (l : Nat) : Nat := if c < l then c else l

theorem mn_eq (c l : Nat) : (if (c : Int) < (l : Int) then (c : Int) else (l : Int)) = ((mn c l : Nat) : Int) := by
  unfold mn
  by_cases h : c < l
  · rw [if_pos h, if_pos (by omega)]
  · rw [if_neg h, if_neg (by omega)]

theorem mn_le (c l : Nat) : mn c l ≤ c := by unfold mn; split <;> omega
theorem mn_lt {c l : Nat} (h : mn c l < c) : l < c := by unfold mn at h; split at h <;> omega

set_option maxRecDepth 8000 in
theorem great_ob (m : Msg) (hm : m.Raw) (K : Post) (hK : ∀ b : Bool, (b = false → m.Ok) → K (.bool b) [] 0) : CallOb Try.prog 6 [.agg m.cells] [] 0 K := by
  refine contract TrytabOk Try.checked.mixed Try.func6 rfl Try.call6 [] [] [2] (res1 Try.results6) Try.ntmps6 rfl ?_
  have q1 := mn_le 50001 m.name.length
  have q2 := mn_le 50001 m.conf.name.length
  have q3 := mn_le 50001 m.bytes.length
  have q4 := mn_le 50001 m.vec.length
  have q5 := mn_le 50001 m.hits.length
  have e : IntKind.i64.wrap (IntKind.i64.wrap (IntKind.i64.wrap (IntKind.i64.wrap ((if (50001 : Int) < (m.name.length : Int) then 50001 else (m.name.length : Int)) + (if (50001 : Int) < (m.conf.name.length : Int) then 50001 else (m.conf.name.length : Int))) + (if (50001 : Int) < (m.bytes.length : Int) then 50001 else (m.bytes.length : Int))) + (if (50001 : Int) < (m.vec.length : Int) then 50001 else (m.vec.length : Int))) + (if (50001 : Int) < (m.hits.length : Int) then 50001 else (m.hits.length : Int)))
      = ((mn 50001 m.name.length + mn 50001 m.conf.name.length + mn 50001 m.bytes.length + mn 50001 m.vec.length + mn 50001 m.hits.length : Nat) : Int) := by
    rw [show (50001 : Int) = ((50001 : Nat) : Int) from rfl, mn_eq, mn_eq, mn_eq, mn_eq, mn_eq]
    rw [addNat, wrapI64' (by omega), addNat, wrapI64' (by omega), addNat, wrapI64' (by omega), addNat, wrapI64' (by omega)]
  conv => whnf
  simp only [e]
  generalize hN : mn 50001 m.name.length + mn 50001 m.conf.name.length + mn 50001 m.bytes.length + mn 50001 m.vec.length + mn 50001 m.hits.length = n0
  repeat' first
    | exact ⟨_, _, _, leT_refl _, leH_refl _, Nat.le_refl _, hK true (fun h => by cases h)⟩
    | (refine call_rule [] ?_
       conv => whnf
       first
         | refine great3_ob true m.names hm.names _ (fun b hb1 => ?_)
         | refine great3_ob true m.fall hm.fall _ (fun b hb2 => ?_)
         | refine great3_ob true m.fany hm.fany _ (fun b hb3 => ?_)
         | refine great3_ob true m.fnone hm.fnone _ (fun b hb4 => ?_)
       conv => whnf
       cases b <;> conv => whnf)
    | (refine br_intro (fun h => ?_) (fun h => ?_) <;> conv => whnf)
    | fail
  simp only [pickOr, Bool.or_eq_false_iff, decide_eq_false_iff_not] at h
  have g1 : n0 ≤ 50000 := by omega
  have g2 : m.changes.length ≤ 400 := by omega
  have g3 : m.items.length ≤ 400 := by omega
  have s1 := hb1 rfl
  have s2 := hb2 rfl
  have s3 := hb3 rfl
  have s4 := hb4 rfl
  clear h
  refine loop_rule TrytabOk Try.checked.mixed [1, 3, 4] [] [] (T := { x : Nat × Nat // x.1 ≤ m.items.length ∧ x.2 ≤ 110000 ∧ (x.2 < 50000 → ∀ y ∈ m.items.take x.1, y.Small) }) (fun x => [.ptr 0 0, .int .i64 (x.1.2 : Int), .int .i64 (x.1.1 : Int)])
    (fun x => [(0, .cells 42 m.cells)]) 1 (fun x => m.items.length - x.1.1) ⟨(0, n0), by simp, by simp only; omega, by simp⟩ rfl rfl ?_ ?_
  · conv => whnf
    exact ⟨leTs_refl _, leH_refl _, Nat.le_refl _⟩
  · rintro ⟨⟨i, n⟩, hi, hn, hal⟩
    simp only at hi hn hal
    conv => whnf
    refine br_intro (fun hlt => ?_) (fun hlt => ?_)
    · rw [pickAnd] at hlt
      simp only [Bool.and_eq_true, decide_eq_true_eq] at hlt
      have h1 : i < m.items.length := by omega
      have h2 : n < 50000 := by omega
      conv => whnf
      refine ⟨⟨by simp only; omega, by simp only; omega⟩, ?_⟩
      intro x hxi
      have hxi' : m.items[i]? = some x := by simpa using hxi
      have hx := hm.items.1 x (List.mem_of_getElem? hxi')
      conv => whnf
      refine ⟨⟨by simp only; omega, by simp only; omega⟩, ?_⟩
      intro x' hxj
      have : x' = x := by
        have hxj' : m.items[i]? = some x' := by simpa using hxj
        rw [hxi'] at hxj'; cases hxj'; rfl
      subst this
      clear hxj
      conv => whnf
      refine call_rule [] ?_
      conv => whnf
      refine great3_ob true x'.tags hx.tags _ (fun b hb => ?_)
      cases b
      · conv => whnf
        by_cases hq : (50000 : Int) < (x'.vec.length : Int)
        · rw [if_pos hq]
          refine ⟨⟨(i + 1, n + 50000), h1, by simp only; omega, fun h => by simp only at h; omega⟩, ?_, ⟨leT_refl _, ⟨rfl, ?_⟩, ⟨rfl, wrapI64' (m := i + 1) (by omega)⟩, trivial⟩, leH_refl _, Nat.le_refl _⟩
          · show m.items.length - (i + 1) < m.items.length - i; omega
          · show IntKind.i64.wrap ((n : Int) + 50000) = ((n + 50000 : Nat) : Int)
            rw [wrapI64 ((n : Int) + 50000) (by omega) (by omega)]; omega
        · rw [if_neg hq]
          refine ⟨⟨(i + 1, n + x'.vec.length), h1, by simp only; omega, fun h => take_all_succ (hal h2) hxi' ⟨by omega, hb rfl⟩⟩, ?_, ⟨leT_refl _, ⟨rfl, ?_⟩, ⟨rfl, wrapI64' (m := i + 1) (by omega)⟩, trivial⟩, leH_refl _, Nat.le_refl _⟩
          · show m.items.length - (i + 1) < m.items.length - i; omega
          · show IntKind.i64.wrap ((n : Int) + (x'.vec.length : Int)) = ((n + x'.vec.length : Nat) : Int)
            rw [wrapI64 ((n : Int) + (x'.vec.length : Int)) (by omega) (by omega)]; omega
      · conv => whnf
        exact ⟨_, _, _, leT_refl _, leH_refl _, Nat.le_refl _, hK true (fun h => by cases h)⟩
    · rw [pickAnd] at hlt
      simp only [Bool.and_eq_false_iff, decide_eq_false_iff_not] at hlt
      conv => whnf
      refine br_dec (fun hg => ?_) (fun hg => ?_)
      · conv => whnf
        exact ⟨_, _, _, leT_refl _, leH_refl _, Nat.le_refl _, hK true (fun h => by cases h)⟩
      · conv => whnf
        refine call_rule [] ?_
        conv => whnf
        refine greatChg_ob true m.changes hm.changes.1 hm.changes.2 _ (fun b hb => ?_)
        conv => whnf
        refine ⟨_, _, _, leT_refl _, leH_refl _, Nat.le_refl _, hK b (fun hbf => ?_)⟩
        have sc := hb hbf
        have hg' : ¬ 50000 ≤ n := by simp only at hg; omega
        have h2 : ¬ i < m.items.length := by rcases hlt with h | h <;> omega
        have h3 := hal (by omega)
        rw [List.take_of_length_le (by omega)] at h3
        have w1 : m.name.length < 50001 := mn_lt (by omega)
        have w2 : m.conf.name.length < 50001 := mn_lt (by omega)
        have w3 : m.bytes.length < 50001 := mn_lt (by omega)
        have w4 : m.vec.length < 50001 := mn_lt (by omega)
        have w5 : m.hits.length < 50001 := mn_lt (by omega)
        have tx : ∀ l : List (List UInt8), ((∀ x ∈ l, x.length ≤ 20000) ∧ l.length ≤ 300) → TextsOk l := fun l h => ⟨fun x hx => by have := h.1 x hx; omega, by have := h.2; omega⟩
        exact { kind := hm.kind, req := hm.req, caps := hm.caps, token := hm.token, code := hm.code, n := hm.n, name := by omega, conf := ⟨by omega, hm.dim, hm.metric, hm.links, hm.cwidth⟩,
                changes := ⟨fun x hx => (hm.changes.1 x hx).ok (sc.1 x hx), by omega⟩, id := hm.id, vec := ⟨hm.vec.1, by omega⟩, k := hm.k, width := hm.width, fall := tx _ s2, fany := tx _ s3, fnone := tx _ s4,
                num := hm.num, page := hm.page, bytes := by omega, version := hm.version, names := tx _ s1, items := ⟨fun x hx => (hm.items.1 x hx).ok (h3 x hx), by omega⟩, hits := ⟨hm.hits.1, by omega⟩ }

end Go.Sx
end

section
open Go.Proofs
namespace Go.Sx
set_option linter.unusedVariables false

section
variable {H : Type} {enc : TypeId × Value → H} {P : Program} {W : World}

def RdF (enc : TypeId × Value → H) (P : Program) (W : World) (L : List (Nat × TypeId)) (off n : Nat) {α : Type} (e : α → List V) (ok : α → Prop) : Prop :=
  ∀ (fuel : Nat) (cs : List Value) (xs : List (DataW H × List MemPlace)), (L.mapM fun p => DataW.trod enc P W 0 (fun _ => true) true fuel p.2 ((cs.drop p.1).take (P.cellsOf p.2))) = some xs → cs.length = off + n →
    ∃ x : α, ok x ∧ (e x).length = n ∧ ∀ (j : Nat) (y : V) (v : Value), (e x)[j]? = some y → cs[off + j]? = some v → IR W.heap (JJ W) y v ∧ v.oneCell' = true

theorem RdF.nil {off : Nat} : RdF enc P W [] off 0 (fun _ : Unit => []) (fun _ => True) := by
  intro fuel cs xs h hl
  exact ⟨(), trivial, rfl, fun j y v hy => by simp at hy⟩

theorem RdF.cons {t off n m : Nat} {L : List (Nat × TypeId)} {α β : Type} {e : α → V} {ok : α → Prop} {e2 : β → List V} {ok2 : β → Prop} (hc : P.cellsOf t = n) (h1 : Rd enc P W t n e ok) (h2 : RdF enc P W L (off + n) m e2 ok2) :
    RdF enc P W ((off, t) :: L) off (n + m) (fun x : α × β => (e x.1).cells ++ e2 x.2) (fun x => ok x.1 ∧ ok2 x.2) := by
  intro fuel cs xs h hl
  simp only [List.mapM_cons, Option.bind_eq_bind, Option.pure_def, Option.bind_eq_some_iff] at h
  obtain ⟨⟨d, ps⟩, hd, ys, hys, h⟩ := h
  rw [hc] at hd
  have hlen : ((cs.drop off).take n).length = n := by simp; omega
  obtain ⟨x, a1, a2, a3⟩ := h1 fuel _ d ps hlen hd
  obtain ⟨y, b1, b2, b3⟩ := h2 fuel cs ys hys (by omega)
  refine ⟨(x, y), ⟨a1, b1⟩, by simp [a2, b2], fun j z v hz hv => ?_⟩
  have hz : ((e x).cells ++ e2 y)[j]? = some z := hz
  by_cases hj : j < n
  · rw [List.getElem?_append_left (by rw [a2]; exact hj)] at hz
    refine a3 j z v hz ?_
    rw [List.getElem?_take, if_pos hj, List.getElem?_drop]
    exact hv
  · rw [List.getElem?_append_right (by rw [a2]; omega), a2] at hz
    refine b3 (j - n) z v hz ?_
    rw [show off + n + (j - n) = off + j by omega]
    exact hv

theorem RdF.struct {t n : Nat} {fs : Array Field} {L : List (Nat × TypeId)} {α : Type} {e : α → List V} {ok : α → Prop} (hu : P.underlying t = some (.struct fs)) (hL : fs.toList.map (fun f => (f.offset, f.type)) = L) (h : RdF enc P W L 0 n e ok) :
    Rd enc P W t n (fun x => .agg (e x)) ok := by
  intro fuel cs d ps hl ht
  cases fuel with
  | zero => simp [DataW.trod] at ht
  | succ fuel =>
    simp only [DataW.trod, hu] at ht
    split at ht
    · simp only [Option.map_eq_some_iff] at ht
      obtain ⟨xs, hxs, _⟩ := ht
      have : (L.mapM fun p => DataW.trod enc P W 0 (fun _ => true) true fuel p.2 ((cs.drop p.1).take (P.cellsOf p.2))) = some xs := by
        rw [← hL, List.mapM_map]
        exact hxs
      obtain ⟨x, a1, a2, a3⟩ := h fuel cs xs this (by omega)
      refine ⟨x, a1, a2, fun j y v hy hv => a3 j y v hy ?_⟩
      rw [Nat.zero_add]; exact hv
    · cases ht

theorem rd_nat {t : TypeId} {k : IntKind} (b : Nat) (ht : P.underlying t = some (.int k)) (h0 : k.min = 0) (h1 : k.max = (b : Int) - 1) : Rd enc P W t 1 (fun n : Nat => V.int k (n : Int)) (fun n => n < b) :=
  (rd_int ht).map Int.toNat (fun x hx => by rw [h0] at hx; rw [Int.toNat_of_nonneg hx.1]) (fun x hx => by rw [h0, h1] at hx; omega)

theorem rd_byte {t : TypeId} (ht : P.underlying t = some (.int .u8)) : Rd enc P W t 1 encB (fun _ => True) :=
  (rd_nat (k := .u8) 256 ht rfl rfl).map (fun n => UInt8.ofNat n) (fun n hn => encB_ofNat n hn) (fun _ _ => trivial)

end

section
variable {H : Type} {enc : TypeId × Value → H} {W : World}

theorem rd_u8 : Rd enc Try.prog W 5 1 (fun n : Nat => V.int .u8 (n : Int)) (fun n => n < 256) := rd_nat 256 Try.underlying5 rfl rfl
theorem rd_metric : Rd enc Try.prog W 30 1 (fun n : Nat => V.int .u8 (n : Int)) (fun n => n < 256) := rd_nat 256 Try.underlying30 rfl rfl
theorem rd_u16 : Rd enc Try.prog W 31 1 (fun n : Nat => V.int .u16 (n : Int)) (fun n => n < 65536) := rd_nat 65536 Try.underlying31 rfl rfl
theorem rd_u32 : Rd enc Try.prog W 28 1 (fun n : Nat => V.int .u32 (n : Int)) (fun n => n < 4294967296) := rd_nat 4294967296 Try.underlying28 rfl rfl
theorem rd_u64 : Rd enc Try.prog W 29 1 (fun n : Nat => V.int .u64 (n : Int)) (fun n => n < 18446744073709551616) := rd_nat 18446744073709551616 Try.underlying29 rfl rfl
theorem rd_strz : Rd enc Try.prog W 9 1 encStr (fun s => s.length ≤ 9223372036854775807) := rd_str Try.underlying9
theorem rd_i32 : Rd enc Try.prog W 21 1 encI32 (fun n => -2147483648 ≤ n ∧ n < 2147483648) :=
  (rd_int Try.underlying21).map id (fun _ _ => rfl) (fun x hx => by have h1 : IntKind.i32.min = -2147483648 := rfl; have h2 : IntKind.i32.max = 2147483647 := rfl; rw [h1, h2] at hx; exact ⟨hx.1, by simp only [id]; omega⟩)
theorem rd_i64 : Rd enc Try.prog W 2 1 (fun n : Int => V.int .i64 n) (fun n => -9223372036854775808 ≤ n ∧ n < 9223372036854775808) :=
  (rd_int Try.underlying2).map id (fun _ _ => rfl) (fun x hx => by have h1 : IntKind.i64.min = -9223372036854775808 := rfl; have h2 : IntKind.i64.max = 9223372036854775807 := rfl; rw [h1, h2] at hx; exact ⟨hx.1, by simp only [id]; omega⟩)
theorem rd_bytes : Rd enc Try.prog W 26 1 (fun xs => V.isl true 1 encB xs) (fun xs => (∀ x ∈ xs, True) ∧ xs.length ≤ 9223372036854775807) := rd_slice Try.underlying26 (by kernel_rfl) (by decide) (rd_byte Try.underlying5)
theorem rd_vec : Rd enc Try.prog W 35 1 (fun xs => V.isl true 1 encI32 xs) (fun xs => (∀ x ∈ xs, -2147483648 ≤ x ∧ x < 2147483648) ∧ xs.length ≤ 9223372036854775807) := rd_slice Try.underlying35 (by kernel_rfl) (by decide) rd_i32
theorem rd_texts : Rd enc Try.prog W 36 1 (fun xs => V.isl true 1 encStr xs) TextsRaw := rd_slice Try.underlying36 (by kernel_rfl) (by decide) rd_strz

theorem rd_item : Rd enc Try.prog W 58 3 encItem Item.Raw :=
  (RdF.struct Try.underlying58 rfl (RdF.cons (by kernel_rfl) rd_u32 (RdF.cons (by kernel_rfl) rd_vec (RdF.cons (by kernel_rfl) rd_texts RdF.nil)))).map
    (fun x => (⟨x.1, x.2.1, x.2.2.1⟩ : Item)) (fun x _ => rfl) (fun x h => ⟨h.1, h.2.1.1, h.2.1.2, h.2.2.1⟩)

theorem rd_chg : Rd enc Try.prog W 91 4 encChg (fun c => c.item.Raw) :=
  (RdF.struct Try.underlying91 rfl (RdF.cons (by kernel_rfl) (rd_bool Try.underlying4) (RdF.cons (by kernel_rfl) rd_item RdF.nil))).map
    (fun x => (⟨x.1, x.2.1⟩ : Chg)) (fun x _ => rfl) (fun x h => h.2.1)

theorem rd_hit : Rd enc Try.prog W 107 2 encHit Hit.Ok :=
  (RdF.struct Try.underlying107 rfl (RdF.cons (by kernel_rfl) rd_i64 (RdF.cons (by kernel_rfl) rd_u32 RdF.nil))).map
    (fun x => (⟨x.1, x.2.1⟩ : Hit)) (fun x _ => rfl) (fun x h => ⟨h.1.1, h.1.2, h.2.1⟩)

theorem rd_conf : Rd enc Try.prog W 33 6 (fun c : Conf => .agg [.str c.name, .int .u8 c.dim, .int .u8 c.metric, .bool c.graph, .int .u8 c.links, .int .u16 c.width]) (fun c => c.name.length ≤ 9223372036854775807 ∧ c.dim < 256 ∧ c.metric < 256 ∧ c.links < 256 ∧ c.width < 65536) :=
  (RdF.struct Try.underlying33 rfl (RdF.cons (by kernel_rfl) rd_strz (RdF.cons (by kernel_rfl) rd_u8 (RdF.cons (by kernel_rfl) rd_metric (RdF.cons (by kernel_rfl) (rd_bool Try.underlying4) (RdF.cons (by kernel_rfl) rd_u8 (RdF.cons (by kernel_rfl) rd_u16 RdF.nil))))))).map
    (fun x => (⟨x.1, x.2.1, x.2.2.1, x.2.2.2.1, x.2.2.2.2.1, x.2.2.2.2.2.1⟩ : Conf)) (fun x _ => rfl) (fun x h => ⟨h.1, h.2.1, h.2.2.1, h.2.2.2.2.1, h.2.2.2.2.2.1⟩)

theorem rd_filter : Rd enc Try.prog W 38 3 (fun x : List (List UInt8) × List (List UInt8) × List (List UInt8) => .agg [.isl true 1 encStr x.1, .isl true 1 encStr x.2.1, .isl true 1 encStr x.2.2]) (fun x => TextsRaw x.1 ∧ TextsRaw x.2.1 ∧ TextsRaw x.2.2) :=
  (RdF.struct Try.underlying38 rfl (RdF.cons (by kernel_rfl) rd_texts (RdF.cons (by kernel_rfl) rd_texts (RdF.cons (by kernel_rfl) rd_texts RdF.nil)))).map
    (fun x => (x.1, x.2.1, x.2.2.1)) (fun x _ => rfl) (fun x h => ⟨h.1, h.2.1, h.2.2.1⟩)

theorem rd_chgs : Rd enc Try.prog W 34 1 (fun xs => V.isl true 4 encChg xs) (fun xs => (∀ x ∈ xs, x.item.Raw) ∧ xs.length ≤ 9223372036854775807) := rd_slice Try.underlying34 (by kernel_rfl) (by decide) rd_chg
theorem rd_items : Rd enc Try.prog W 39 1 (fun xs => V.isl true 3 encItem xs) (fun xs => (∀ x ∈ xs, x.Raw) ∧ xs.length ≤ 9223372036854775807) := rd_slice Try.underlying39 (by kernel_rfl) (by decide) rd_item
theorem rd_hits : Rd enc Try.prog W 40 1 (fun xs => V.isl true 2 encHit xs) (fun xs => (∀ x ∈ xs, x.Ok) ∧ xs.length ≤ 9223372036854775807) := rd_slice Try.underlying40 (by kernel_rfl) (by decide) rd_hit

theorem rd_msg : Rd enc Try.prog W 42 28 (fun m : Msg => .agg m.cells) Msg.Raw :=
  (RdF.struct Try.underlying42 rfl (RdF.cons (by kernel_rfl) rd_u8 (RdF.cons (by kernel_rfl) rd_u32 (RdF.cons (by kernel_rfl) rd_u32 (RdF.cons (by kernel_rfl) rd_u64 (RdF.cons (by kernel_rfl) rd_u8 (RdF.cons (by kernel_rfl) rd_u32 (RdF.cons (by kernel_rfl) rd_strz (RdF.cons (by kernel_rfl) rd_conf (RdF.cons (by kernel_rfl) rd_chgs (RdF.cons (by kernel_rfl) rd_u32 (RdF.cons (by kernel_rfl) rd_vec (RdF.cons (by kernel_rfl) rd_u16 (RdF.cons (by kernel_rfl) rd_u16 (RdF.cons (by kernel_rfl) rd_filter (RdF.cons (by kernel_rfl) rd_u32 (RdF.cons (by kernel_rfl) rd_u32 (RdF.cons (by kernel_rfl) rd_bytes (RdF.cons (by kernel_rfl) rd_u64 (RdF.cons (by kernel_rfl) rd_texts (RdF.cons (by kernel_rfl) rd_items (RdF.cons (by kernel_rfl) rd_hits (RdF.nil))))))))))))))))))))))).map
    (fun x => (⟨x.1, x.2.1, x.2.2.1, x.2.2.2.1, x.2.2.2.2.1, x.2.2.2.2.2.1, x.2.2.2.2.2.2.1, x.2.2.2.2.2.2.2.1, x.2.2.2.2.2.2.2.2.1, x.2.2.2.2.2.2.2.2.2.1, x.2.2.2.2.2.2.2.2.2.2.1, x.2.2.2.2.2.2.2.2.2.2.2.1, x.2.2.2.2.2.2.2.2.2.2.2.2.1, x.2.2.2.2.2.2.2.2.2.2.2.2.2.1.1, x.2.2.2.2.2.2.2.2.2.2.2.2.2.1.2.1, x.2.2.2.2.2.2.2.2.2.2.2.2.2.1.2.2, x.2.2.2.2.2.2.2.2.2.2.2.2.2.2.1, x.2.2.2.2.2.2.2.2.2.2.2.2.2.2.2.1, x.2.2.2.2.2.2.2.2.2.2.2.2.2.2.2.2.1, x.2.2.2.2.2.2.2.2.2.2.2.2.2.2.2.2.2.1, x.2.2.2.2.2.2.2.2.2.2.2.2.2.2.2.2.2.2.1, x.2.2.2.2.2.2.2.2.2.2.2.2.2.2.2.2.2.2.2.1, x.2.2.2.2.2.2.2.2.2.2.2.2.2.2.2.2.2.2.2.2.1⟩ : Msg)) (fun x _ => rfl) (fun x h =>
    { kind := h.1, req := h.2.1, caps := h.2.2.1, token := h.2.2.2.1, code := h.2.2.2.2.1, n := h.2.2.2.2.2.1, name := h.2.2.2.2.2.2.1, cname := h.2.2.2.2.2.2.2.1.1, dim := h.2.2.2.2.2.2.2.1.2.1, metric := h.2.2.2.2.2.2.2.1.2.2.1, links := h.2.2.2.2.2.2.2.1.2.2.2.1, cwidth := h.2.2.2.2.2.2.2.1.2.2.2.2,
      changes := h.2.2.2.2.2.2.2.2.1, id := h.2.2.2.2.2.2.2.2.2.1, vec := h.2.2.2.2.2.2.2.2.2.2.1, k := h.2.2.2.2.2.2.2.2.2.2.2.1, width := h.2.2.2.2.2.2.2.2.2.2.2.2.1, fall := h.2.2.2.2.2.2.2.2.2.2.2.2.2.1.1, fany := h.2.2.2.2.2.2.2.2.2.2.2.2.2.1.2.1, fnone := h.2.2.2.2.2.2.2.2.2.2.2.2.2.1.2.2, num := h.2.2.2.2.2.2.2.2.2.2.2.2.2.2.1, page := h.2.2.2.2.2.2.2.2.2.2.2.2.2.2.2.1, bytes := h.2.2.2.2.2.2.2.2.2.2.2.2.2.2.2.2.1.2, version := h.2.2.2.2.2.2.2.2.2.2.2.2.2.2.2.2.2.1, names := h.2.2.2.2.2.2.2.2.2.2.2.2.2.2.2.2.2.2.1, items := h.2.2.2.2.2.2.2.2.2.2.2.2.2.2.2.2.2.2.2.1, hits := h.2.2.2.2.2.2.2.2.2.2.2.2.2.2.2.2.2.2.2.2.1 })

end
end Go.Sx
end

/- lodestarref06.Put is message.Put (printed by genlaw.py); no condition. lodestarref03.Great, lodestarref06.GreatChanges, Great; no condition. lodestarref06.Great; no condition. What a message reads as; no condition. crc's Summer: the library's locks, at the machine's level; no condition. crc's Summer: loads, stores, the lock, on a variable with an array at its end; no condition. crc's table; no condition. crc: sync.Once; no condition. crc: New, More, Of; no condition. crc by its table is crc bit by bit; no condition. frame.Encode; no condition. lodestarref05: More, Of; lodestarref07: Sum, Encode; no condition. FrameEncodes, FrameSizes, given that the document's example comes out; no other condition. -/
import Derived.KernelRfl
import Derived.Tactics
import Derived.Tactics2
import Derived.Defers
import Derived.Laws.Pointers
import Derived.Laws.LoneSync
import Derived.RegionTactic
import Derived.RegionCalls
import Derived.ChangeAlike
import Derived.Test.YtlbbdkecjpaglaaGreatHam

set_option linter.all false

section
open Go.Proofs
namespace Go.Sx
set_option linter.unusedVariables false

open Classical in
theorem put_cls (m : Msg) (L : List UInt8) (N : List (List UInt8)) (hL : mFields m.kind = (L, true)) (hN : rForm m.kind = (N, true)) (h1 : (mRun L (([], false), m)).1 = rRun m N ([], false))
    (h2 : (mRun L (([], false), m)).2.Empty ↔ m = N.foldl (rTake m) (Msg.zero m.kind)) : rPut m = mPut m := by
  have e : rOnly m = N.foldl (rTake m) (Msg.zero m.kind) := by simp only [rOnly, hN]
  simp only [rPut, mPut, hL, hN, e, ← h2, h1, true_and, if_true]
  by_cases hb : (rRun m N ([], false)).2 = true
  · rw [if_neg (fun h => by rw [hb] at h; cases h.2), if_pos (.inl hb)]
  · by_cases he : (mRun L (([], false), m)).2.Empty
    · rw [if_pos ⟨he, by simpa using hb⟩, if_neg (fun h => h.elim hb (fun h => h he))]
    · rw [if_neg (fun h => he h.1), if_pos (.inr he)]

theorem cls0 (m : Msg) (hL : mFields m.kind = ([99], true)) (hN : rForm m.kind = ([n_caps], true)) : rPut m = mPut m := by
  refine put_cls m _ _ hL hN rfl ?_
  show Msg.Empty { m with caps := 0 } ↔ m = { Msg.zero m.kind with caps := m.caps }
  rw [Msg.ext_iff']
  simp [Msg.Empty, Msg.zero]

theorem cls1 (m : Msg) (hL : mFields m.kind = ([99, 116, 110], true)) (hN : rForm m.kind = ([n_caps, n_token, n_n], true)) : rPut m = mPut m := by
  refine put_cls m _ _ hL hN rfl ?_
  show Msg.Empty { m with caps := 0, token := 0, n := 0 } ↔ m = { Msg.zero m.kind with caps := m.caps, token := m.token, n := m.n }
  rw [Msg.ext_iff']
  simp [Msg.Empty, Msg.zero]

theorem cls2 (m : Msg) (hL : mFields m.kind = ([116, 110], true)) (hN : rForm m.kind = ([n_token, n_n], true)) : rPut m = mPut m := by
  refine put_cls m _ _ hL hN rfl ?_
  show Msg.Empty { m with token := 0, n := 0 } ↔ m = { Msg.zero m.kind with token := m.token, n := m.n }
  rw [Msg.ext_iff']
  simp [Msg.Empty, Msg.zero]

theorem cls3 (m : Msg) (hL : mFields m.kind = ([110], true)) (hN : rForm m.kind = ([n_n], true)) : rPut m = mPut m := by
  refine put_cls m _ _ hL hN rfl ?_
  show Msg.Empty { m with n := 0 } ↔ m = { Msg.zero m.kind with n := m.n }
  rw [Msg.ext_iff']
  simp [Msg.Empty, Msg.zero]

theorem cls4 (m : Msg) (hL : mFields m.kind = ([101], true)) (hN : rForm m.kind = ([n_code], true)) : rPut m = mPut m := by
  refine put_cls m _ _ hL hN rfl ?_
  show Msg.Empty { m with code := 0 } ↔ m = { Msg.zero m.kind with code := m.code }
  rw [Msg.ext_iff']
  simp [Msg.Empty, Msg.zero]

theorem cls5 (m : Msg) (hL : mFields m.kind = ([114, 67], true)) (hN : rForm m.kind = ([n_req, n_conf], true)) : rPut m = mPut m := by
  refine put_cls m _ _ hL hN rfl ?_
  show Msg.Empty { m with req := 0, conf := ⟨[], 0, 0, false, 0, 0⟩ } ↔ m = { Msg.zero m.kind with req := m.req, conf := m.conf }
  rw [Msg.ext_iff']
  simp [Msg.Empty, Msg.zero]

theorem cls6 (m : Msg) (hL : mFields m.kind = ([114, 78], true)) (hN : rForm m.kind = ([n_req, n_name], true)) : rPut m = mPut m := by
  refine put_cls m _ _ hL hN rfl ?_
  show Msg.Empty { m with req := 0, name := [] } ↔ m = { Msg.zero m.kind with req := m.req, name := m.name }
  rw [Msg.ext_iff']
  simp [Msg.Empty, Msg.zero]

theorem cls7 (m : Msg) (hL : mFields m.kind = ([114], true)) (hN : rForm m.kind = ([n_req], true)) : rPut m = mPut m := by
  refine put_cls m _ _ hL hN rfl ?_
  show Msg.Empty { m with req := 0 } ↔ m = { Msg.zero m.kind with req := m.req }
  rw [Msg.ext_iff']
  simp [Msg.Empty, Msg.zero]

theorem cls8 (m : Msg) (hL : mFields m.kind = ([114, 78, 76], true)) (hN : rForm m.kind = ([n_req, n_name, n_changes], true)) : rPut m = mPut m := by
  refine put_cls m _ _ hL hN rfl ?_
  show Msg.Empty { m with req := 0, name := [], changes := [] } ↔ m = { Msg.zero m.kind with req := m.req, name := m.name, changes := m.changes }
  rw [Msg.ext_iff']
  simp [Msg.Empty, Msg.zero]

theorem cls9 (m : Msg) (hL : mFields m.kind = ([114, 78, 105], true)) (hN : rForm m.kind = ([n_req, n_name, n_id], true)) : rPut m = mPut m := by
  refine put_cls m _ _ hL hN rfl ?_
  show Msg.Empty { m with req := 0, name := [], id := 0 } ↔ m = { Msg.zero m.kind with req := m.req, name := m.name, id := m.id }
  rw [Msg.ext_iff']
  simp [Msg.Empty, Msg.zero]

theorem cls10 (m : Msg) (hL : mFields m.kind = ([114, 78, 118, 107, 119, 102], true)) (hN : rForm m.kind = ([n_req, n_name, n_vec, n_k, n_width, n_filter], true)) : rPut m = mPut m := by
  refine put_cls m _ _ hL hN rfl ?_
  show Msg.Empty { m with req := 0, name := [], vec := [], k := 0, width := 0, fall := [], fany := [], fnone := [] } ↔ m = { Msg.zero m.kind with req := m.req, name := m.name, vec := m.vec, k := m.k, width := m.width, fall := m.fall, fany := m.fany, fnone := m.fnone }
  rw [Msg.ext_iff']
  simp [Msg.Empty, Msg.zero]

theorem cls11 (m : Msg) (hL : mFields m.kind = ([114, 78, 118, 102], true)) (hN : rForm m.kind = ([n_req, n_name, n_vec, n_filter], true)) : rPut m = mPut m := by
  refine put_cls m _ _ hL hN rfl ?_
  show Msg.Empty { m with req := 0, name := [], vec := [], fall := [], fany := [], fnone := [] } ↔ m = { Msg.zero m.kind with req := m.req, name := m.name, vec := m.vec, fall := m.fall, fany := m.fany, fnone := m.fnone }
  rw [Msg.ext_iff']
  simp [Msg.Empty, Msg.zero]

theorem cls12 (m : Msg) (hL : mFields m.kind = ([114, 117, 112, 107], true)) (hN : rForm m.kind = ([n_req, n_num, n_page, n_k], true)) : rPut m = mPut m := by
  refine put_cls m _ _ hL hN rfl ?_
  show Msg.Empty { m with req := 0, num := 0, page := 0, k := 0 } ↔ m = { Msg.zero m.kind with req := m.req, num := m.num, page := m.page, k := m.k }
  rw [Msg.ext_iff']
  simp [Msg.Empty, Msg.zero]

theorem cls13 (m : Msg) (hL : mFields m.kind = ([114, 117], true)) (hN : rForm m.kind = ([n_req, n_num], true)) : rPut m = mPut m := by
  refine put_cls m _ _ hL hN rfl ?_
  show Msg.Empty { m with req := 0, num := 0 } ↔ m = { Msg.zero m.kind with req := m.req, num := m.num }
  rw [Msg.ext_iff']
  simp [Msg.Empty, Msg.zero]

theorem cls14 (m : Msg) (hL : mFields m.kind = ([114, 117, 112, 98], true)) (hN : rForm m.kind = ([n_req, n_num, n_page, n_bytes], true)) : rPut m = mPut m := by
  refine put_cls m _ _ hL hN rfl ?_
  show Msg.Empty { m with req := 0, num := 0, page := 0, bytes := [] } ↔ m = { Msg.zero m.kind with req := m.req, num := m.num, page := m.page, bytes := m.bytes }
  rw [Msg.ext_iff']
  simp [Msg.Empty, Msg.zero]

theorem cls15 (m : Msg) (hL : mFields m.kind = ([114, 101, 86, 117, 83, 73, 72], true)) (hN : rForm m.kind = ([n_req, n_code, n_version, n_num, n_names, n_items, n_hits], true)) : rPut m = mPut m := by
  refine put_cls m _ _ hL hN rfl ?_
  show Msg.Empty { m with req := 0, code := 0, version := 0, num := 0, names := [], items := [], hits := [] } ↔ m = { Msg.zero m.kind with req := m.req, code := m.code, version := m.version, num := m.num, names := m.names, items := m.items, hits := m.hits }
  rw [Msg.ext_iff']
  simp [Msg.Empty, Msg.zero]

theorem rPut_eq (m : Msg) : rPut m = mPut m := by
  by_cases h0 : m.kind = 1
  · exact cls0 m (by rw [mFields, if_pos h0]) (by rw [rForm, if_pos h0])
  by_cases h1 : m.kind = 2
  · exact cls1 m (by rw [mFields, if_neg h0, if_pos h1]) (by rw [rForm, if_neg h0, if_pos h1])
  by_cases h2 : m.kind = 3
  · exact cls2 m (by rw [mFields, if_neg h0, if_neg h1, if_pos h2]) (by rw [rForm, if_neg h0, if_neg h1, if_pos h2])
  by_cases h3 : m.kind = 4 ∨ m.kind = 7 ∨ m.kind = 8 ∨ m.kind = 9 ∨ m.kind = 10
  · exact cls3 m (by rw [mFields, if_neg h0, if_neg h1, if_neg h2, if_pos h3]) (by rw [rForm, if_neg h0, if_neg h1, if_neg h2, if_pos h3])
  by_cases h4 : m.kind = 5 ∨ m.kind = 6
  · exact cls4 m (by rw [mFields, if_neg h0, if_neg h1, if_neg h2, if_neg h3, if_pos h4]) (by rw [rForm, if_neg h0, if_neg h1, if_neg h2, if_neg h3, if_pos h4])
  by_cases h5 : m.kind = 11
  · exact cls5 m (by rw [mFields, if_neg h0, if_neg h1, if_neg h2, if_neg h3, if_neg h4, if_pos h5]) (by rw [rForm, if_neg h0, if_neg h1, if_neg h2, if_neg h3, if_neg h4, if_pos h5])
  by_cases h6 : m.kind = 12 ∨ m.kind = 20
  · exact cls6 m (by rw [mFields, if_neg h0, if_neg h1, if_neg h2, if_neg h3, if_neg h4, if_neg h5, if_pos h6]) (by rw [rForm, if_neg h0, if_neg h1, if_neg h2, if_neg h3, if_neg h4, if_neg h5, if_pos h6])
  by_cases h7 : m.kind = 13
  · exact cls7 m (by rw [mFields, if_neg h0, if_neg h1, if_neg h2, if_neg h3, if_neg h4, if_neg h5, if_neg h6, if_pos h7]) (by rw [rForm, if_neg h0, if_neg h1, if_neg h2, if_neg h3, if_neg h4, if_neg h5, if_neg h6, if_pos h7])
  by_cases h8 : m.kind = 14
  · exact cls8 m (by rw [mFields, if_neg h0, if_neg h1, if_neg h2, if_neg h3, if_neg h4, if_neg h5, if_neg h6, if_neg h7, if_pos h8]) (by rw [rForm, if_neg h0, if_neg h1, if_neg h2, if_neg h3, if_neg h4, if_neg h5, if_neg h6, if_neg h7, if_pos h8])
  by_cases h9 : m.kind = 15
  · exact cls9 m (by rw [mFields, if_neg h0, if_neg h1, if_neg h2, if_neg h3, if_neg h4, if_neg h5, if_neg h6, if_neg h7, if_neg h8, if_pos h9]) (by rw [rForm, if_neg h0, if_neg h1, if_neg h2, if_neg h3, if_neg h4, if_neg h5, if_neg h6, if_neg h7, if_neg h8, if_pos h9])
  by_cases h10 : m.kind = 16
  · exact cls10 m (by rw [mFields, if_neg h0, if_neg h1, if_neg h2, if_neg h3, if_neg h4, if_neg h5, if_neg h6, if_neg h7, if_neg h8, if_neg h9, if_pos h10]) (by rw [rForm, if_neg h0, if_neg h1, if_neg h2, if_neg h3, if_neg h4, if_neg h5, if_neg h6, if_neg h7, if_neg h8, if_neg h9, if_pos h10])
  by_cases h11 : m.kind = 17
  · exact cls11 m (by rw [mFields, if_neg h0, if_neg h1, if_neg h2, if_neg h3, if_neg h4, if_neg h5, if_neg h6, if_neg h7, if_neg h8, if_neg h9, if_neg h10, if_pos h11]) (by rw [rForm, if_neg h0, if_neg h1, if_neg h2, if_neg h3, if_neg h4, if_neg h5, if_neg h6, if_neg h7, if_neg h8, if_neg h9, if_neg h10, if_pos h11])
  by_cases h12 : m.kind = 18
  · exact cls12 m (by rw [mFields, if_neg h0, if_neg h1, if_neg h2, if_neg h3, if_neg h4, if_neg h5, if_neg h6, if_neg h7, if_neg h8, if_neg h9, if_neg h10, if_neg h11, if_pos h12]) (by rw [rForm, if_neg h0, if_neg h1, if_neg h2, if_neg h3, if_neg h4, if_neg h5, if_neg h6, if_neg h7, if_neg h8, if_neg h9, if_neg h10, if_neg h11, if_pos h12])
  by_cases h13 : m.kind = 19 ∨ m.kind = 22 ∨ m.kind = 23
  · exact cls13 m (by rw [mFields, if_neg h0, if_neg h1, if_neg h2, if_neg h3, if_neg h4, if_neg h5, if_neg h6, if_neg h7, if_neg h8, if_neg h9, if_neg h10, if_neg h11, if_neg h12, if_pos h13]) (by rw [rForm, if_neg h0, if_neg h1, if_neg h2, if_neg h3, if_neg h4, if_neg h5, if_neg h6, if_neg h7, if_neg h8, if_neg h9, if_neg h10, if_neg h11, if_neg h12, if_pos h13])
  by_cases h14 : m.kind = 21
  · exact cls14 m (by rw [mFields, if_neg h0, if_neg h1, if_neg h2, if_neg h3, if_neg h4, if_neg h5, if_neg h6, if_neg h7, if_neg h8, if_neg h9, if_neg h10, if_neg h11, if_neg h12, if_neg h13, if_pos h14]) (by rw [rForm, if_neg h0, if_neg h1, if_neg h2, if_neg h3, if_neg h4, if_neg h5, if_neg h6, if_neg h7, if_neg h8, if_neg h9, if_neg h10, if_neg h11, if_neg h12, if_neg h13, if_pos h14])
  by_cases h15 : m.kind = 24
  · exact cls15 m (by rw [mFields, if_neg h0, if_neg h1, if_neg h2, if_neg h3, if_neg h4, if_neg h5, if_neg h6, if_neg h7, if_neg h8, if_neg h9, if_neg h10, if_neg h11, if_neg h12, if_neg h13, if_neg h14, if_pos h15]) (by rw [rForm, if_neg h0, if_neg h1, if_neg h2, if_neg h3, if_neg h4, if_neg h5, if_neg h6, if_neg h7, if_neg h8, if_neg h9, if_neg h10, if_neg h11, if_neg h12, if_neg h13, if_neg h14, if_pos h15])
  have e1 : mFields m.kind = ([], false) := by rw [mFields, if_neg h0, if_neg h1, if_neg h2, if_neg h3, if_neg h4, if_neg h5, if_neg h6, if_neg h7, if_neg h8, if_neg h9, if_neg h10, if_neg h11, if_neg h12, if_neg h13, if_neg h14, if_neg h15]
  have e2 : rForm m.kind = ([], false) := by rw [rForm, if_neg h0, if_neg h1, if_neg h2, if_neg h3, if_neg h4, if_neg h5, if_neg h6, if_neg h7, if_neg h8, if_neg h9, if_neg h10, if_neg h11, if_neg h12, if_neg h13, if_neg h14, if_neg h15]
  simp [rPut, mPut, e1, e2]

end Go.Sx
end

section
open Go.Proofs
namespace Go.Sx
set_option linter.unusedVariables false

abbrev TextsRaw (l : List (List UInt8)) : Prop := (∀ x ∈ l, x.length ≤ 9223372036854775807) ∧ l.length ≤ 9223372036854775807

theorem take_all_succ {α : Type} {l : List α} {i : Nat} {x : α} {P : α → Prop} (h : ∀ y ∈ l.take i, P y) (hx : l[i]? = some x) (hp : P x) : ∀ y ∈ l.take (i + 1), P y := by
  intro y hy
  rw [List.take_add_one, hx] at hy
  simp at hy
  rcases hy with hy | hy
  · exact h y hy
  · subst hy; exact hp

theorem great3_ob (p : Bool) (l : List (List UInt8)) (hl : TextsRaw l) (K : Post) (hK : ∀ b : Bool, (b = false → (∀ x ∈ l, x.length ≤ 20000) ∧ l.length ≤ 300) → K (.bool b) [] 0) : CallOb Tryz.prog 20 [.isl p 1 encStr l] [] 0 K := by
  refine contract TryztabOk Tryz.checked.mixed Tryz.func20 rfl Tryz.call20 [] [] [2] (res1 Tryz.results20) Tryz.ntmps20 rfl ?_
  have hl2 := hl.2
  conv => whnf
  refine loop_rule TryztabOk Tryz.checked.mixed [0, 3, 4] [] [] (T := { x : Nat × Nat // x.1 ≤ l.length ∧ x.2 ≤ 50000 ∧ (x.2 < 20000 → ∀ y ∈ l.take x.1, y.length ≤ 20000) }) (fun x => [.isl p 1 encStr l, .int .i64 (x.1.2 : Int), .int .i64 (x.1.1 : Int)])
    (fun x => []) 0 (fun x => l.length - x.1.1) ⟨(0, 0), by simp, by simp, by simp⟩ rfl rfl ?_ ?_
  · conv => whnf
    exact ⟨leTs_refl _, leH_refl _, Nat.le_refl _⟩
  · rintro ⟨⟨i, n⟩, hi, hn, hal⟩
    simp only at hi hn hal
    conv => whnf
    refine br_intro (fun hlt => ?_) (fun hlt => ?_)
    · rw [pickAnd] at hlt
      simp only [Bool.and_eq_true, decide_eq_true_eq] at hlt
      have h1 : i < l.length := by omega
      have h2 : n < 20000 := by omega
      conv => whnf
      refine ⟨⟨by simp only; omega, by simp only; omega⟩, ?_⟩
      intro x hxi
      have hxi' : l[i]? = some x := by simpa using hxi
      have hx := hl.1 x (List.mem_of_getElem? hxi')
      conv => whnf
      by_cases hm : (20000 : Int) < (x.length : Int)
      · rw [if_pos hm]
        refine ⟨⟨(i + 1, n + 1 + 20000), h1, by simp only; omega, fun h => by simp only at h; omega⟩, ?_, ⟨leT_refl _, ⟨rfl, ?_⟩, ⟨rfl, wrapI64' (m := i + 1) (by omega)⟩, trivial⟩, leH_refl _, Nat.le_refl _⟩
        · show l.length - (i + 1) < l.length - i; omega
        · show IntKind.i64.wrap (IntKind.i64.wrap ((n : Int) + 1) + 20000) = ((n + 1 + 20000 : Nat) : Int)
          rw [wrapI64 ((n : Int) + 1) (by omega) (by omega), wrapI64 _ (by omega) (by omega)]; omega
      · rw [if_neg hm]
        refine ⟨⟨(i + 1, n + 1 + x.length), h1, by simp only; omega, fun h => take_all_succ (hal h2) hxi' (by omega)⟩, ?_, ⟨leT_refl _, ⟨rfl, ?_⟩, ⟨rfl, wrapI64' (m := i + 1) (by omega)⟩, trivial⟩, leH_refl _, Nat.le_refl _⟩
        · show l.length - (i + 1) < l.length - i; omega
        · show IntKind.i64.wrap (IntKind.i64.wrap ((n : Int) + 1) + (x.length : Int)) = ((n + 1 + x.length : Nat) : Int)
          rw [wrapI64 ((n : Int) + 1) (by omega) (by omega), wrapI64 _ (by omega) (by omega)]; omega
    · rw [pickAnd] at hlt
      simp only [Bool.and_eq_false_iff, decide_eq_false_iff_not] at hlt
      conv => whnf
      refine ⟨_, _, _, leT_refl _, leH_refl _, Nat.le_refl _, hK _ (fun hb => ?_)⟩
      have h1 : ¬ (20000 : Int) ≤ (n : Int) ∧ ¬ (300 : Int) < (l.length : Int) := by
        constructor
        · intro h; simp [h] at hb
        · intro h; simp [h] at hb
      have h2 : ¬ i < l.length := by rcases hlt with h | h <;> omega
      have h3 := hal (by omega)
      rw [List.take_of_length_le (by omega)] at h3
      exact ⟨h3, by omega⟩

structure Item.Raw (x : Item) : Prop where
  id : x.id < 2 ^ 32
  vec : ∀ n ∈ x.vec, -2147483648 ≤ n ∧ n < 2147483648
  vlen : x.vec.length ≤ 9223372036854775807
  tags : TextsRaw x.tags

def Item.Small (x : Item) : Prop := x.vec.length ≤ 50000 ∧ (∀ t ∈ x.tags, t.length ≤ 20000) ∧ x.tags.length ≤ 300

theorem Item.Raw.ok {x : Item} (h : x.Raw) (s : x.Small) : x.Ok :=
  ⟨h.id, h.vec, by have := s.1; omega, fun t ht => by have := s.2.1 t ht; omega, by have := s.2.2; omega⟩

set_option maxRecDepth 4000 in
theorem greatChg_ob (p : Bool) (l : List Chg) (hr : ∀ x ∈ l, x.item.Raw) (hl : l.length ≤ 9223372036854775807) (K : Post) (hK : ∀ b : Bool, (b = false → (∀ x ∈ l, x.item.Small) ∧ l.length ≤ 50000) → K (.bool b) [] 0) : CallOb Tryz.prog 21 [.isl p 4 encChg l] [] 0 K := by
  refine contract TryztabOk Tryz.checked.mixed Tryz.func21 rfl Tryz.call21 [] [] [2] (res1 Tryz.results21) Tryz.ntmps21 rfl ?_
  conv => whnf
  refine loop_rule TryztabOk Tryz.checked.mixed [0, 3, 4] [] [] (T := { x : Nat × Nat // x.1 ≤ l.length ∧ x.2 ≤ 110000 ∧ x.1 ≤ x.2 ∧ (x.2 < 50000 → ∀ y ∈ l.take x.1, y.item.Small) }) (fun x => [.isl p 4 encChg l, .int .i64 (x.1.2 : Int), .int .i64 (x.1.1 : Int)])
    (fun x => []) 0 (fun x => l.length - x.1.1) ⟨(0, 0), by simp, by simp, by simp, by simp⟩ rfl rfl ?_ ?_
  · conv => whnf
    exact ⟨leTs_refl _, leH_refl _, Nat.le_refl _⟩
  · rintro ⟨⟨i, n⟩, hi, hn, hin, hal⟩
    simp only at hi hn hal hin
    conv => whnf
    refine br_intro (fun hlt => ?_) (fun hlt => ?_)
    · rw [pickAnd] at hlt
      simp only [Bool.and_eq_true, decide_eq_true_eq] at hlt
      have h1 : i < l.length := by omega
      have h2 : n < 50000 := by omega
      conv => whnf
      refine ⟨⟨by simp only; omega, by simp only; omega⟩, ?_⟩
      intro x hxi
      have hxi' : l[i]? = some x := by simpa using hxi
      have hx := hr x (List.mem_of_getElem? hxi')
      conv => whnf
      refine ⟨⟨by simp only; omega, by simp only; omega⟩, ?_⟩
      intro x' hxj
      have : x' = x := by
        have hxj' : l[i]? = some x' := by simpa using hxj
        rw [hxi'] at hxj'; cases hxj'; rfl
      subst this
      clear hxj
      conv => whnf
      refine call_rule [] ?_
      conv => whnf
      refine great3_ob true x'.item.tags hx.tags _ (fun b hb => ?_)
      cases b
      · conv => whnf
        by_cases hm : (50000 : Int) < (x'.item.vec.length : Int)
        · rw [if_pos hm]
          refine ⟨⟨(i + 1, n + 1 + 50000), h1, by simp only; omega, by simp only; omega, fun h => by simp only at h; omega⟩, ?_, ⟨leT_refl _, ⟨rfl, ?_⟩, ⟨rfl, wrapI64' (m := i + 1) (by omega)⟩, trivial⟩, leH_refl _, Nat.le_refl _⟩
          · show l.length - (i + 1) < l.length - i; omega
          · show IntKind.i64.wrap (IntKind.i64.wrap ((n : Int) + 1) + 50000) = ((n + 1 + 50000 : Nat) : Int)
            rw [wrapI64 ((n : Int) + 1) (by omega) (by omega), wrapI64 _ (by omega) (by omega)]; omega
        · rw [if_neg hm]
          refine ⟨⟨(i + 1, n + 1 + x'.item.vec.length), h1, by simp only; omega, by simp only; omega, fun h => take_all_succ (hal h2) hxi' ⟨by omega, hb rfl⟩⟩, ?_, ⟨leT_refl _, ⟨rfl, ?_⟩, ⟨rfl, wrapI64' (m := i + 1) (by omega)⟩, trivial⟩, leH_refl _, Nat.le_refl _⟩
          · show l.length - (i + 1) < l.length - i; omega
          · show IntKind.i64.wrap (IntKind.i64.wrap ((n : Int) + 1) + (x'.item.vec.length : Int)) = ((n + 1 + x'.item.vec.length : Nat) : Int)
            rw [wrapI64 ((n : Int) + 1) (by omega) (by omega), wrapI64 _ (by omega) (by omega)]; omega
      · conv => whnf
        exact ⟨_, _, _, leT_refl _, leH_refl _, Nat.le_refl _, hK true (fun h => by cases h)⟩
    · rw [pickAnd] at hlt
      simp only [Bool.and_eq_false_iff, decide_eq_false_iff_not] at hlt
      conv => whnf
      refine ⟨_, _, _, leT_refl _, leH_refl _, Nat.le_refl _, hK _ (fun hb => ?_)⟩
      have h1 : ¬ (50000 : Int) ≤ (n : Int) := by simpa using hb
      have h2 : ¬ i < l.length := by rcases hlt with h | h <;> omega
      have h3 := hal (by omega)
      rw [List.take_of_length_le (by omega)] at h3
      exact ⟨h3, by omega⟩

end Go.Sx
end

section
open Go.Proofs
namespace Go.Sx
set_option linter.unusedVariables false

structure Msg.Raw (m : Msg) : Prop where
  kind : m.kind < 256
  req : m.req < 2 ^ 32
  caps : m.caps < 2 ^ 32
  token : m.token < 2 ^ 64
  code : m.code < 256
  n : m.n < 2 ^ 32
  name : m.name.length ≤ 9223372036854775807
  cname : m.conf.name.length ≤ 9223372036854775807
  dim : m.conf.dim < 256
  metric : m.conf.metric < 256
  links : m.conf.links < 256
  cwidth : m.conf.width < 65536
  changes : (∀ x ∈ m.changes, x.item.Raw) ∧ m.changes.length ≤ 9223372036854775807
  id : m.id < 2 ^ 32
  vec : (∀ n ∈ m.vec, -2147483648 ≤ n ∧ n < 2147483648) ∧ m.vec.length ≤ 9223372036854775807
  k : m.k < 65536
  width : m.width < 65536
  fall : TextsRaw m.fall
  fany : TextsRaw m.fany
  fnone : TextsRaw m.fnone
  num : m.num < 2 ^ 32
  page : m.page < 2 ^ 32
  bytes : m.bytes.length ≤ 9223372036854775807
  version : m.version < 2 ^ 64
  names : TextsRaw m.names
  items : (∀ x ∈ m.items, x.Raw) ∧ m.items.length ≤ 9223372036854775807
  hits : (∀ x ∈ m.hits, x.Ok) ∧ m.hits.length ≤ 9223372036854775807

theorem pickOr (a b : Bool) : (bif a then true else b) = (a || b) := by cases a <;> rfl

def mn (c : Nat) (l : Nat) : Nat := if c < l then c else l

theorem mn_eq (c l : Nat) : (if (c : Int) < (l : Int) then (c : Int) else (l : Int)) = ((mn c l : Nat) : Int) := by
  unfold mn
  by_cases h : c < l
  · rw [if_pos h, if_pos (by omega)]
  · rw [if_neg h, if_neg (by omega)]

theorem mn_le (c l : Nat) : mn c l ≤ c := by unfold mn; split <;> omega
theorem mn_lt {c l : Nat} (h : mn c l < c) : l < c := by unfold mn at h; split at h <;> omega

set_option maxRecDepth 8000 in
theorem great_ob (m : Msg) (hm : m.Raw) (K : Post) (hK : ∀ b : Bool, (b = false → m.Ok) → K (.bool b) [] 0) : CallOb Tryz.prog 8 [.agg m.cells] [] 0 K := by
  refine contract TryztabOk Tryz.checked.mixed Tryz.func8 rfl Tryz.call8 [] [] [2] (res1 Tryz.results8) Tryz.ntmps8 rfl ?_
  have q1 := mn_le 50001 m.name.length
  have q2 := mn_le 50001 m.conf.name.length
  have q3 := mn_le 50001 m.bytes.length
  have q4 := mn_le 50001 m.vec.length
  have q5 := mn_le 50001 m.hits.length
  have e : IntKind.i64.wrap (IntKind.i64.wrap (IntKind.i64.wrap (IntKind.i64.wrap ((if (50001 : Int) < (m.name.length : Int) then 50001 else (m.name.length : Int)) + (if (50001 : Int) < (m.conf.name.length : Int) then 50001 else (m.conf.name.length : Int))) + (if (50001 : Int) < (m.bytes.length : Int) then 50001 else (m.bytes.length : Int))) + (if (50001 : Int) < (m.vec.length : Int) then 50001 else (m.vec.length : Int))) + (if (50001 : Int) < (m.hits.length : Int) then 50001 else (m.hits.length : Int)))
      = ((mn 50001 m.name.length + mn 50001 m.conf.name.length + mn 50001 m.bytes.length + mn 50001 m.vec.length + mn 50001 m.hits.length : Nat) : Int) := by
    rw [show (50001 : Int) = ((50001 : Nat) : Int) from rfl, mn_eq, mn_eq, mn_eq, mn_eq, mn_eq]
    rw [addNat, wrapI64' (by omega), addNat, wrapI64' (by omega), addNat, wrapI64' (by omega), addNat, wrapI64' (by omega)]
  conv => whnf
  simp only [e]
  generalize hN : mn 50001 m.name.length + mn 50001 m.conf.name.length + mn 50001 m.bytes.length + mn 50001 m.vec.length + mn 50001 m.hits.length = n0
  repeat' first
    | exact ⟨_, _, _, leT_refl _, leH_refl _, Nat.le_refl _, hK true (fun h => by cases h)⟩
    | (refine call_rule [] ?_
       conv => whnf
       first
         | refine great3_ob true m.names hm.names _ (fun b hb1 => ?_)
         | refine great3_ob true m.fall hm.fall _ (fun b hb2 => ?_)
         | refine great3_ob true m.fany hm.fany _ (fun b hb3 => ?_)
         | refine great3_ob true m.fnone hm.fnone _ (fun b hb4 => ?_)
       conv => whnf
       cases b <;> conv => whnf)
    | (refine br_intro (fun h => ?_) (fun h => ?_) <;> conv => whnf)
    | fail
  simp only [pickOr, Bool.or_eq_false_iff, decide_eq_false_iff_not] at h
  have g1 : n0 ≤ 50000 := by omega
  have g2 : m.changes.length ≤ 400 := by omega
  have g3 : m.items.length ≤ 400 := by omega
  have s1 := hb1 rfl
  have s2 := hb2 rfl
  have s3 := hb3 rfl
  have s4 := hb4 rfl
  clear h
  refine loop_rule TryztabOk Tryz.checked.mixed [1, 3, 4] [] [] (T := { x : Nat × Nat // x.1 ≤ m.items.length ∧ x.2 ≤ 110000 ∧ (x.2 < 50000 → ∀ y ∈ m.items.take x.1, y.Small) }) (fun x => [.ptr 0 0, .int .i64 (x.1.2 : Int), .int .i64 (x.1.1 : Int)])
    (fun x => [(0, .cells 37 m.cells)]) 1 (fun x => m.items.length - x.1.1) ⟨(0, n0), by simp, by simp only; omega, by simp⟩ rfl rfl ?_ ?_
  · conv => whnf
    exact ⟨leTs_refl _, leH_refl _, Nat.le_refl _⟩
  · rintro ⟨⟨i, n⟩, hi, hn, hal⟩
    simp only at hi hn hal
    conv => whnf
    refine br_intro (fun hlt => ?_) (fun hlt => ?_)
    · rw [pickAnd] at hlt
      simp only [Bool.and_eq_true, decide_eq_true_eq] at hlt
      have h1 : i < m.items.length := by omega
      have h2 : n < 50000 := by omega
      conv => whnf
      refine ⟨⟨by simp only; omega, by simp only; omega⟩, ?_⟩
      intro x hxi
      have hxi' : m.items[i]? = some x := by simpa using hxi
      have hx := hm.items.1 x (List.mem_of_getElem? hxi')
      conv => whnf
      refine ⟨⟨by simp only; omega, by simp only; omega⟩, ?_⟩
      intro x' hxj
      have : x' = x := by
        have hxj' : m.items[i]? = some x' := by simpa using hxj
        rw [hxi'] at hxj'; cases hxj'; rfl
      subst this
      clear hxj
      conv => whnf
      refine call_rule [] ?_
      conv => whnf
      refine great3_ob true x'.tags hx.tags _ (fun b hb => ?_)
      cases b
      · conv => whnf
        by_cases hq : (50000 : Int) < (x'.vec.length : Int)
        · rw [if_pos hq]
          refine ⟨⟨(i + 1, n + 50000), h1, by simp only; omega, fun h => by simp only at h; omega⟩, ?_, ⟨leT_refl _, ⟨rfl, ?_⟩, ⟨rfl, wrapI64' (m := i + 1) (by omega)⟩, trivial⟩, leH_refl _, Nat.le_refl _⟩
          · show m.items.length - (i + 1) < m.items.length - i; omega
          · show IntKind.i64.wrap ((n : Int) + 50000) = ((n + 50000 : Nat) : Int)
            rw [wrapI64 ((n : Int) + 50000) (by omega) (by omega)]; omega
        · rw [if_neg hq]
          refine ⟨⟨(i + 1, n + x'.vec.length), h1, by simp only; omega, fun h => take_all_succ (hal h2) hxi' ⟨by omega, hb rfl⟩⟩, ?_, ⟨leT_refl _, ⟨rfl, ?_⟩, ⟨rfl, wrapI64' (m := i + 1) (by omega)⟩, trivial⟩, leH_refl _, Nat.le_refl _⟩
          · show m.items.length - (i + 1) < m.items.length - i; omega
          · show IntKind.i64.wrap ((n : Int) + (x'.vec.length : Int)) = ((n + x'.vec.length : Nat) : Int)
            rw [wrapI64 ((n : Int) + (x'.vec.length : Int)) (by omega) (by omega)]; omega
      · conv => whnf
        exact ⟨_, _, _, leT_refl _, leH_refl _, Nat.le_refl _, hK true (fun h => by cases h)⟩
    · rw [pickAnd] at hlt
      simp only [Bool.and_eq_false_iff, decide_eq_false_iff_not] at hlt
      conv => whnf
      refine br_dec (fun hg => ?_) (fun hg => ?_)
      · conv => whnf
        exact ⟨_, _, _, leT_refl _, leH_refl _, Nat.le_refl _, hK true (fun h => by cases h)⟩
      · conv => whnf
        refine call_rule [] ?_
        conv => whnf
        refine greatChg_ob true m.changes hm.changes.1 hm.changes.2 _ (fun b hb => ?_)
        conv => whnf
        refine ⟨_, _, _, leT_refl _, leH_refl _, Nat.le_refl _, hK b (fun hbf => ?_)⟩
        have sc := hb hbf
        have hg' : ¬ 50000 ≤ n := by simp only at hg; omega
        have h2 : ¬ i < m.items.length := by rcases hlt with h | h <;> omega
        have h3 := hal (by omega)
        rw [List.take_of_length_le (by omega)] at h3
        have w1 : m.name.length < 50001 := mn_lt (by omega)
        have w2 : m.conf.name.length < 50001 := mn_lt (by omega)
        have w3 : m.bytes.length < 50001 := mn_lt (by omega)
        have w4 : m.vec.length < 50001 := mn_lt (by omega)
        have w5 : m.hits.length < 50001 := mn_lt (by omega)
        have tx : ∀ l : List (List UInt8), ((∀ x ∈ l, x.length ≤ 20000) ∧ l.length ≤ 300) → TextsOk l := fun l h => ⟨fun x hx => by have := h.1 x hx; omega, by have := h.2; omega⟩
        exact { kind := hm.kind, req := hm.req, caps := hm.caps, token := hm.token, code := hm.code, n := hm.n, name := by omega, conf := ⟨by omega, hm.dim, hm.metric, hm.links, hm.cwidth⟩,
                changes := ⟨fun x hx => (hm.changes.1 x hx).ok (sc.1 x hx), by omega⟩, id := hm.id, vec := ⟨hm.vec.1, by omega⟩, k := hm.k, width := hm.width, fall := tx _ s2, fany := tx _ s3, fnone := tx _ s4,
                num := hm.num, page := hm.page, bytes := by omega, version := hm.version, names := tx _ s1, items := ⟨fun x hx => (hm.items.1 x hx).ok (h3 x hx), by omega⟩, hits := ⟨hm.hits.1, by omega⟩ }

end Go.Sx
end

section
open Go.Proofs
namespace Go.Sx
set_option linter.unusedVariables false

section
variable {H : Type} {enc : TypeId × Value → H} {P : Program} {W : World}

def RdF (enc : TypeId × Value → H) (P : Program) (W : World) (L : List (Nat × TypeId)) (off n : Nat) {α : Type} (e : α → List V) (ok : α → Prop) : Prop :=
  ∀ (fuel : Nat) (cs : List Value) (xs : List (DataW H × List MemPlace)), (L.mapM fun p => DataW.trod enc P W 0 (fun _ => true) true fuel p.2 ((cs.drop p.1).take (P.cellsOf p.2))) = some xs → cs.length = off + n →
    ∃ x : α, ok x ∧ (e x).length = n ∧ ∀ (j : Nat) (y : V) (v : Value), (e x)[j]? = some y → cs[off + j]? = some v → IR W.heap (JJ W) y v ∧ v.oneCell' = true

theorem RdF.nil {off : Nat} : RdF enc P W [] off 0 (fun _ : Unit => []) (fun _ => True) := by
  intro fuel cs xs h hl
  exact ⟨(), trivial, rfl, fun j y v hy => by simp at hy⟩

theorem RdF.cons {t off n m : Nat} {L : List (Nat × TypeId)} {α β : Type} {e : α → V} {ok : α → Prop} {e2 : β → List V} {ok2 : β → Prop} (hc : P.cellsOf t = n) (h1 : Rd enc P W t n e ok) (h2 : RdF enc P W L (off + n) m e2 ok2) :
    RdF enc P W ((off, t) :: L) off (n + m) (fun x : α × β => (e x.1).cells ++ e2 x.2) (fun x => ok x.1 ∧ ok2 x.2) := by
  intro fuel cs xs h hl
  simp only [List.mapM_cons, Option.bind_eq_bind, Option.pure_def, Option.bind_eq_some_iff] at h
  obtain ⟨⟨d, ps⟩, hd, ys, hys, h⟩ := h
  rw [hc] at hd
  have hlen : ((cs.drop off).take n).length = n := by simp; omega
  obtain ⟨x, a1, a2, a3⟩ := h1 fuel _ d ps hlen hd
  obtain ⟨y, b1, b2, b3⟩ := h2 fuel cs ys hys (by omega)
  refine ⟨(x, y), ⟨a1, b1⟩, by simp [a2, b2], fun j z v hz hv => ?_⟩
  have hz : ((e x).cells ++ e2 y)[j]? = some z := hz
  by_cases hj : j < n
  · rw [List.getElem?_append_left (by rw [a2]; exact hj)] at hz
    refine a3 j z v hz ?_
    rw [List.getElem?_take, if_pos hj, List.getElem?_drop]
    exact hv
  · rw [List.getElem?_append_right (by rw [a2]; omega), a2] at hz
    refine b3 (j - n) z v hz ?_
    rw [show off + n + (j - n) = off + j by omega]
    exact hv

theorem RdF.struct {t n : Nat} {fs : Array Field} {L : List (Nat × TypeId)} {α : Type} {e : α → List V} {ok : α → Prop} (hu : P.underlying t = some (.struct fs)) (hL : fs.toList.map (fun f => (f.offset, f.type)) = L) (h : RdF enc P W L 0 n e ok) :
    Rd enc P W t n (fun x => .agg (e x)) ok := by
  intro fuel cs d ps hl ht
  cases fuel with
  | zero => simp [DataW.trod] at ht
  | succ fuel =>
    simp only [DataW.trod, hu] at ht
    split at ht
    · simp only [Option.map_eq_some_iff] at ht
      obtain ⟨xs, hxs, _⟩ := ht
      have : (L.mapM fun p => DataW.trod enc P W 0 (fun _ => true) true fuel p.2 ((cs.drop p.1).take (P.cellsOf p.2))) = some xs := by
        rw [← hL, List.mapM_map]
        exact hxs
      obtain ⟨x, a1, a2, a3⟩ := h fuel cs xs this (by omega)
      refine ⟨x, a1, a2, fun j y v hy hv => a3 j y v hy ?_⟩
      rw [Nat.zero_add]; exact hv
    · cases ht

theorem rd_nat {t : TypeId} {k : IntKind} (b : Nat) (ht : P.underlying t = some (.int k)) (h0 : k.min = 0) (h1 : k.max = (b : Int) - 1) : Rd enc P W t 1 (fun n : Nat => V.int k (n : Int)) (fun n => n < b) :=
  (rd_int ht).map Int.toNat (fun x hx => by rw [h0] at hx; rw [Int.toNat_of_nonneg hx.1]) (fun x hx => by rw [h0, h1] at hx; omega)

theorem rd_byte {t : TypeId} (ht : P.underlying t = some (.int .u8)) : Rd enc P W t 1 encB (fun _ => True) :=
  (rd_nat (k := .u8) 256 ht rfl rfl).map (fun n => UInt8.ofNat n) (fun n hn => encB_ofNat n hn) (fun _ _ => trivial)

end

section
variable {H : Type} {enc : TypeId × Value → H} {W : World}

theorem rd_u8 : Rd enc Tryz.prog W 5 1 (fun n : Nat => V.int .u8 (n : Int)) (fun n => n < 256) := rd_nat 256 Tryz.underlying5 rfl rfl
theorem rd_metric : Rd enc Tryz.prog W 24 1 (fun n : Nat => V.int .u8 (n : Int)) (fun n => n < 256) := rd_nat 256 Tryz.underlying24 rfl rfl
theorem rd_u16 : Rd enc Tryz.prog W 25 1 (fun n : Nat => V.int .u16 (n : Int)) (fun n => n < 65536) := rd_nat 65536 Tryz.underlying25 rfl rfl
theorem rd_u32 : Rd enc Tryz.prog W 22 1 (fun n : Nat => V.int .u32 (n : Int)) (fun n => n < 4294967296) := rd_nat 4294967296 Tryz.underlying22 rfl rfl
theorem rd_u64 : Rd enc Tryz.prog W 23 1 (fun n : Nat => V.int .u64 (n : Int)) (fun n => n < 18446744073709551616) := rd_nat 18446744073709551616 Tryz.underlying23 rfl rfl
theorem rd_strz : Rd enc Tryz.prog W 9 1 encStr (fun s => s.length ≤ 9223372036854775807) := rd_str Tryz.underlying9
theorem rd_i32 : Rd enc Tryz.prog W 21 1 encI32 (fun n => -2147483648 ≤ n ∧ n < 2147483648) :=
  (rd_int Tryz.underlying21).map id (fun _ _ => rfl) (fun x hx => by have h1 : IntKind.i32.min = -2147483648 := rfl; have h2 : IntKind.i32.max = 2147483647 := rfl; rw [h1, h2] at hx; exact ⟨hx.1, by simp only [id]; omega⟩)
theorem rd_i64 : Rd enc Tryz.prog W 2 1 (fun n : Int => V.int .i64 n) (fun n => -9223372036854775808 ≤ n ∧ n < 9223372036854775808) :=
  (rd_int Tryz.underlying2).map id (fun _ _ => rfl) (fun x hx => by have h1 : IntKind.i64.min = -9223372036854775808 := rfl; have h2 : IntKind.i64.max = 9223372036854775807 := rfl; rw [h1, h2] at hx; exact ⟨hx.1, by simp only [id]; omega⟩)
theorem rd_bytes : Rd enc Tryz.prog W 33 1 (fun xs => V.isl true 1 encB xs) (fun xs => (∀ x ∈ xs, True) ∧ xs.length ≤ 9223372036854775807) := rd_slice Tryz.underlying33 (by kernel_rfl) (by decide) (rd_byte Tryz.underlying5)
theorem rd_vec : Rd enc Tryz.prog W 29 1 (fun xs => V.isl true 1 encI32 xs) (fun xs => (∀ x ∈ xs, -2147483648 ≤ x ∧ x < 2147483648) ∧ xs.length ≤ 9223372036854775807) := rd_slice Tryz.underlying29 (by kernel_rfl) (by decide) rd_i32
theorem rd_texts : Rd enc Tryz.prog W 30 1 (fun xs => V.isl true 1 encStr xs) TextsRaw := rd_slice Tryz.underlying30 (by kernel_rfl) (by decide) rd_strz

theorem rd_item : Rd enc Tryz.prog W 64 3 encItem Item.Raw :=
  (RdF.struct Tryz.underlying64 rfl (RdF.cons (by kernel_rfl) rd_u32 (RdF.cons (by kernel_rfl) rd_vec (RdF.cons (by kernel_rfl) rd_texts RdF.nil)))).map
    (fun x => (⟨x.1, x.2.1, x.2.2.1⟩ : Item)) (fun x _ => rfl) (fun x h => ⟨h.1, h.2.1.1, h.2.1.2, h.2.2.1⟩)

theorem rd_chg : Rd enc Tryz.prog W 99 4 encChg (fun c => c.item.Raw) :=
  (RdF.struct Tryz.underlying99 rfl (RdF.cons (by kernel_rfl) (rd_bool Tryz.underlying4) (RdF.cons (by kernel_rfl) rd_item RdF.nil))).map
    (fun x => (⟨x.1, x.2.1⟩ : Chg)) (fun x _ => rfl) (fun x h => h.2.1)

theorem rd_hit : Rd enc Tryz.prog W 138 2 encHit Hit.Ok :=
  (RdF.struct Tryz.underlying138 rfl (RdF.cons (by kernel_rfl) rd_i64 (RdF.cons (by kernel_rfl) rd_u32 RdF.nil))).map
    (fun x => (⟨x.1, x.2.1⟩ : Hit)) (fun x _ => rfl) (fun x h => ⟨h.1.1, h.1.2, h.2.1⟩)

theorem rd_conf : Rd enc Tryz.prog W 27 6 (fun c : Conf => .agg [.str c.name, .int .u8 c.dim, .int .u8 c.metric, .bool c.graph, .int .u8 c.links, .int .u16 c.width]) (fun c => c.name.length ≤ 9223372036854775807 ∧ c.dim < 256 ∧ c.metric < 256 ∧ c.links < 256 ∧ c.width < 65536) :=
  (RdF.struct Tryz.underlying27 rfl (RdF.cons (by kernel_rfl) rd_strz (RdF.cons (by kernel_rfl) rd_u8 (RdF.cons (by kernel_rfl) rd_metric (RdF.cons (by kernel_rfl) (rd_bool Tryz.underlying4) (RdF.cons (by kernel_rfl) rd_u8 (RdF.cons (by kernel_rfl) rd_u16 RdF.nil))))))).map
    (fun x => (⟨x.1, x.2.1, x.2.2.1, x.2.2.2.1, x.2.2.2.2.1, x.2.2.2.2.2.1⟩ : Conf)) (fun x _ => rfl) (fun x h => ⟨h.1, h.2.1, h.2.2.1, h.2.2.2.2.1, h.2.2.2.2.2.1⟩)

theorem rd_filter : Rd enc Tryz.prog W 32 3 (fun x : List (List UInt8) × List (List UInt8) × List (List UInt8) => .agg [.isl true 1 encStr x.1, .isl true 1 encStr x.2.1, .isl true 1 encStr x.2.2]) (fun x => TextsRaw x.1 ∧ TextsRaw x.2.1 ∧ TextsRaw x.2.2) :=
  (RdF.struct Tryz.underlying32 rfl (RdF.cons (by kernel_rfl) rd_texts (RdF.cons (by kernel_rfl) rd_texts (RdF.cons (by kernel_rfl) rd_texts RdF.nil)))).map
    (fun x => (x.1, x.2.1, x.2.2.1)) (fun x _ => rfl) (fun x h => ⟨h.1, h.2.1, h.2.2.1⟩)

theorem rd_chgs : Rd enc Tryz.prog W 28 1 (fun xs => V.isl true 4 encChg xs) (fun xs => (∀ x ∈ xs, x.item.Raw) ∧ xs.length ≤ 9223372036854775807) := rd_slice Tryz.underlying28 (by kernel_rfl) (by decide) rd_chg
theorem rd_items : Rd enc Tryz.prog W 34 1 (fun xs => V.isl true 3 encItem xs) (fun xs => (∀ x ∈ xs, x.Raw) ∧ xs.length ≤ 9223372036854775807) := rd_slice Tryz.underlying34 (by kernel_rfl) (by decide) rd_item
theorem rd_hits : Rd enc Tryz.prog W 35 1 (fun xs => V.isl true 2 encHit xs) (fun xs => (∀ x ∈ xs, x.Ok) ∧ xs.length ≤ 9223372036854775807) := rd_slice Tryz.underlying35 (by kernel_rfl) (by decide) rd_hit

theorem rd_msg : Rd enc Tryz.prog W 37 28 (fun m : Msg => .agg m.cells) Msg.Raw :=
  (RdF.struct Tryz.underlying37 rfl (RdF.cons (by kernel_rfl) rd_u8 (RdF.cons (by kernel_rfl) rd_u32 (RdF.cons (by kernel_rfl) rd_u32 (RdF.cons (by kernel_rfl) rd_u64 (RdF.cons (by kernel_rfl) rd_u8 (RdF.cons (by kernel_rfl) rd_u32 (RdF.cons (by kernel_rfl) rd_strz (RdF.cons (by kernel_rfl) rd_conf (RdF.cons (by kernel_rfl) rd_chgs (RdF.cons (by kernel_rfl) rd_u32 (RdF.cons (by kernel_rfl) rd_vec (RdF.cons (by kernel_rfl) rd_u16 (RdF.cons (by kernel_rfl) rd_u16 (RdF.cons (by kernel_rfl) rd_filter (RdF.cons (by kernel_rfl) rd_u32 (RdF.cons (by kernel_rfl) rd_u32 (RdF.cons (by kernel_rfl) rd_bytes (RdF.cons (by kernel_rfl) rd_u64 (RdF.cons (by kernel_rfl) rd_texts (RdF.cons (by kernel_rfl) rd_items (RdF.cons (by kernel_rfl) rd_hits (RdF.nil))))))))))))))))))))))).map
    (fun x => (⟨x.1, x.2.1, x.2.2.1, x.2.2.2.1, x.2.2.2.2.1, x.2.2.2.2.2.1, x.2.2.2.2.2.2.1, x.2.2.2.2.2.2.2.1, x.2.2.2.2.2.2.2.2.1, x.2.2.2.2.2.2.2.2.2.1, x.2.2.2.2.2.2.2.2.2.2.1, x.2.2.2.2.2.2.2.2.2.2.2.1, x.2.2.2.2.2.2.2.2.2.2.2.2.1, x.2.2.2.2.2.2.2.2.2.2.2.2.2.1.1, x.2.2.2.2.2.2.2.2.2.2.2.2.2.1.2.1, x.2.2.2.2.2.2.2.2.2.2.2.2.2.1.2.2, x.2.2.2.2.2.2.2.2.2.2.2.2.2.2.1, x.2.2.2.2.2.2.2.2.2.2.2.2.2.2.2.1, x.2.2.2.2.2.2.2.2.2.2.2.2.2.2.2.2.1, x.2.2.2.2.2.2.2.2.2.2.2.2.2.2.2.2.2.1, x.2.2.2.2.2.2.2.2.2.2.2.2.2.2.2.2.2.2.1, x.2.2.2.2.2.2.2.2.2.2.2.2.2.2.2.2.2.2.2.1, x.2.2.2.2.2.2.2.2.2.2.2.2.2.2.2.2.2.2.2.2.1⟩ : Msg)) (fun x _ => rfl) (fun x h =>
    { kind := h.1, req := h.2.1, caps := h.2.2.1, token := h.2.2.2.1, code := h.2.2.2.2.1, n := h.2.2.2.2.2.1, name := h.2.2.2.2.2.2.1, cname := h.2.2.2.2.2.2.2.1.1, dim := h.2.2.2.2.2.2.2.1.2.1, metric := h.2.2.2.2.2.2.2.1.2.2.1, links := h.2.2.2.2.2.2.2.1.2.2.2.1, cwidth := h.2.2.2.2.2.2.2.1.2.2.2.2,
      changes := h.2.2.2.2.2.2.2.2.1, id := h.2.2.2.2.2.2.2.2.2.1, vec := h.2.2.2.2.2.2.2.2.2.2.1, k := h.2.2.2.2.2.2.2.2.2.2.2.1, width := h.2.2.2.2.2.2.2.2.2.2.2.2.1, fall := h.2.2.2.2.2.2.2.2.2.2.2.2.2.1.1, fany := h.2.2.2.2.2.2.2.2.2.2.2.2.2.1.2.1, fnone := h.2.2.2.2.2.2.2.2.2.2.2.2.2.1.2.2, num := h.2.2.2.2.2.2.2.2.2.2.2.2.2.2.1, page := h.2.2.2.2.2.2.2.2.2.2.2.2.2.2.2.1, bytes := h.2.2.2.2.2.2.2.2.2.2.2.2.2.2.2.2.1.2, version := h.2.2.2.2.2.2.2.2.2.2.2.2.2.2.2.2.2.1, names := h.2.2.2.2.2.2.2.2.2.2.2.2.2.2.2.2.2.2.1, items := h.2.2.2.2.2.2.2.2.2.2.2.2.2.2.2.2.2.2.2.1, hits := h.2.2.2.2.2.2.2.2.2.2.2.2.2.2.2.2.2.2.2.2.1 })

end
end Go.Sx
end

section
open Go.Proofs
namespace Go.Sx
set_option linter.unusedVariables false

theorem z_disable (w : World) : (callFunc 123 #[]).run Tryz.prog w = .ok (.value (.tuple #[])) w := run_call_mark0 Tryz.func123 (by kernel_rfl) (by kernel_rfl) (by kernel_rfl) .disable (by kernel_rfl) w
theorem z_enable (w : World) : (callFunc 125 #[]).run Tryz.prog w = .ok (.value (.tuple #[])) w := run_call_mark0 Tryz.func125 (by kernel_rfl) (by kernel_rfl) (by kernel_rfl) .enable (by kernel_rfl) w
theorem z_acquire (a : Addr) (w : World) : (callFunc 126 #[.pointer (some a)]).run Tryz.prog w = .ok (.value (.tuple #[])) w := run_call_marked Tryz.func126 (by kernel_rfl) (by kernel_rfl) (by kernel_rfl) .acquire (by kernel_rfl) a w
theorem z_releaseMerge (a : Addr) (w : World) : (callFunc 128 #[.pointer (some a)]).run Tryz.prog w = .ok (.value (.tuple #[])) w := run_call_marked Tryz.func128 (by kernel_rfl) (by kernel_rfl) (by kernel_rfl) .releaseMerge (by kernel_rfl) a w

set_option maxRecDepth 100000 in
theorem z_lock (a : Addr) (w : World) (hc : w.cell? a = some (.int .i32 0)) (hz : w.frozen? a = false) :
    Calls Tryz.prog 121 #[.pointer (some a)] w fun e w' => e = .returned (.tuple #[]) ∧ w' = w.setCell a (.int .i32 1) := by
  have hd := z_disable
  have he := z_enable
  have ha := z_acquire
  have hcas := run_call_cas_hit (P := Tryz.prog) Tryz.func124 (by kernel_rfl) (by kernel_rfl) (by kernel_rfl) .i32 (by kernel_rfl) (y := 1) hc hz
  have hc' : (w.setCell a (.int .i32 1)).cell? a = some (.int .i32 1) := World.cell?_setCell_same w a _ hc
  have hcv := run_convert_to_unsafe (P := Tryz.prog) (src := 185) (dst := 189) Tryz.underlying185 Tryz.underlying189 (by kernel_rfl) hc'
  go_enter Tryz.func121, Tryz.ntmps121
  go_wp2
  first | go_end0 | (simp only [Exit.inBlock, Exit.then]; refine bodyPost_ret (results_none rfl _ _ _) rfl ?_) | refine bodyPost_ret (results_none rfl _ _ _) rfl ?_
  exact ⟨rfl, rfl⟩

theorem z_Lock (a : Addr) (w : World) (hs : a.spot = none) (hc : w.cell? a = some (.int .i32 0)) (hz : w.frozen? a = false) :
    Calls Tryz.prog 116 #[.pointer (some a)] w fun e w' => e = .returned (.tuple #[]) ∧ w' = w.setCell a (.int .i32 1) := by
  obtain ⟨b, o, sp⟩ := a
  simp only at hs
  subst hs
  go_enter Tryz.func116, Tryz.ntmps116
  go_wp2_with (go_at_call 121; refine (z_lock ⟨b, o, none⟩ _ (by go_simp) (by go_simp)).mono ?_; rintro e w' ⟨rfl, rfl⟩)
  go_end0
  exact ⟨rfl, rfl⟩

set_option maxRecDepth 100000 in
theorem z_unlock (a : Addr) (w : World) (hc : w.cell? a = some (.int .i32 1)) (hz : w.frozen? a = false) :
    Calls Tryz.prog 122 #[.pointer (some a)] w fun e w' => e = .returned (.tuple #[]) ∧ w' = w.setCell a (.int .i32 0) := by
  have hd := z_disable
  have he := z_enable
  have hr := z_releaseMerge
  have hadd := run_call_add (P := Tryz.prog) Tryz.func129 (by kernel_rfl) (by kernel_rfl) (by kernel_rfl) .i32 (by kernel_rfl) (y := -1) (s := 0) hc hz (by simp [go_sem]; rfl)
  have hcv := run_convert_to_unsafe (P := Tryz.prog) (src := 185) (dst := 189) Tryz.underlying185 Tryz.underlying189 (by kernel_rfl) hc
  go_enter Tryz.func122, Tryz.ntmps122
  go_wp2
  go_end0
  exact ⟨rfl, rfl⟩

set_option maxRecDepth 100000 in
theorem z_unlockD (a : Addr) (u : FrameMode) (w : World) (hs : a.spot = none) (hc : w.cell? a = some (.int .i32 1)) (hz : w.frozen? a = false) :
    CallsD Tryz.prog 117 #[.pointer (some a)] u w fun e u' w' => u' = u ∧ (e = .returned (.tuple #[]) ∧ w' = w.setCell a (.int .i32 0)) := by
  obtain ⟨b, o, sp⟩ := a
  simp only at hs
  subst hs
  go_enter_d Tryz.func117, Tryz.ntmps117
  go_wp2_with (go_at_call 122; refine (z_unlock ⟨b, o, none⟩ _ (by go_simp) (by go_simp)).mono ?_; rintro e w' ⟨rfl, rfl⟩)
  go_end0
  exact ⟨rfl, rfl⟩

set_option maxRecDepth 100000 in
theorem z_storeD (a : Addr) (x : Value) (u : FrameMode) (w : World) (hs : a.spot = none) (hc : w.cell? a = some x) (hz : w.frozen? a = false) :
    CallsD Tryz.prog 106 #[.pointer (some a), .bool true] u w fun e u' w' => u' = u ∧ (e = .returned (.tuple #[]) ∧ w' = w.drew.setCell a (.int .u32 1)) := by
  obtain ⟨b, o, sp⟩ := a
  simp only at hs
  subst hs
  have hc' : w.drew.cell? ⟨b, o, none⟩ = some x := by go_simp
  have hz' : w.drew.frozen? ⟨b, o, none⟩ = false := by go_simp
  have hst := run_call_store (P := Tryz.prog) Tryz.func118 (by kernel_rfl) (by kernel_rfl) (by kernel_rfl) (by kernel_rfl) (k := .u32) (y := 1) hc' hz'
  go_enter_d Tryz.func106, Tryz.ntmps106
  go_wp2
  go_region_calls
  all_goals (go_end0; exact ⟨rfl, rfl⟩)

end Go.Sx
end

section
open Go.Proofs
namespace Go.Sx
set_option linter.unusedVariables false

def encU32 (n : Nat) : V := .int .u32 n

/-- a Summer: done, the lock's state, whether it is made, its table -/
abbrev smO (d s m : Nat) (xs : List Nat) : Ob := .arr 121 [.int .u32 (d : Int), .int .i32 (s : Int), .int .u32 ((0 : Nat) : Int), .int .u32 (m : Int)] encU32 xs
abbrev smH (d s m : Nat) (xs : List Nat) : Hp := [(0, smO d s m xs)]

theorem VR.int_of {h : Array Obj} {C : Cx} {B : Nat} {k : IntKind} {n : Int} {v : Value} (e : VR h C B (.int k n) v) : v = .int k n := by
  cases e with
  | imm _ _ e => cases e; rfl

section
variable {C : Cx} {S : Nat → Prop} {w : World} {ty : TypeId} {pre : List V} {α : Type} {enc : α → V} {xs : List α} {nx : Nat}

theorem pre_get (hs : HSat [(0, .arr ty pre enc xs)] nx C S w) {o : Nat} {x : V} (ho : pre[o]? = some x) :
    ∃ b v, (C.N 0).blk = some b ∧ w.cell? ⟨b, o, none⟩ = some v ∧ w.frozen? ⟨b, o, none⟩ = false ∧ VR w.heap C nx x v := by
  obtain ⟨S1, ⟨b, arr, hb, hh, hasz, hl, hxs, hSb⟩, _, _⟩ := hs.hr.get (n := 0) (o := .arr ty pre enc xs) rfl
  have hlt := (List.getElem?_eq_some_iff.1 ho).1
  have hla : o < arr.size := by omega
  refine ⟨b, arr[o], hb, ?_, ?_, hl o x _ ho (Array.getElem?_eq_getElem hla)⟩
  · simp [World.cell?, hh, hla]
  · simp [World.frozen?, hh]

theorem setCell_putB {w : World} {b o : Nat} {v : Value} {arr : Array Value} {ty : TypeId} {fz : Nat × Nat} (hh : w.heap[b]? = some (.cells arr ty fz)) : w.setCell ⟨b, o, none⟩ v = putB w b (.cells (arr.setIfInBounds o v) ty fz) := by
  unfold World.setCell putB
  congr 1
  have hlt : b < w.heap.size := (Array.getElem?_eq_some_iff.1 hh).1
  apply Array.ext_getElem?
  intro i
  rw [Array.getElem?_modify]
  by_cases hi : b = i
  · subst hi
    rw [if_pos rfl, hh, Array.getElem?_setIfInBounds_self_of_lt hlt]
    simp
  · rw [if_neg hi, Array.getElem?_setIfInBounds_ne hi]

theorem pre_set (hs : HSat [(0, .arr ty pre enc xs)] nx C S w) {b : Nat} (hb : (C.N 0).blk = some b) {o : Nat} (ho : o < pre.length) {k : IntKind} {y : Int} :
    HSat [(0, .arr ty (pre.set o (.int k y)) enc xs)] nx C S (w.setCell ⟨b, o, none⟩ (.int k y)) ∧ Ext nx C C S S w (w.setCell ⟨b, o, none⟩ (.int k y)) := by
  obtain ⟨S1, ⟨b', arr, hb', hh, hasz, hl, hxs, hSb⟩, _, _⟩ := hs.hr.get (n := 0) (o := .arr ty pre enc xs) rfl
  rw [hb] at hb'
  cases hb'
  have hSu : ∀ S2, OR w.heap C nx 0 S2 (.arr ty pre enc xs) → ∀ k, S2 k ↔ k = b := fun S2 ho2 k => by
    obtain ⟨b2, _, hb2, _, _, _, _, hS2⟩ := ho2
    rw [hb] at hb2; cases hb2; exact hS2 k
  have hJne : ∀ p k, C.J p k → b ≠ k := fun p k hj e => (hs.jlt p k hj).2 (by
    obtain ⟨S3, ⟨b3, _, hb3, _, _, _, _, hS3⟩, _, hsub⟩ := hs.hr.get (n := 0) (o := .arr ty pre enc xs) rfl
    rw [hb] at hb3; cases hb3
    exact e ▸ hsub b ((hS3 b).2 rfl))
  rw [setCell_putB hh]
  refine put_sat (hp := [(0, .arr ty pre enc xs)]) hs (n := 0) rfl hb (.cells (arr.setIfInBounds o (.int k y)) ty (0, 0)) (o' := .arr ty (pre.set o (.int k y)) enc xs) hSu ⟨b, _, hb, putB_at (lt_of_at hh), by simpa using hasz, ?_, ?_, fun _ => Iff.rfl⟩
  · intro i x v hx hv
    by_cases hi : o = i
    · subst hi
      rw [List.getElem?_set_self ho] at hx
      rw [Array.getElem?_setIfInBounds_self_of_lt (by omega)] at hv
      cases hx; cases hv
      exact .imm _ _ (.int _ _)
    · rw [List.getElem?_set_ne hi] at hx
      rw [Array.getElem?_setIfInBounds_ne hi] at hv
      exact VR.mono (C' := C) (B' := nx) (hl i x v hx hv) (fun p k hj => ⟨hj, putB_ne (hJne p k hj)⟩) (fun _ _ => rfl) (Nat.le_refl _)
  · intro i x hx
    obtain ⟨v, h1, h2, h3⟩ := hxs i x hx
    refine ⟨v, ?_, h2, h3.mono (fun p k hj => ⟨hj, putB_ne (hJne p k hj)⟩)⟩
    rw [List.length_set, Array.getElem?_setIfInBounds_ne (by omega)]
    exact h1

theorem ptr_at {hp : Hp} (hs : HSat hp nx C S w) {o b : Nat} (hb : (C.N 0).blk = some b) {v : Value} (e : VR w.heap C nx (.ptr 0 o) v) : v = .pointer (some ⟨b, o, none⟩) := by
  obtain ⟨b', _, h1, rfl⟩ := e.ptr_inv
  rw [hb] at h1; cases h1; rfl

end

theorem args1 {h : Array Obj} {C : Cx} {B : Nat} {x : V} {cargs : Array Value} (hv : LR h C B [x] cargs) : ∃ v, cargs = #[v] ∧ VR h C B x v := by
  obtain ⟨l⟩ := cargs
  match l, hv with
  | [v], hv => exact ⟨v, rfl, hv.2 0 x v rfl rfl⟩
  | [], hv => exact absurd hv.1 (by simp)
  | _ :: _ :: _, hv => exact absurd hv.1 (by simp)

theorem args2 {h : Array Obj} {C : Cx} {B : Nat} {x y : V} {cargs : Array Value} (hv : LR h C B [x, y] cargs) : ∃ v u, cargs = #[v, u] ∧ VR h C B x v ∧ VR h C B y u := by
  obtain ⟨l⟩ := cargs
  match l, hv with
  | [v, u], hv => exact ⟨v, u, rfl, hv.2 0 x v rfl rfl, hv.2 1 y u rfl rfl⟩
  | [], hv => exact absurd hv.1 (by simp)
  | [_], hv => exact absurd hv.1 (by simp)
  | _ :: _ :: _ :: _, hv => exact absurd hv.1 (by simp)

theorem callSem_value {P : Program} {f : FuncId} {cargs : Array Value} {w w' : World} {v : Value} {R : Value → World → Prop} (h : (callFunc f cargs).run P w = .ok (.value v) w') (hr : R v w') : CallSem P f cargs w R := by
  unfold CallSem
  rw [h]
  exact hr

theorem callSem_enter {P : Program} {f : FuncId} {cargs : Array Value} {w : World} {R : Value → World → Prop} (h : (callFunc f cargs).run P w = .ok (.enter f cargs) w) (hr : Calls P f cargs w fun e w' => ∃ v, e = .returned v ∧ R v w') : CallSem P f cargs w R := by
  unfold CallSem
  rw [h]
  exact hr

theorem calls_of_sem {P : Program} {f : FuncId} {cargs : Array Value} {w : World} {R : Value → World → Prop} (h : (callFunc f cargs).run P w = .ok (.enter f cargs) w) (hr : CallSem P f cargs w R) : Calls P f cargs w fun e w' => ∃ v, e = .returned v ∧ R v w' := by
  unfold CallSem at hr
  rw [h] at hr
  exact hr

set_option maxRecDepth 100000 in
theorem ld_ob {α : Type} {enc : α → V} (ty : TypeId) (pre : List V) (xs : List α) (o : Nat) (x : Int) (ho : pre[o]? = some (.int .u32 x)) (K : Post) (hK : K (.int .u32 x) [(0, .arr ty pre enc xs)] 1) :
    CallOb Tryz.prog 115 [.ptr 0 o] [(0, .arr ty pre enc xs)] 1 K := by
  constructor
  intro C S w cargs hs hv
  obtain ⟨v, ec, h1⟩ := args1 hv
  subst ec
  obtain ⟨b, u, hb, hc, hz, hu⟩ := pre_get hs ho
  cases ptr_at hs hb h1
  cases hu.int_of
  have hr := run_call_load (P := Tryz.prog) Tryz.func115 (by kernel_rfl) (by kernel_rfl) (by kernel_rfl) .u32 (by kernel_rfl) hc
  refine callSem_value hr ?_
  exact ⟨_, _, _, C, S, hK, hs, .imm _ _ (.int _ _), Ext.refl _ _ _ _, Nat.le_refl _⟩

set_option maxRecDepth 100000 in
theorem st_ob {α : Type} {enc : α → V} (ty : TypeId) (pre : List V) (xs : List α) (o : Nat) (x : V) (y : Int) (ho : pre[o]? = some x) (K : Post) (hK : K (.tup []) [(0, .arr ty (pre.set o (.int .u32 y)) enc xs)] 1) :
    CallOb Tryz.prog 118 [.ptr 0 o, .int .u32 y] [(0, .arr ty pre enc xs)] 1 K := by
  constructor
  intro C S w cargs hs hv
  obtain ⟨v, u', ec, h1, h2⟩ := args2 hv
  subst ec
  obtain ⟨b, u, hb, hc, hz, hu⟩ := pre_get hs ho
  cases ptr_at hs hb h1
  cases h2.int_of
  have hr := run_call_store (P := Tryz.prog) Tryz.func118 (by kernel_rfl) (by kernel_rfl) (by kernel_rfl) (by kernel_rfl) (k := .u32) (y := y) hc hz
  refine callSem_value hr ?_
  obtain ⟨g1, g2⟩ := pre_set hs hb (k := .u32) (y := y) (List.getElem?_eq_some_iff.1 ho).1
  exact ⟨_, _, _, C, S, hK, g1, .tup [] _ (by simp) (fun i x v h => by simp at h), g2, Nat.le_refl _⟩

theorem load_ob (d s m : Nat) (xs : List Nat) (K : Post) (hK : K (.bool (decide (¬ d = 0))) (smH d s m xs) 1) :
    CallOb Tryz.prog 104 [.ptr 0 0] (smH d s m xs) 1 K := by
  refine contract TryztabOk Tryz.checked.mixed Tryz.func104 rfl Tryz.call104 [0] [] [2] (res1 Tryz.results104) Tryz.ntmps104 rfl ?_
  conv => whnf
  refine call_rule [] ?_
  conv => whnf
  refine ld_ob _ _ xs _ (d : Int) rfl _ ?_
  conv => whnf
  refine ⟨_, _, _, ?_, leH_refl _, Nat.le_refl _, hK⟩
  show (_ : Bool) = _
  by_cases hd : d = 0
  · simp [hd]
  · simp [hd]

theorem b32_ob (b : Bool) (K : Post) (hK : K (.int .u32 (b.toNat : Int)) [] 0) : CallOb Tryz.prog 119 [.bool b] [] 0 K := by
  refine contract TryztabOk Tryz.checked.mixed Tryz.func119 rfl Tryz.call119 [] [] [2] (res1 Tryz.results119) Tryz.ntmps119 rfl ?_
  conv => whnf
  refine br_intro (fun h => ?_) (fun h => ?_)
  · subst h
    conv => whnf
    exact ⟨_, _, _, leT_refl _, leH_refl _, Nat.le_refl _, hK⟩
  · subst h
    conv => whnf
    exact ⟨_, _, _, leT_refl _, leH_refl _, Nat.le_refl _, hK⟩

theorem made_ob (d s m : Nat) (xs : List Nat) (K : Post) (hK : K (.tup []) (smH d s 1 xs) 1) : CallOb Tryz.prog 106 [.ptr 0 3, .bool true] (smH d s m xs) 1 K := by
  refine contract TryztabOk Tryz.checked.mixed Tryz.func106 rfl Tryz.call106 [0] [] [] (res0 Tryz.results106) Tryz.ntmps106 rfl ?_
  conv => whnf
  repeat' first
    | exact ⟨_, _, _, leT_refl _, leH_refl _, Nat.le_refl _, hK⟩
    | (refine ⟨?_, trivial⟩; conv => whnf)
    | (refine ⟨?_, ?_, trivial⟩ <;> conv => whnf)
    | (refine ⟨?_, ?_, ?_, trivial⟩ <;> conv => whnf)
    | (refine call_rule [] ?_; conv => whnf
       refine b32_ob true _ ?_; conv => whnf)
    | (refine call_rule [] ?_; conv => whnf
       refine st_ob _ _ xs _ (.int .u32 (m : Int)) _ rfl _ ?_; conv => whnf)

end Go.Sx
end

section
open Go.Proofs
namespace Go.Sx
set_option linter.unusedVariables false

def crcStep (c : Nat) : Nat := if c % 2 = 1 then (c / 2) ^^^ 3988292384 else c / 2
def crcIt : Nat → Nat → Nat
  | 0, c => c
  | k + 1, c => crcStep (crcIt k c)
def crcTab : List Nat := (List.range 256).map (crcIt 8)

theorem crcStep_lt {c : Nat} (h : c < 2 ^ 32) : crcStep c < 2 ^ 32 := by
  unfold crcStep
  split
  · exact Nat.xor_lt_two_pow (by omega) (by decide)
  · omega

theorem crcIt_lt {c : Nat} (h : c < 2 ^ 32) : ∀ k, crcIt k c < 2 ^ 32
  | 0 => h
  | k + 1 => crcStep_lt (crcIt_lt h k)

def tabAt (xs : List Nat) (i : Nat) : List Nat := crcTab.take i ++ xs.drop i

theorem crcTab_len : crcTab.length = 256 := by simp [crcTab]
theorem crcTab_at {i : Nat} (h : i < 256) : crcTab[i]? = some (crcIt 8 i) := by simp [crcTab, h]

theorem tabAt_len (xs : List Nat) (i : Nat) (hx : xs.length = 256) (hi : i ≤ 256) : (tabAt xs i).length = 256 := by
  simp [tabAt, crcTab_len]; omega

theorem tabAt_set (xs : List Nat) (i : Nat) (hx : xs.length = 256) (hi : i < 256) : (tabAt xs i).set i (crcIt 8 i) = tabAt xs (i + 1) := by
  have h1 : (crcTab.take i).length = i := by simp [crcTab_len]; omega
  have h2 : xs.drop i = xs[i]'(by omega) :: xs.drop (i + 1) := List.drop_eq_getElem_cons (by omega)
  unfold tabAt
  rw [List.set_append_right _ _ (by omega), h1, Nat.sub_self, h2, List.set_cons_zero, List.take_add_one, crcTab_at hi]
  simp

theorem tabAt_0 (xs : List Nat) : tabAt xs 0 = xs := by simp [tabAt]
theorem tabAt_256 (xs : List Nat) (hx : xs.length = 256) : tabAt xs 256 = crcTab := by
  unfold tabAt
  rw [List.take_of_length_le (by rw [crcTab_len]; omega), List.drop_of_length_le (by omega)]
  simp

set_option maxRecDepth 8000 in
theorem make_ob (d s m : Nat) (xs : List Nat) (hx : xs.length = 256) (K : Post) (hK : K (.tup []) (smH d s 1 crcTab) 1) : CallOb Tryz.prog 76 [.ptr 0 0] (smH d s m xs) 1 K := by
  refine contract TryztabOk Tryz.checked.mixed Tryz.func76 rfl Tryz.call76 [0] [] [] (res0 Tryz.results76) Tryz.ntmps76 rfl ?_
  conv => whnf
  refine loop_rule TryztabOk Tryz.checked.mixed [0, 4] [0] [] (T := { i : Nat // i ≤ 256 }) (fun x => [.ptr 0 0, .int .i64 (x.1 : Int)]) (fun x => smH d s m (tabAt xs x.1)) 1 (fun x => 256 - x.1) ⟨0, by omega⟩ rfl rfl ?_ ?_
  · conv => whnf
    refine ⟨leTs_refl _, ?_, Nat.le_refl _⟩
    rw [tabAt_0]
    exact leH_refl _
  · rintro ⟨i, hi⟩
    conv => whnf
    refine br_dec (fun hlt => ?_) (fun hlt => ?_)
    · have hlt : i < 256 := by simp only at hlt; omega
      have hi32 : i < 2 ^ 32 := by omega
      conv => whnf
      refine loop_rule TryztabOk Tryz.checked.mixed [0, 2, 3, 4, 9] [0] [] (T := { k : Nat // k ≤ 8 }) (fun x => [.ptr 0 0, .int .i64 (i : Int), .int .u32 (crcIt x.1 i : Nat), .int .i64 (i : Int), .int .i64 (x.1 : Int)]) (fun x => smH d s m (tabAt xs i)) 1 (fun x => 8 - x.1) ⟨0, by omega⟩ rfl rfl ?_ ?_
      · conv => whnf
        refine ⟨⟨leT_refl _, leT_refl _, ⟨rfl, wrapU32' hi32⟩, leT_refl _, leT_refl _, trivial⟩, leH_refl _, Nat.le_refl _⟩
      · rintro ⟨k, hk⟩
        have hc := crcIt_lt hi32 k
        conv => whnf
        refine br_dec (fun hlk => ?_) (fun hlk => ?_)
        · have hlk : k < 8 := by simp only at hlk; omega
          conv => whnf
          simp only
          have e1 : bitI BinOp.and IntKind.u32 (crcIt k i : Nat) 1 = ((crcIt k i % 2 : Nat) : Int) := by
            rw [show (1 : Int) = ((1 : Nat) : Int) from rfl, bitI_and .u32 rfl _ 1 hc (by decide), Nat.and_one_is_mod]
          have e2 : ((2 : Int) ^ min (Int.toNat 1) IntKind.u32.bits) = ((2 : Nat) : Int) := by decide
          rw [e1]
          refine br_dec (fun ho => ?_) (fun ho => ?_)
          · conv => whnf
            refine ⟨by decide, ?_⟩
            conv => whnf
            refine ⟨⟨k + 1, by omega⟩, ?_, ?_, leH_refl _, Nat.le_refl _⟩
            · show 8 - (k + 1) < 8 - k; omega
            · refine ⟨leT_refl _, leT_refl _, ?_, leT_refl _, ⟨rfl, wrapI64' (m := k + 1) (by omega)⟩, trivial⟩
              show _ ∧ _
              refine ⟨rfl, ?_⟩
              rw [e2, fdivNat, show (3988292384 : Int) = ((3988292384 : Nat) : Int) from rfl, bitI_xor .u32 rfl _ _ (Nat.lt_of_le_of_lt (Nat.div_le_self _ _) hc) (by decide)]
              simp only [crcIt, crcStep]
              rw [if_pos (by omega)]
          · conv => whnf
            refine ⟨by decide, ?_⟩
            conv => whnf
            refine ⟨⟨k + 1, by omega⟩, ?_, ?_, leH_refl _, Nat.le_refl _⟩
            · show 8 - (k + 1) < 8 - k; omega
            · refine ⟨leT_refl _, leT_refl _, ?_, leT_refl _, ⟨rfl, wrapI64' (m := k + 1) (by omega)⟩, trivial⟩
              show _ ∧ _
              refine ⟨rfl, ?_⟩
              rw [e2, fdivNat]
              simp only [crcIt, crcStep]
              rw [if_neg (by omega)]
        · have hk8 : k = 8 := by simp only at hlk; omega
          subst hk8
          conv => whnf
          refine ⟨⟨by simp, by simp; omega⟩, ?_⟩
          conv => whnf
          refine ⟨i, ?_, ?_, crcIt 8 i, rfl, ?_⟩
          · show (i : Int).toNat * 1 + (0 + 4) = 4 + i
            simp; omega
          · rw [tabAt_len xs i hx hi]; exact hlt
          conv => whnf
          refine ⟨⟨i + 1, by omega⟩, ?_, ⟨leT_refl _, ⟨rfl, wrapI64' (m := i + 1) (by omega)⟩, trivial⟩, ?_, Nat.le_refl _⟩
          · show 256 - (i + 1) < 256 - i; omega
          · rw [tabAt_set xs i hx hlt]; exact leH_refl _
    · have hi6 : i = 256 := by simp only at hlt; omega
      subst hi6
      conv => whnf
      refine call_rule [] ?_
      conv => whnf
      rw [tabAt_256 xs hx]
      refine made_ob d s m crcTab _ ?_
      conv => whnf
      exact ⟨_, _, _, leT_refl _, leH_refl _, Nat.le_refl _, hK⟩

end Go.Sx
end

section
open Go.Proofs
namespace Go.Sx
set_option linter.unusedVariables false

theorem ob_calls {P : Program} {f : FuncId} {args : List V} {hp : Hp} {nx : Nat} {K : Post} (h : CallOb P f args hp nx K) (hc : ∀ args w, (callFunc f args).run P w = .ok (.enter f args) w) {C : Cx} {S : Nat → Prop} {w : World} {cargs : Array Value} (hs : HSat hp nx C S w) (hv : LR w.heap C nx args cargs) :
    Calls P f cargs w fun e w' => ∃ v, e = .returned v ∧ ∃ x hp' nx' C' S', K x hp' nx' ∧ HSat hp' nx' C' S' w' ∧ VR w'.heap C' nx' x v ∧ Ext nx C C' S S' w w' ∧ nx ≤ nx' :=
  calls_of_sem (hc _ _) (h.out C S w cargs hs hv)

theorem LR.one {h : Array Obj} {C : Cx} {B : Nat} {x : V} {v : Value} (e : VR h C B x v) : LR h C B [x] #[v] := by
  refine ⟨rfl, fun i y u hy hu => ?_⟩
  cases i with
  | zero => simp at hy hu; subst hy; subst hu; exact e
  | succ i => simp at hy

theorem pre_cell {ty : TypeId} {pre : List V} {α : Type} {enc : α → V} {xs : List α} {nx : Nat} {C : Cx} {S : Nat → Prop} {w : World} (hs : HSat [(0, .arr ty pre enc xs)] nx C S w) {b : Nat} (hb : (C.N 0).blk = some b) {o : Nat} {k : IntKind} {n : Int} (ho : pre[o]? = some (.int k n)) :
    w.cell? ⟨b, o, none⟩ = some (.int k n) ∧ w.frozen? ⟨b, o, none⟩ = false := by
  obtain ⟨b', u, hb', hc, hz, hu⟩ := pre_get hs ho
  rw [hb] at hb'; cases hb'
  cases hu.int_of
  exact ⟨hc, hz⟩

theorem HSat.drew {hp : Hp} {nx : Nat} {C : Cx} {S : Nat → Prop} {w : World} (hs : HSat hp nx C S w) : HSat hp nx C S w.drew := ⟨hs.hr, hs.lt, hs.jlt, hs.jj⟩

theorem Ext.drew (ar : Nat) (C : Cx) (S : Nat → Prop) (w : World) : Ext ar C C S S w w.drew :=
  ⟨Nat.le_refl _, fun _ _ _ => rfl, fun _ h => .inl h, fun _ _ h => h, fun _ _ h => .inl h, fun _ _ => rfl, rfl, rfl, rfl⟩

set_option maxRecDepth 100000 in
theorem z_load0 (b o : Nat) (w : World) (hc : w.cell? ⟨b, o, none⟩ = some (.int .u32 0)) :
    Calls Tryz.prog 104 #[.pointer (some ⟨b, o, none⟩)] w fun e w' => e = .returned (.bool false) ∧ w' = w := by
  have hl := run_call_load (P := Tryz.prog) Tryz.func115 (by kernel_rfl) (by kernel_rfl) (by kernel_rfl) .u32 (by kernel_rfl) hc
  go_enter Tryz.func104, Tryz.ntmps104
  go_wp2
  all_goals go_ret
  all_goals exact ⟨rfl, rfl⟩

set_option maxRecDepth 100000 in
set_option maxHeartbeats 1600000 in
theorem slow_ob (m : Nat) (xs : List Nat) (hx : xs.length = 256) (K : Post) (hK : K (.tup []) (smH 1 0 1 crcTab) 1) : CallOb Tryz.prog 105 [.ptr 0 0, .func 76 [.ptr 0 0] []] (smH 0 0 m xs) 1 K := by
  constructor
  intro C S w cargs hs hv
  have hargs := args2 hv
  obtain ⟨v, u, ec, h1, h2⟩ := hargs
  subst ec
  obtain ⟨b, _, hb, _, _, _⟩ := pre_get hs (o := 0) rfl
  cases ptr_at hs hb h1
  obtain ⟨x, y, e, hx1, hy1⟩ := h2.func_inv
  subst e
  have hx1' := args1 hx1
  obtain ⟨v, ec, h3⟩ := hx1'
  subst ec
  cases ptr_at hs hb h3
  have hy0 : y = #[] := by
    have := hy1.1
    obtain ⟨l⟩ := y
    cases l with
    | nil => rfl
    | cons => simp at this
  subst hy0
  refine callSem_enter (Tryz.call105 _ _) ?_
  -- the lock
  obtain ⟨c1, f1⟩ := pre_cell hs hb (o := 1) rfl
  obtain ⟨s1, e1⟩ := pre_set hs hb (o := 1) (by simp) (k := .i32) (y := 1)
  obtain ⟨c2, f2⟩ := pre_cell s1 hb (o := 0) rfl
  generalize hw1 : w.setCell ⟨b, 1, none⟩ (.int .i32 1) = w1 at s1 e1 c2 f2
  have hl := run_call_load (P := Tryz.prog) Tryz.func115 (by kernel_rfl) (by kernel_rfl) (by kernel_rfl) .u32 (by kernel_rfl) c2
  have hmk := ob_calls (make_ob 0 1 m xs hx (fun v hp nx => v = .tup [] ∧ hp = smH 0 1 1 crcTab ∧ nx = 1) ⟨rfl, rfl, rfl⟩) Tryz.call76 s1 (LR.one (.ptr 0 0 b (by omega) hb))
  have hnot : ∀ (x : Bool) (w : World), (Op.unary .not (.bool x)).run Tryz.prog w = .ok (.bool (!x)) w := fun _ _ => rfl
  go_enter_defers Tryz.func105, Tryz.ntmps105
  go_wp2_with (go_at_call 116; refine (z_Lock ⟨b, 1, none⟩ _ rfl c1 f1).mono ?_; rintro e w' ⟨rfl, rfl⟩; rw [hw1])
  go_at_call 104
  refine (z_load0 b 0 _ c2).mono ?_
  rintro e w' ⟨rfl, rfl⟩
  go_wp2_with (go_at_call 76; refine hmk.mono ?_; rintro e w2 ⟨v, rfl, x2, hp2, nx2, C2, S2, ⟨rfl, rfl, rfl⟩, s2, v2, e2, _⟩)
  have hb2 : (C2.N 0).blk = some b := by rw [e2.names 0 (by omega)]; exact hb
  have hv2 : v = .tuple #[] := by
    obtain ⟨arr, rfl, hl⟩ := v2.tup_inv
    have := hl.1
    obtain ⟨l⟩ := arr
    cases l with
    | nil => rfl
    | cons => simp at this
  subst hv2
  have s2' := s2.drew
  obtain ⟨c3, f3⟩ := pre_cell s2 hb2 (o := 0) rfl
  obtain ⟨s3, e3⟩ := pre_set s2' hb2 (o := 0) (by simp) (k := .u32) (y := 1)
  obtain ⟨c4, f4⟩ := pre_cell s3 hb2 (o := 1) rfl
  obtain ⟨s4, e4⟩ := pre_set s3 hb2 (o := 1) (by simp) (k := .i32) (y := 0)
  refine leaves_cons (f := 106) (args := #[.pointer (some ⟨b, 0, none⟩), .bool true]) (by simp) (by simp [go_sem]) ?_
  refine (z_storeD ⟨b, 0, none⟩ (.int .u32 0) .returning _ rfl c3 f3).mono ?_
  rintro e u' w'' ⟨rfl, rfl, rfl⟩
  refine leaves_cons (f := 117) (args := #[.pointer (some ⟨b, 1, none⟩)]) (by simp [settle]) (by simp [go_sem]) ?_
  refine (z_unlockD ⟨b, 1, none⟩ _ _ rfl c4 f4).mono ?_
  rintro e u' w'' ⟨rfl, rfl, rfl⟩
  refine ⟨.tuple #[], ?_, .tuple #[], rfl, .tup [], smH 1 0 1 crcTab, 1, C2, S2, hK, s4, .tup [] _ (by simp) (fun i x v h => by simp at h), ((e1.trans e2).trans (Ext.drew _ _ _ _)).trans (e3.trans e4), Nat.le_refl _⟩
  simp [results, Tryz.results105]

end Go.Sx
end

section
open Go.Proofs
namespace Go.Sx
set_option linter.unusedVariables false

def zeros256 : List Nat := List.replicate 256 0
/-- a Summer, whose table is made, or isn't -/
abbrev smK (k : Bool) : Hp := smH k.toNat 0 k.toNat (if k then crcTab else zeros256)

set_option maxRecDepth 8000 in
theorem do_ob (k : Bool) (K : Post) (hK : K (.tup []) (smK true) 1) : CallOb Tryz.prog 75 [.ptr 0 0, .func 76 [.ptr 0 0] []] (smK k) 1 K := by
  refine contract TryztabOk Tryz.checked.mixed Tryz.func75 rfl Tryz.call75 [0] [] [] (res0 Tryz.results75) Tryz.ntmps75 rfl ?_
  cases k
  · conv => whnf
    refine call_rule [] ?_
    conv => whnf
    refine load_ob 0 0 0 zeros256 _ ?_
    conv => whnf
    refine call_rule [] ?_
    conv => whnf
    refine slow_ob 0 zeros256 (by simp [zeros256]) _ ?_
    conv => whnf
    exact ⟨_, _, _, leT_refl _, leH_refl _, Nat.le_refl _, hK⟩
  · conv => whnf
    refine call_rule [] ?_
    conv => whnf
    refine load_ob 1 0 1 crcTab _ ?_
    conv => whnf
    exact ⟨_, _, _, leT_refl _, leH_refl _, Nat.le_refl _, hK⟩

theorem xorOnes32 (a : Nat) (h : a < 2 ^ 32) : bitI .xor .u32 (if IntKind.u32.signed = true then -1 else IntKind.u32.max) (a : Int) = ((4294967295 - a : Nat) : Int) := by
  have e0 : (if IntKind.u32.signed = true then -1 else IntKind.u32.max : Int) = ((4294967295 : Nat) : Int) := by decide
  rw [e0, bitI_xor .u32 rfl _ _ (by decide) h]
  congr 1
  have e : (BitVec.allOnes 32 ^^^ BitVec.ofNat 32 a : BitVec 32) = ~~~(BitVec.ofNat 32 a) := by rw [BitVec.xor_comm]; exact BitVec.xor_allOnes
  have e2 := congrArg BitVec.toNat e
  rw [BitVec.toNat_xor, BitVec.toNat_not, BitVec.toNat_ofNat, Nat.mod_eq_of_lt (show a < 2 ^ 32 from h)] at e2
  exact e2

def crcUpd (c : Nat) (x : UInt8) : Nat := crcIt 8 ((c % 256) ^^^ x.toNat) ^^^ (c / 256)
def crcMore (c : Nat) (bs : List UInt8) : Nat := 4294967295 - bs.foldl crcUpd (4294967295 - c)

theorem crcUpd_lt {c : Nat} (h : c < 2 ^ 32) (x : UInt8) : crcUpd c x < 2 ^ 32 := by
  have hx : c % 256 ^^^ x.toNat < 2 ^ 8 := Nat.xor_lt_two_pow (by omega) (by have := x.toNat_lt; omega)
  exact Nat.xor_lt_two_pow (crcIt_lt (by omega) 8) (by omega)

theorem crcFold_lt : ∀ (bs : List UInt8) {c : Nat}, c < 2 ^ 32 → bs.foldl crcUpd c < 2 ^ 32
  | [], c, h => h
  | x :: l, c, h => crcFold_lt l (crcUpd_lt h x)

set_option maxRecDepth 8000 in
theorem more_ob (k p : Bool) (c : Nat) (hc : c < 2 ^ 32) (bs : List UInt8) (hl : bs.length ≤ 2 ^ 40) (K : Post) (hK : K (.int .u32 (crcMore c bs : Nat)) (smK true) 1) : CallOb Tryz.prog 52 [.ptr 0 0, .int .u32 (c : Int), .isl p 1 encB bs] (smK k) 1 K := by
  refine contract TryztabOk Tryz.checked.mixed Tryz.func52 rfl Tryz.call52 [0] [] [6] (res1 Tryz.results52) Tryz.ntmps52 rfl ?_
  conv => whnf
  refine call_rule [] ?_
  conv => whnf
  refine do_ob k _ ?_
  conv => whnf
  have hc2 : 4294967295 - c < 2 ^ 32 := by omega
  refine loop_rule TryztabOk Tryz.checked.mixed [0, 1, 17, 18, 19] [0] [] (T := { i : Nat // i ≤ bs.length }) (fun x => [.ptr 0 0, .int .u32 ((bs.take x.1).foldl crcUpd (4294967295 - c) : Nat), .isl p 1 encB bs, .int .i64 (bs.length : Int), .int .i64 (x.1 : Int)])
    (fun x => smK true) 1 (fun x => bs.length - x.1) ⟨0, by omega⟩ rfl rfl ?_ ?_
  · conv => whnf
    refine ⟨⟨leT_refl _, ⟨rfl, ?_⟩, leT_refl _, leT_refl _, leT_refl _, trivial⟩, leH_refl _, Nat.le_refl _⟩
    exact xorOnes32 c hc
  · rintro ⟨i, hi⟩
    have hf := crcFold_lt (bs.take i) hc2
    conv => whnf
    refine br_dec (fun hlt => ?_) (fun hlt => ?_)
    · have hlt : i < bs.length := by simp only at hlt; omega
      conv => whnf
      refine ⟨⟨by simp only; omega, by simp only; omega⟩, ?_⟩
      intro x hxi
      have hxi' : bs[i]? = some x := by simpa using hxi
      have hstep := foldl_take_succ crcUpd (4294967295 - c) hxi'
      generalize hgen : (bs.take i).foldl crcUpd (4294967295 - c) = y at hf hstep
      simp only [hgen]
      have hx2 := x.toNat_lt
      have e3 : bitI BinOp.xor IntKind.u8 (IntKind.u8.wrap (y : Int)) (x.toNat : Int) = ((y % 256 ^^^ x.toNat : Nat) : Int) := by
        rw [wrapU8, bitI_xor .u8 rfl (y % 256) x.toNat (by show y % 256 < 256; omega) (by show x.toNat < 256; omega)]
      have hlt8 : y % 256 ^^^ x.toNat < 256 := Nat.xor_lt_two_pow (n := 8) (Nat.mod_lt _ (by decide)) (by omega)
      conv => whnf
      rw [e3]
      refine ⟨⟨by omega, by omega⟩, ?_⟩
      conv => whnf
      refine ⟨y % 256 ^^^ x.toNat, ?_, ?_⟩
      · show (↑(y % 256 ^^^ x.toNat) : Int).toNat * 1 + (0 + 4) = 4 + _
        simp; omega
      · refine ⟨by rw [if_pos rfl, crcTab_len]; exact hlt8, ?_⟩
        intro z hz
        rw [if_pos rfl, crcTab_at hlt8] at hz
        cases hz
        conv => whnf
        refine ⟨by decide, ?_⟩
        conv => whnf
        have e4 : ((2 : Int) ^ min (Int.toNat 8) IntKind.u32.bits) = ((256 : Nat) : Int) := by decide
        refine ⟨⟨i + 1, by omega⟩, ?_, ⟨leT_refl _, ⟨rfl, ?_⟩, leT_refl _, leT_refl _, ⟨rfl, wrapI64' (m := i + 1) (by omega)⟩, trivial⟩, leH_refl _, Nat.le_refl _⟩
        · show bs.length - (i + 1) < bs.length - i; omega
        · rw [e4, fdivNat, bitI_xor .u32 rfl _ _ (crcIt_lt (by omega) 8) (Nat.lt_of_le_of_lt (Nat.div_le_self _ _) hf), hstep]
          rfl
    · have hi' : bs.take i = bs := List.take_of_length_le (by simp only at hlt; omega)
      conv => whnf
      refine ⟨_, _, _, ?_, leH_refl _, Nat.le_refl _, hK⟩
      refine ⟨rfl, ?_⟩
      rw [xorOnes32 _ hf, hi']
      rfl

theorem of_ob (k p : Bool) (bs : List UInt8) (hl : bs.length ≤ 2 ^ 40) (K : Post) (hK : K (.int .u32 (crcMore 0 bs : Nat)) (smK true) 1) : CallOb Tryz.prog 25 [.ptr 0 0, .isl p 1 encB bs] (smK k) 1 K := by
  refine contract TryztabOk Tryz.checked.mixed Tryz.func25 rfl Tryz.call25 [0] [] [4] (res1 Tryz.results25) Tryz.ntmps25 rfl ?_
  conv => whnf
  refine call_rule [] ?_
  conv => whnf
  refine more_ob k p 0 (by decide) bs hl _ ?_
  conv => whnf
  exact ⟨_, _, _, leT_refl _, leH_refl _, Nat.le_refl _, hK⟩

set_option maxRecDepth 20000 in
theorem crcNew_ob (K : Post) (hK : K (.ptr 0 0) (smK false) 1) : CallOb Tryz.prog 24 [] [] 0 K := by
  refine contract TryztabOk Tryz.checked.mixed Tryz.func24 rfl Tryz.call24 [] [.arr 0 4 encU32 zeros256] [0] (res1 Tryz.results24) Tryz.ntmps24 rfl ?_
  conv => whnf
  refine ⟨⟨?_, ?_, ?_⟩, ?_⟩
  · rfl
  · exact Nat.le_of_ble_eq_true rfl
  · intro x hx
    exact ⟨rfl, rfl⟩
  · conv => whnf
    exact ⟨_, _, _, leT_refl _, leH_refl _, Nat.le_refl _, hK⟩

end Go.Sx
end

section
namespace Go.Sx

theorem xor_mod2 (a b : Nat) : (a ^^^ b) % 2 = (a % 2 + b % 2) % 2 := by
  have h := Nat.testBit_xor a b 0
  simp only [Nat.testBit_zero] at h
  rcases Nat.mod_two_eq_zero_or_one a with ha | ha <;> rcases Nat.mod_two_eq_zero_or_one b with hb | hb <;> rcases Nat.mod_two_eq_zero_or_one (a ^^^ b) with hc | hc <;> simp [ha, hb, hc] at h ⊢

theorem xor_div2 (a b : Nat) : (a ^^^ b) / 2 = a / 2 ^^^ b / 2 := by
  apply Nat.eq_of_testBit_eq
  intro i
  simp [Nat.testBit_div_two]

theorem crcStep_xor (a b : Nat) : crcStep (a ^^^ b) = crcStep a ^^^ crcStep b := by
  unfold crcStep
  rw [xor_div2]
  have h := xor_mod2 a b
  rcases Nat.mod_two_eq_zero_or_one a with ha | ha <;> rcases Nat.mod_two_eq_zero_or_one b with hb | hb <;> simp [ha, hb, h]
  · apply Nat.eq_of_testBit_eq; intro i; simp only [Nat.testBit_xor]; cases (a / 2).testBit i <;> cases (b / 2).testBit i <;> cases Nat.testBit 3988292384 i <;> rfl
  · apply Nat.eq_of_testBit_eq; intro i; simp only [Nat.testBit_xor]; cases (a / 2).testBit i <;> cases (b / 2).testBit i <;> cases Nat.testBit 3988292384 i <;> rfl
  · apply Nat.eq_of_testBit_eq; intro i; simp only [Nat.testBit_xor]; cases (a / 2).testBit i <;> cases (b / 2).testBit i <;> cases Nat.testBit 3988292384 i <;> rfl

theorem crcIt_xor (a b : Nat) : ∀ k, crcIt k (a ^^^ b) = crcIt k a ^^^ crcIt k b
  | 0 => rfl
  | k + 1 => by simp only [crcIt, crcIt_xor a b k, crcStep_xor]

theorem crcIt_shift (h : Nat) : crcIt 8 (h * 256) = h := by
  simp only [crcIt]
  have s : ∀ n, crcStep (n * 2) = n := fun n => by
    unfold crcStep
    rw [if_neg (by omega)]
    omega
  rw [show h * 256 = ((((((((h * 2) * 2) * 2) * 2) * 2) * 2) * 2) * 2) by omega]
  simp only [s]

theorem split_byte (c : Nat) : c = (c % 256) ^^^ (c / 256 * 256) := by
  apply Nat.eq_of_testBit_eq
  intro i
  have e : c / 256 * 256 = (c >>> 8) <<< 8 := by rw [Nat.shiftLeft_eq, Nat.shiftRight_eq_div_pow]
  rw [Nat.testBit_xor, e, show (256 : Nat) = 2 ^ 8 from rfl, Nat.testBit_mod_two_pow, Nat.testBit_shiftLeft, Nat.testBit_shiftRight]
  by_cases h : i < 8
  · have : ¬ 8 ≤ i := by omega
    simp [h, this]
  · have h8 : 8 ≤ i := by omega
    have h9 : 8 + (i - 8) = i := by omega
    simp [h, h8, h9]

def bitUpd (c : Nat) (x : UInt8) : Nat := crcIt 8 (c ^^^ x.toNat)

theorem bitUpd_eq (c : Nat) (x : UInt8) : bitUpd c x = crcUpd c x := by
  unfold bitUpd crcUpd
  conv => lhs; rw [split_byte c]
  rw [Nat.xor_assoc, Nat.xor_comm (c / 256 * 256), ← Nat.xor_assoc, crcIt_xor, crcIt_shift]

end Go.Sx
end

section
open Go.Proofs
namespace Go.Sx
set_option linter.unusedVariables false

def be32 (s : Nat) : List UInt8 := [UInt8.ofNat (s / 16777216), UInt8.ofNat (s / 65536), UInt8.ofNat (s / 256), UInt8.ofNat s]
def frHead (k : Nat) (m : List UInt8) : List UInt8 := [76, 68, 1, UInt8.ofNat k] ++ vput m.length ++ m
def frBytes (k : Nat) (m : List UInt8) : List UInt8 := frHead k m ++ be32 (crcMore 0 (frHead k m))

theorem crcMore_lt (c : Nat) (bs : List UInt8) : crcMore c bs < 2 ^ 32 := by unfold crcMore; omega

theorem encB_u8 (n : Nat) : encB (UInt8.ofNat n) = .int .u8 ((n % 256 : Nat) : Int) := by
  simp [encB]

theorem build4 {te : Nat} {α : Type} {enc : α → V} {v0 v1 v2 v3 : V} (x0 x1 x2 x3 : α) (h1 : ∀ x, (enc x).cells.length = te) (h2 : ∀ x, V.known (enc x) = true) (h3 : ∀ x, V.isImm (enc x) = true) (e0 : v0 = enc x0) (e1 : v1 = enc x1) (e2 : v2 = enc x2) (e3 : v3 = enc x3) :
    ∀ (i : Nat) x, [x0, x1, x2, x3][i]? = some x → ([(0, v0), (1, v1), (2, v2), (3, v3)][i]?).map (·.1) = some i ∧ (enc x).cells.length = te ∧ V.known (enc x) = true ∧ V.isImm (enc x) = true ∧ leP ([(0, v0), (1, v1), (2, v2), (3, v3)][i]?) (enc x) := by
  subst e0; subst e1; subst e2; subst e3
  exact build_all [x0, x1, x2, x3] rfl h1 h2 h3

theorem shB (S d : Nat) (k : Int) (h : ((2 : Int) ^ min (Int.toNat k) IntKind.u32.bits) = (d : Int)) : V.int .u8 (IntKind.u8.wrap ((S : Int).fdiv (2 ^ min (Int.toNat k) IntKind.u32.bits))) = encB (UInt8.ofNat (S / d)) := by
  rw [h, fdivNat, wrapU8, encB_u8]

theorem permSm (k : Bool) : permH (smK k) := ⟨trivial, fun x _ => .flat _ rfl, trivial⟩

set_option maxRecDepth 8000 in
theorem fencode_ob (m : Msg) (hm : m.Ok) (K : Post) (h1 : mPut m = none → K (.tup [.nils, .int .i64 62]) [] 0) (h2 : ∀ bs, mPut m = some bs → 4096 < bs.length → K (.tup [.nils, .int .i64 72]) [] 0)
    (h3 : ∀ bs, mPut m = some bs → bs.length ≤ 4096 → K (.tup [.vec 0, .int .i64 0]) [(0, .row 5 1 encB (frBytes m.kind bs))] 1) : CallOb Tryz.prog 9 [.agg m.cells] [] 0 K := by
  refine contract TryztabOk Tryz.checked.mixed Tryz.func9 rfl Tryz.call9 [] [] [2, 3] (res2 Tryz.results9) Tryz.ntmps9 rfl ?_
  conv => whnf
  refine call_rule [] ?_
  conv => whnf
  refine mput_ob m hm _ (fun hn => ?_) (fun bs hs hl => ?_)
  · conv => whnf
    exact ⟨_, _, _, leT_refl _, leH_refl _, Nat.le_refl _, h1 hn⟩
  · conv => whnf
    refine br_dec (fun hb => ?_) (fun hb => ?_)
    · conv => whnf
      exact ⟨_, _, _, leT_refl _, leH_refl _, Nat.le_refl _, h2 bs hs (by omega)⟩
    · have hb : bs.length ≤ 4096 := by omega
      have hv := vput_len10 (n := bs.length) (by omega)
      have hk := hm.kind
      conv => whnf
      have hb4 : ([76, 68, 1, UInt8.ofNat m.kind] : List UInt8).length = 4 := rfl
      repeat' first
        | (refine ⟨?_, trivial⟩; conv => whnf)
        | (refine ⟨?_, ?_, trivial⟩ <;> conv => whnf)
        | (refine ⟨UInt8, encB, [76, 68, 1, UInt8.ofNat m.kind], rfl, build4 76 68 1 (UInt8.ofNat m.kind) (fun _ => rfl) (fun _ => rfl) (fun _ => rfl) rfl rfl rfl (by rw [encB_u8, Nat.mod_eq_of_lt hk]; rfl), ?_⟩; conv => whnf)
        | (refine call_rule [] ?_
           conv => whnf
           rw [wrapU64' (by omega)]
           refine put_ob bs.length (by omega) _ ?_
           conv => whnf)
        | (refine ⟨vput bs.length, rfl, ?_, ?_⟩
           · show (4 + (vput bs.length).length) * 1 ≤ _; omega
           conv => whnf)
        | fail
      all_goals refine ⟨bs, rfl, ?_, ?_⟩
      all_goals try (show (([76, 68, 1, UInt8.ofNat m.kind] ++ vput bs.length).length + bs.length) * 1 ≤ _; rw [List.length_append, hb4]; omega)
      all_goals conv => whnf
      all_goals refine call_rule [] ?_
      all_goals conv => whnf
      all_goals refine crcNew_ob _ ?_
      all_goals conv => whnf
      all_goals refine call_rule [true, false] ?_
      all_goals conv => whnf
      all_goals refine of_ob false false (frHead m.kind bs) (by simp [frHead]; omega) _ ?_
      all_goals conv => whnf
      all_goals refine ⟨trivial, permSm true, ?_⟩
      all_goals conv => whnf
      all_goals refine ⟨by decide, ?_⟩
      all_goals conv => whnf
      all_goals refine ⟨by decide, ?_⟩
      all_goals conv => whnf
      all_goals refine ⟨by decide, ?_⟩
      all_goals conv => whnf
      all_goals generalize hS : crcMore 0 (frHead m.kind bs) = S
      all_goals refine ⟨UInt8, encB, be32 S, rfl, build4 (UInt8.ofNat (S / 16777216)) (UInt8.ofNat (S / 65536)) (UInt8.ofNat (S / 256)) (UInt8.ofNat S) (fun _ => rfl) (fun _ => rfl) (fun _ => rfl) (shB S 16777216 24 (by decide)) (shB S 65536 16 (by decide)) (shB S 256 8 (by decide)) (by rw [encB_u8, ← wrapU8]; rfl), ?_⟩
      all_goals conv => whnf
      all_goals refine ⟨be32 S, rfl, ?_, ?_⟩
      all_goals try (show ((([76, 68, 1, UInt8.ofNat m.kind] ++ vput bs.length ++ bs)).length + 4) * 1 ≤ _; rw [List.length_append, List.length_append, hb4]; omega)
      all_goals conv => whnf
      all_goals subst hS
      all_goals exact ⟨_, _, _, leT_refl _, leH_refl _, Nat.le_refl _, h3 bs hs hb⟩

end Go.Sx
end

section
open Go.Proofs
namespace Go.Sx
set_option linter.unusedVariables false

theorem xorConst32 (a : Nat) (h : a < 2 ^ 32) : bitI .xor .u32 (a : Int) 4294967295 = ((4294967295 - a : Nat) : Int) := by
  have := xorOnes32 a h
  rw [show (if IntKind.u32.signed = true then -1 else IntKind.u32.max : Int) = ((4294967295 : Nat) : Int) by decide, bitI_xor .u32 rfl _ _ (by decide) h, Nat.xor_comm] at this
  rw [show (4294967295 : Int) = ((4294967295 : Nat) : Int) from rfl, bitI_xor .u32 rfl _ _ h (by decide)]
  exact this

set_option maxRecDepth 8000 in
theorem rmore_ob (p : Bool) (c : Nat) (hc : c < 2 ^ 32) (bs : List UInt8) (hl : bs.length ≤ 2 ^ 40) (K : Post) (hK : K (.int .u32 (crcMore c bs : Nat)) [] 0) : CallOb Tryz.prog 77 [.int .u32 (c : Int), .isl p 1 encB bs] [] 0 K := by
  refine contract TryztabOk Tryz.checked.mixed Tryz.func77 rfl Tryz.call77 [] [] [4] (res1 Tryz.results77) Tryz.ntmps77 rfl ?_
  conv => whnf
  have hc2 : 4294967295 - c < 2 ^ 32 := by omega
  refine loop_rule TryztabOk Tryz.checked.mixed [0, 1, 5] [] [] (T := { i : Nat // i ≤ bs.length }) (fun x => [.int .u32 ((bs.take x.1).foldl crcUpd (4294967295 - c) : Nat), .isl p 1 encB bs, .int .i64 (x.1 : Int)])
    (fun x => []) 0 (fun x => bs.length - x.1) ⟨0, by omega⟩ rfl rfl ?_ ?_
  · conv => whnf
    exact ⟨⟨⟨rfl, xorConst32 c hc⟩, leT_refl _, leT_refl _, trivial⟩, leH_refl _, Nat.le_refl _⟩
  · rintro ⟨i, hi⟩
    have hf := crcFold_lt (bs.take i) hc2
    conv => whnf
    refine br_dec (fun hlt => ?_) (fun hlt => ?_)
    · have hlt : i < bs.length := by simp only at hlt; omega
      conv => whnf
      refine ⟨⟨by simp only; omega, by simp only; omega⟩, ?_⟩
      intro x hxi
      have hxi' : bs[i]? = some x := by simpa using hxi
      have hstep := foldl_take_succ crcUpd (4294967295 - c) hxi'
      generalize hgen : (bs.take i).foldl crcUpd (4294967295 - c) = y at hf hstep
      rw [← bitUpd_eq] at hstep
      have hx2 := x.toNat_lt
      have hyx : y ^^^ x.toNat < 2 ^ 32 := Nat.xor_lt_two_pow hf (by omega)
      have e3 : bitI BinOp.xor IntKind.u32 (y : Int) (IntKind.u32.wrap (x.toNat : Int)) = ((y ^^^ x.toNat : Nat) : Int) := by
        rw [wrapU32' (by omega), bitI_xor .u32 rfl y x.toNat hf (by show x.toNat < 2 ^ 32; omega)]
      conv => whnf
      refine loop_rule TryztabOk Tryz.checked.mixed [0, 1, 5, 6] [] [] (T := { k : Nat // k ≤ 8 }) (fun z => [.int .u32 (crcIt z.1 (y ^^^ x.toNat) : Nat), .isl p 1 encB bs, .int .i64 (i : Int), .int .i64 (z.1 : Int)]) (fun z => []) 0 (fun z => 8 - z.1) ⟨0, by omega⟩ rfl rfl ?_ ?_
      · conv => whnf
        refine ⟨⟨⟨rfl, ?_⟩, leT_refl _, leT_refl _, leT_refl _, trivial⟩, leH_refl _, Nat.le_refl _⟩
        simp only [hgen]
        exact e3
      · rintro ⟨k, hk⟩
        have hck := crcIt_lt hyx k
        have e1 : bitI BinOp.and IntKind.u32 (crcIt k (y ^^^ x.toNat) : Nat) 1 = ((crcIt k (y ^^^ x.toNat) % 2 : Nat) : Int) := by
          rw [show (1 : Int) = ((1 : Nat) : Int) from rfl, bitI_and .u32 rfl _ 1 hck (by decide), Nat.and_one_is_mod]
        have e2 : ((2 : Int) ^ min (Int.toNat 1) IntKind.u32.bits) = ((2 : Nat) : Int) := by decide
        conv => whnf
        refine br_dec (fun hlk => ?_) (fun hlk => ?_)
        · have hlk : k < 8 := by simp only at hlk; omega
          conv => whnf
          refine ⟨by decide, ?_⟩
          conv => whnf
          simp only
          rw [e1]
          refine br_dec (fun ho => ?_) (fun ho => ?_)
          · conv => whnf
            refine ⟨⟨k + 1, by omega⟩, ?_, ?_, leH_refl _, Nat.le_refl _⟩
            · show 8 - (k + 1) < 8 - k; omega
            · refine ⟨⟨rfl, ?_⟩, leT_refl _, leT_refl _, ⟨rfl, wrapI64' (m := k + 1) (by omega)⟩, trivial⟩
              rw [e2, fdivNat, show (3988292384 : Int) = ((3988292384 : Nat) : Int) from rfl, bitI_xor .u32 rfl _ _ (Nat.lt_of_le_of_lt (Nat.div_le_self _ _) hck) (by decide)]
              simp only [crcIt, crcStep]
              rw [if_pos (by omega)]
          · conv => whnf
            refine ⟨⟨k + 1, by omega⟩, ?_, ?_, leH_refl _, Nat.le_refl _⟩
            · show 8 - (k + 1) < 8 - k; omega
            · refine ⟨⟨rfl, ?_⟩, leT_refl _, leT_refl _, ⟨rfl, wrapI64' (m := k + 1) (by omega)⟩, trivial⟩
              rw [e2, fdivNat]
              simp only [crcIt, crcStep]
              rw [if_neg (by omega)]
        · have hk8 : k = 8 := by simp only at hlk; omega
          subst hk8
          conv => whnf
          refine ⟨⟨i + 1, by omega⟩, ?_, ⟨⟨rfl, ?_⟩, leT_refl _, ⟨rfl, wrapI64' (m := i + 1) (by omega)⟩, trivial⟩, leH_refl _, Nat.le_refl _⟩
          · show bs.length - (i + 1) < bs.length - i; omega
          · simp only [hstep]
            rfl
    · have hi' : bs.take i = bs := List.take_of_length_le (by simp only at hlt; omega)
      conv => whnf
      refine ⟨_, _, _, ?_, leH_refl _, Nat.le_refl _, hK⟩
      refine ⟨rfl, ?_⟩
      rw [xorConst32 _ hf, hi']
      rfl

theorem rof_ob (p : Bool) (bs : List UInt8) (hl : bs.length ≤ 2 ^ 40) (K : Post) (hK : K (.int .u32 (crcMore 0 bs : Nat)) [] 0) : CallOb Tryz.prog 53 [.isl p 1 encB bs] [] 0 K := by
  refine contract TryztabOk Tryz.checked.mixed Tryz.func53 rfl Tryz.call53 [] [] [2] (res1 Tryz.results53) Tryz.ntmps53 rfl ?_
  conv => whnf
  refine call_rule [] ?_
  conv => whnf
  refine rmore_ob p 0 (by decide) bs hl _ ?_
  conv => whnf
  exact ⟨_, _, _, leT_refl _, leH_refl _, Nat.le_refl _, hK⟩

theorem shQ (S d : Nat) : V.int .u8 (IntKind.u8.wrap ((S : Int).tdiv (d : Int))) = encB (UInt8.ofNat (S / d)) := by
  rw [tdivNat, wrapU8, encB_u8]

theorem rsum_ob (p : Bool) (bs : List UInt8) (hl : bs.length ≤ 2 ^ 40) (K : Post) (hK : K (.vec 0) [(0, .row 5 1 encB (be32 (crcMore 0 bs)))] 1) : CallOb Tryz.prog 26 [.isl p 1 encB bs] [] 0 K := by
  refine contract TryztabOk Tryz.checked.mixed Tryz.func26 rfl Tryz.call26 [] [] [2] (res1 Tryz.results26) Tryz.ntmps26 rfl ?_
  conv => whnf
  refine call_rule [] ?_
  conv => whnf
  refine rof_ob p bs hl _ ?_
  conv => whnf
  have hS := crcMore_lt 0 bs
  generalize crcMore 0 bs = S at hK hS
  refine ⟨by decide, ?_⟩
  conv => whnf
  refine ⟨by decide, ?_⟩
  conv => whnf
  refine ⟨by decide, ?_⟩
  conv => whnf
  have w : ∀ d : Nat, 0 < d → V.int .u8 (IntKind.u8.wrap (IntKind.u32.wrap ((S : Int).tdiv (d : Int)))) = encB (UInt8.ofNat (S / d)) := fun d hd => by
    rw [tdivNat, wrapU32' (Nat.lt_of_le_of_lt (Nat.div_le_self _ _) hS), wrapU8, encB_u8]
  refine ⟨UInt8, encB, be32 S, rfl, build4 (UInt8.ofNat (S / 16777216)) (UInt8.ofNat (S / 65536)) (UInt8.ofNat (S / 256)) (UInt8.ofNat S) (fun _ => rfl) (fun _ => rfl) (fun _ => rfl) (w 16777216 (by decide)) (w 65536 (by decide)) (w 256 (by decide)) (by rw [encB_u8, ← wrapU8]; rfl), ?_⟩
  conv => whnf
  exact ⟨_, _, _, leT_refl _, leH_refl _, Nat.le_refl _, hK⟩

set_option maxRecDepth 8000 in
theorem rencode_ob (m : Msg) (hm : m.Ok) (K : Post) (h1 : mPut m = none → K (.tup [.nils, .int .i64 62]) [] 0) (h2 : ∀ bs, mPut m = some bs → 4096 < bs.length → K (.tup [.nils, .int .i64 72]) [] 0)
    (h3 : ∀ bs, mPut m = some bs → bs.length ≤ 4096 → K (.tup [.vec 0, .int .i64 0]) [(0, .row 5 1 encB (frBytes m.kind bs))] 1) : CallOb Tryz.prog 10 [.agg m.cells] [] 0 K := by
  refine contract TryztabOk Tryz.checked.mixed Tryz.func10 rfl Tryz.call10 [] [] [2, 3] (res2 Tryz.results10) Tryz.ntmps10 rfl ?_
  rw [← rPut_eq] at h1 h2 h3
  conv => whnf
  refine call_rule [] ?_
  conv => whnf
  refine rput_ob m hm _ (fun hn => ?_) (fun bs hs hl => ?_)
  · conv => whnf
    exact ⟨_, _, _, leT_refl _, leH_refl _, Nat.le_refl _, h1 hn⟩
  · conv => whnf
    refine br_dec (fun hb => ?_) (fun hb => ?_)
    · conv => whnf
      exact ⟨_, _, _, leT_refl _, leH_refl _, Nat.le_refl _, h2 bs hs (by omega)⟩
    · have hb : bs.length ≤ 4096 := by omega
      have hv := vput_len10 (n := bs.length) (by omega)
      have hk := hm.kind
      have hb4 : ([76, 68, 1, UInt8.ofNat m.kind] : List UInt8).length = 4 := rfl
      conv => whnf
      refine ⟨UInt8, encB, [76, 68, 1, UInt8.ofNat m.kind], rfl, build4 76 68 1 (UInt8.ofNat m.kind) (fun _ => rfl) (fun _ => rfl) (fun _ => rfl) rfl rfl rfl (by rw [encB_u8, Nat.mod_eq_of_lt hk]; rfl), ?_⟩
      conv => whnf
      refine call_rule [] ?_
      conv => whnf
      rw [wrapU64' (by omega)]
      refine put4_ob bs.length (by omega) _ ?_
      conv => whnf
      refine ⟨vput bs.length, rfl, ?_, ?_⟩
      · show (4 + (vput bs.length).length) * 1 ≤ _; omega
      conv => whnf
      refine ⟨bs, rfl, ?_, ?_⟩
      · show (([76, 68, 1, UInt8.ofNat m.kind] ++ vput bs.length).length + bs.length) * 1 ≤ _; rw [List.length_append, hb4]; omega
      conv => whnf
      refine call_rule [false] ?_
      conv => whnf
      refine rsum_ob false (frHead m.kind bs) (by simp [frHead]; omega) _ ?_
      conv => whnf
      refine ⟨trivial, ⟨fun x _ => .flat _ rfl, trivial⟩, ?_⟩
      conv => whnf
      refine ⟨be32 (crcMore 0 (frHead m.kind bs)), rfl, ?_, ?_⟩
      · show ((([76, 68, 1, UInt8.ofNat m.kind] ++ vput bs.length ++ bs)).length + 4) * 1 ≤ _; rw [List.length_append, List.length_append, hb4]; omega
      conv => whnf
      exact ⟨_, _, _, leT_refl _, leH_refl _, Nat.le_refl _, h3 bs hs hb⟩

end Go.Sx
end

section
open Go.Proofs
namespace Go.Sx
set_option linter.unusedVariables false

abbrev Alive : Prop := ∀ K : Post, K (.bool true) [] 0 → CallOb Tryz.prog 7 [] [] 0 K

set_option maxRecDepth 8000 in
theorem frameEncodes_ob (ha : Alive) (m : Msg) (hm : m.Raw) (K : Post) (hK : K (.bool true) [] 0) : CallOb Tryz.prog 3 [.agg m.cells] [] 0 K := by
  refine contract TryztabOk Tryz.checked.mixed Tryz.func3 rfl Tryz.call3 [] [] [2] (res1 Tryz.results3) Tryz.ntmps3 rfl ?_
  conv => whnf
  refine call_rule [] ?_
  conv => whnf
  refine ha _ ?_
  conv => whnf
  refine call_rule [] ?_
  conv => whnf
  refine great_ob m hm _ (fun b hb => ?_)
  cases b
  case true =>
    conv => whnf
    exact ⟨_, _, _, leT_refl _, leH_refl _, Nat.le_refl _, hK⟩
  have hok := hb rfl
  conv => whnf
  refine call_rule [] ?_
  conv => whnf
  refine fencode_ob m hok _ (fun hn => ?_) (fun bs hs hl => ?_) (fun bs hs hl => ?_)
  · conv => whnf
    refine call_rule [] ?_
    conv => whnf
    refine rencode_ob m hok _ (fun hn => ?_) (fun bs hs hl => ?_) (fun bs hs hl => ?_)
    · conv => whnf
      repeat' first
        | exact ⟨_, _, _, leT_refl _, leH_refl _, Nat.le_refl _, hK⟩
        | (refine ⟨[], rfl, ?_⟩; conv => whnf)
        | fail
    · rw [hn] at hs; cases hs
    · rw [hn] at hs; cases hs
  · conv => whnf
    refine call_rule [] ?_
    conv => whnf
    refine rencode_ob m hok _ (fun hn => ?_) (fun bs' hs' hl' => ?_) (fun bs' hs' hl' => ?_)
    · rw [hn] at hs; cases hs
    · conv => whnf
      repeat' first
        | exact ⟨_, _, _, leT_refl _, leH_refl _, Nat.le_refl _, hK⟩
        | (refine ⟨[], rfl, ?_⟩; conv => whnf)
        | fail
    · rw [hs] at hs'; cases hs'; omega
  · conv => whnf
    refine call_rule [] ?_
    conv => whnf
    refine rencode_ob m hok _ (fun hn => ?_) (fun bs' hs' hl' => ?_) (fun bs' hs' hl' => ?_)
    · rw [hn] at hs; cases hs
    · rw [hs] at hs'; cases hs'; omega
    · rw [hs] at hs'; cases hs'
      conv => whnf
      refine ⟨frBytes m.kind bs, rfl, ?_⟩
      conv => whnf
      refine ⟨frBytes m.kind bs, rfl, ?_⟩
      conv => whnf
      refine ⟨_, _, _, ?_, leH_refl _, Nat.le_refl _, hK⟩
      show (bif true then frBytes m.kind bs == frBytes m.kind bs else false) = true
      simp

set_option maxRecDepth 8000 in
theorem frameSizes_ob (ha : Alive) (m : Msg) (hm : m.Raw) (K : Post) (hK : K (.bool true) [] 0) : CallOb Tryz.prog 5 [.agg m.cells] [] 0 K := by
  refine contract TryztabOk Tryz.checked.mixed Tryz.func5 rfl Tryz.call5 [] [] [2] (res1 Tryz.results5) Tryz.ntmps5 rfl ?_
  conv => whnf
  refine call_rule [] ?_
  conv => whnf
  refine ha _ ?_
  conv => whnf
  refine call_rule [] ?_
  conv => whnf
  refine great_ob m hm _ (fun b hb => ?_)
  cases b
  case true =>
    conv => whnf
    exact ⟨_, _, _, leT_refl _, leH_refl _, Nat.le_refl _, hK⟩
  have hok := hb rfl
  conv => whnf
  refine call_rule [] ?_
  conv => whnf
  refine rput_ob m hok _ (fun hn0 => ?_) (fun bs0 hs0 hl0 => ?_)
  · rw [rPut_eq] at hn0
    conv => whnf
    refine call_rule [] ?_
    conv => whnf
    refine fencode_ob m hok _ (fun hn => ?_) (fun bs hs hl => ?_) (fun bs hs hl => ?_)
    · conv => whnf
      exact ⟨_, _, _, leT_refl _, leH_refl _, Nat.le_refl _, hK⟩
    · rw [hn0] at hs; cases hs
    · rw [hn0] at hs; cases hs
  · rw [rPut_eq] at hs0
    conv => whnf
    refine call_rule [] ?_
    conv => whnf
    refine fencode_ob m hok _ (fun hn => ?_) (fun bs hs hl => ?_) (fun bs hs hl => ?_)
    · rw [hn] at hs0; cases hs0
    · rw [hs] at hs0; cases hs0
      conv => whnf
      refine ⟨_, _, _, ?_, leH_refl _, Nat.le_refl _, hK⟩
      show (bif decide ((0 : Int) = 0) then bif !true then true else decide ((4096 : Int) < (bs0.length : Int)) else false) = true
      rw [decide_eq_true (by omega : (4096 : Int) < (bs0.length : Int))]
      rfl
    · rw [hs] at hs0; cases hs0
      have hv := vput_len10 (n := bs0.length) (by omega)
      have hlen : (frBytes m.kind bs0).length = 8 + (vput bs0.length).length + bs0.length := by
        simp [frBytes, frHead, be32]; omega
      conv => whnf
      refine call_rule [] ?_
      conv => whnf
      rw [wrapU64' (by omega)]
      refine put4_ob bs0.length (by omega) _ ?_
      conv => whnf
      refine ⟨_, _, _, ?_, leH_refl _, Nat.le_refl _, hK⟩
      show (bif true then decide (((frBytes m.kind bs0).length : Int) = IntKind.i64.wrap (IntKind.i64.wrap (8 + ((vput bs0.length).length : Int)) + (bs0.length : Int))) else false) = true
      rw [wrapI64 (8 + ((vput bs0.length).length : Int)) (by omega) (by omega), wrapI64 _ (by omega) (by omega), decide_eq_true (by rw [hlen]; omega)]
      rfl

end Go.Sx
end

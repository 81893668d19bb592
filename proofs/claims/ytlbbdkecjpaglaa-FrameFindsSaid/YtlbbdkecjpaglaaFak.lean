/- lodestarref01.Same, lodestarref03.Same, lodestarref02.Same (printed by gensame.py); no condition. lodestarref06: SameItem, SameItems, SameChanges; no condition. -/
import Derived.Test.YtlbbdkecjpaglaaFaj

set_option linter.all false

section
open Go.Proofs
namespace Go.Sx
set_option linter.unusedVariables false

theorem take_eq_succ {α : Type} {xs ys : List α} {i : Nat} {x y : α} (h : xs.take i = ys.take i) (hx : xs[i]? = some x) (hy : ys[i]? = some y) : xs.take (i + 1) = ys.take (i + 1) ↔ x = y := by
  rw [List.take_add_one, List.take_add_one, hx, hy, h]
  simp

theorem ne_of_take {α : Type} {xs ys : List α} {i : Nat} (h : xs.take i ≠ ys.take i) : xs ≠ ys := fun e => h (by rw [e])


theorem sameI32_ob (p q : Bool) (xs ys : List Int) (hl : xs.length ≤ 2 ^ 40) (K : Post) (hK : ∀ b : Bool, (b = true ↔ xs = ys) → K (.bool b) [] 0) : CallOb Try.prog 23 [.isl p 1 encI32 xs, .isl q 1 encI32 ys] [] 0 K := by
  refine contract TrytabOk Try.checked.mixed Try.func23 rfl Try.call23 [] [] [4] (res1 Try.results23) Try.ntmps23 rfl ?_
  conv => whnf
  refine br_intro (fun h => ?_) (fun h => ?_)
  · have h : ¬ xs.length = ys.length := by simp at h; omega
    conv => whnf
    exact ⟨_, _, _, leT_refl _, leH_refl _, Nat.le_refl _, hK false (by simp; intro e; exact h (by rw [e]))⟩
  · have h : xs.length = ys.length := by simp at h; omega
    conv => whnf
    refine loop_rule TrytabOk Try.checked.mixed [0, 1, 5] [] [] (T := { i : Nat // i ≤ xs.length ∧ xs.take i = ys.take i }) (fun x => [.isl p 1 encI32 xs, .isl q 1 encI32 ys, .int .i64 (x.1 : Int)])
      (fun x => []) 0 (fun x => xs.length - x.1) ⟨0, by omega, by simp⟩ rfl rfl ?_ ?_
    · conv => whnf
      exact ⟨leTs_refl _, leH_refl _, Nat.le_refl _⟩
    · rintro ⟨i, hi, ht⟩
      conv => whnf
      refine br_dec (fun hlt => ?_) (fun hlt => ?_)
      · have hlt : i < xs.length := by simp only at hlt; omega
        conv => whnf
        refine ⟨⟨by simp only; omega, by simp only; omega⟩, ?_⟩
        intro x hxi
        have hxi' : xs[i]? = some x := by simpa using hxi
        conv => whnf
        refine ⟨⟨by simp only; omega, by simp only; omega⟩, ?_⟩
        intro y hyi
        have hyi' : ys[i]? = some y := by simpa using hyi
        have hs := take_eq_succ ht hxi' hyi'
        conv => whnf
        repeat' first
          | (refine ⟨?_, trivial⟩; conv => whnf)
          | (refine ⟨?_, ?_, trivial⟩ <;> conv => whnf)
          | fail
        all_goals refine br_intro (fun hc => ?_) (fun hc => ?_)
        all_goals first
          | (have hc2 : ¬ x = y := by
              simpa using hc
             clear hc
             conv => whnf
             exact ⟨_, _, _, leT_refl _, leH_refl _, Nat.le_refl _, hK false (by simp; exact ne_of_take (i := i + 1) (fun e => hc2 (hs.1 e)))⟩)
          | (have hc2 : x = y := by
              simpa using hc
             clear hc
             conv => whnf
             refine ⟨⟨i + 1, hlt, hs.2 hc2⟩, ?_, ⟨leT_refl _, leT_refl _, ⟨rfl, wrapI64' (m := i + 1) (by omega)⟩, trivial⟩, leH_refl _, Nat.le_refl _⟩
             show xs.length - (i + 1) < xs.length - i
             omega)
      · have hlt : ¬ i < xs.length := by simp only at hlt; omega
        rw [List.take_of_length_le (by omega), List.take_of_length_le (by omega)] at ht
        conv => whnf
        exact ⟨_, _, _, leT_refl _, leH_refl _, Nat.le_refl _, hK true (by simp [ht])⟩


theorem sameStr_ob (p q : Bool) (xs ys : List (List UInt8)) (hl : xs.length ≤ 2 ^ 40) (K : Post) (hK : ∀ b : Bool, (b = true ↔ xs = ys) → K (.bool b) [] 0) : CallOb Try.prog 24 [.isl p 1 encStr xs, .isl q 1 encStr ys] [] 0 K := by
  refine contract TrytabOk Try.checked.mixed Try.func24 rfl Try.call24 [] [] [4] (res1 Try.results24) Try.ntmps24 rfl ?_
  conv => whnf
  refine br_intro (fun h => ?_) (fun h => ?_)
  · have h : ¬ xs.length = ys.length := by simp at h; omega
    conv => whnf
    exact ⟨_, _, _, leT_refl _, leH_refl _, Nat.le_refl _, hK false (by simp; intro e; exact h (by rw [e]))⟩
  · have h : xs.length = ys.length := by simp at h; omega
    conv => whnf
    refine loop_rule TrytabOk Try.checked.mixed [0, 1, 5] [] [] (T := { i : Nat // i ≤ xs.length ∧ xs.take i = ys.take i }) (fun x => [.isl p 1 encStr xs, .isl q 1 encStr ys, .int .i64 (x.1 : Int)])
      (fun x => []) 0 (fun x => xs.length - x.1) ⟨0, by omega, by simp⟩ rfl rfl ?_ ?_
    · conv => whnf
      exact ⟨leTs_refl _, leH_refl _, Nat.le_refl _⟩
    · rintro ⟨i, hi, ht⟩
      conv => whnf
      refine br_dec (fun hlt => ?_) (fun hlt => ?_)
      · have hlt : i < xs.length := by simp only at hlt; omega
        conv => whnf
        refine ⟨⟨by simp only; omega, by simp only; omega⟩, ?_⟩
        intro x hxi
        have hxi' : xs[i]? = some x := by simpa using hxi
        conv => whnf
        refine ⟨⟨by simp only; omega, by simp only; omega⟩, ?_⟩
        intro y hyi
        have hyi' : ys[i]? = some y := by simpa using hyi
        have hs := take_eq_succ ht hxi' hyi'
        conv => whnf
        repeat' first
          | (refine ⟨?_, trivial⟩; conv => whnf)
          | (refine ⟨?_, ?_, trivial⟩ <;> conv => whnf)
          | fail
        all_goals refine br_intro (fun hc => ?_) (fun hc => ?_)
        all_goals first
          | (have hc2 : ¬ x = y := by
              simpa using hc
             clear hc
             conv => whnf
             exact ⟨_, _, _, leT_refl _, leH_refl _, Nat.le_refl _, hK false (by simp; exact ne_of_take (i := i + 1) (fun e => hc2 (hs.1 e)))⟩)
          | (have hc2 : x = y := by
              simpa using hc
             clear hc
             conv => whnf
             refine ⟨⟨i + 1, hlt, hs.2 hc2⟩, ?_, ⟨leT_refl _, leT_refl _, ⟨rfl, wrapI64' (m := i + 1) (by omega)⟩, trivial⟩, leH_refl _, Nat.le_refl _⟩
             show xs.length - (i + 1) < xs.length - i
             omega)
      · have hlt : ¬ i < xs.length := by simp only at hlt; omega
        rw [List.take_of_length_le (by omega), List.take_of_length_le (by omega)] at ht
        conv => whnf
        exact ⟨_, _, _, leT_refl _, leH_refl _, Nat.le_refl _, hK true (by simp [ht])⟩


theorem sameHit_ob (p q : Bool) (xs ys : List Hit) (hl : xs.length ≤ 2 ^ 40) (K : Post) (hK : ∀ b : Bool, (b = true ↔ xs = ys) → K (.bool b) [] 0) : CallOb Try.prog 26 [.isl p 2 encHit xs, .isl q 2 encHit ys] [] 0 K := by
  refine contract TrytabOk Try.checked.mixed Try.func26 rfl Try.call26 [] [] [4] (res1 Try.results26) Try.ntmps26 rfl ?_
  conv => whnf
  refine br_intro (fun h => ?_) (fun h => ?_)
  · have h : ¬ xs.length = ys.length := by simp at h; omega
    conv => whnf
    exact ⟨_, _, _, leT_refl _, leH_refl _, Nat.le_refl _, hK false (by simp; intro e; exact h (by rw [e]))⟩
  · have h : xs.length = ys.length := by simp at h; omega
    conv => whnf
    refine loop_rule TrytabOk Try.checked.mixed [0, 1, 5] [] [] (T := { i : Nat // i ≤ xs.length ∧ xs.take i = ys.take i }) (fun x => [.isl p 2 encHit xs, .isl q 2 encHit ys, .int .i64 (x.1 : Int)])
      (fun x => []) 0 (fun x => xs.length - x.1) ⟨0, by omega, by simp⟩ rfl rfl ?_ ?_
    · conv => whnf
      exact ⟨leTs_refl _, leH_refl _, Nat.le_refl _⟩
    · rintro ⟨i, hi, ht⟩
      conv => whnf
      refine br_dec (fun hlt => ?_) (fun hlt => ?_)
      · have hlt : i < xs.length := by simp only at hlt; omega
        conv => whnf
        refine ⟨⟨by simp only; omega, by simp only; omega⟩, ?_⟩
        intro x hxi
        have hxi' : xs[i]? = some x := by simpa using hxi
        conv => whnf
        refine ⟨⟨by simp only; omega, by simp only; omega⟩, ?_⟩
        intro y hyi
        have hyi' : ys[i]? = some y := by simpa using hyi
        have hs := take_eq_succ ht hxi' hyi'
        conv => whnf
        repeat' first
          | (refine ⟨?_, trivial⟩; conv => whnf)
          | (refine ⟨?_, ?_, trivial⟩ <;> conv => whnf)
          | fail
        all_goals refine br_intro (fun hc => ?_) (fun hc => ?_)
        all_goals first
          | (have hc2 : ¬ x = y := by
              intro e; subst e; simp at hc
             clear hc
             conv => whnf
             exact ⟨_, _, _, leT_refl _, leH_refl _, Nat.le_refl _, hK false (by simp; exact ne_of_take (i := i + 1) (fun e => hc2 (hs.1 e)))⟩)
          | (have hc2 : x = y := by
              cases x; cases y; simp at hc; simp only [Hit.mk.injEq]; exact ⟨hc.1, by omega⟩
             clear hc
             conv => whnf
             refine ⟨⟨i + 1, hlt, hs.2 hc2⟩, ?_, ⟨leT_refl _, leT_refl _, ⟨rfl, wrapI64' (m := i + 1) (by omega)⟩, trivial⟩, leH_refl _, Nat.le_refl _⟩
             show xs.length - (i + 1) < xs.length - i
             omega)
      · have hlt : ¬ i < xs.length := by simp only at hlt; omega
        rw [List.take_of_length_le (by omega), List.take_of_length_le (by omega)] at ht
        conv => whnf
        exact ⟨_, _, _, leT_refl _, leH_refl _, Nat.le_refl _, hK true (by simp [ht])⟩


end Go.Sx
end

section
open Go.Proofs
namespace Go.Sx
set_option linter.unusedVariables false

theorem Item.ext_iff' {x y : Item} : x = y ↔ x.id = y.id ∧ x.vec = y.vec ∧ x.tags = y.tags := by
  cases x; cases y; simp

set_option maxRecDepth 4000 in
theorem sameItem_ob (x y : Item) (hx : x.Ok) (K : Post) (hK : ∀ b : Bool, (b = true ↔ x = y) → K (.bool b) [] 0) :
    CallOb Try.prog 34 [.agg [.int .u32 x.id, .isl true 1 encI32 x.vec, .isl true 1 encStr x.tags], .agg [.int .u32 y.id, .isl true 1 encI32 y.vec, .isl true 1 encStr y.tags]] [] 0 K := by
  refine contract TrytabOk Try.checked.mixed Try.func34 rfl Try.call34 [] [] [4] (res1 Try.results34) Try.ntmps34 rfl ?_
  simp only [Item.ext_iff'] at hK
  conv => whnf
  refine br_dec (fun h => ?_) (fun h => ?_)
  · have h : x.id = y.id := by omega
    conv => whnf
    refine call_rule [] ?_
    conv => whnf
    refine sameI32_ob true true x.vec y.vec hx.vlen _ (fun b hb => ?_)
    conv => whnf
    cases b
    · conv => whnf
      have h1 : ¬ x.vec = y.vec := fun e => by have := hb.2 e; cases this
      exact ⟨_, _, _, leT_refl _, leH_refl _, Nat.le_refl _, hK _ (by simp [h1])⟩
    · conv => whnf
      refine call_rule [] ?_
      conv => whnf
      refine sameStr_ob true true x.tags y.tags hx.tlen _ (fun b hb2 => ?_)
      conv => whnf
      refine ⟨_, _, _, leT_refl _, leH_refl _, Nat.le_refl _, hK _ ?_⟩
      simp only [h, hb.1 rfl, true_and]
      exact hb2
  · have h : ¬ x.id = y.id := by omega
    conv => whnf
    exact ⟨_, _, _, leT_refl _, leH_refl _, Nat.le_refl _, hK _ (by simp [h])⟩

theorem sameItems_ob (p q : Bool) (xs ys : List Item) (hx : ∀ x ∈ xs, x.Ok) (hl : xs.length ≤ 2 ^ 40) (K : Post) (hK : ∀ b : Bool, (b = true ↔ xs = ys) → K (.bool b) [] 0) : CallOb Try.prog 25 [.isl p 3 encItem xs, .isl q 3 encItem ys] [] 0 K := by
  refine contract TrytabOk Try.checked.mixed Try.func25 rfl Try.call25 [] [] [4] (res1 Try.results25) Try.ntmps25 rfl ?_
  conv => whnf
  refine br_intro (fun h => ?_) (fun h => ?_)
  · have h : ¬ xs.length = ys.length := by simp at h; omega
    conv => whnf
    exact ⟨_, _, _, leT_refl _, leH_refl _, Nat.le_refl _, hK false (by simp; intro e; exact h (by rw [e]))⟩
  · have h : xs.length = ys.length := by simp at h; omega
    conv => whnf
    refine loop_rule TrytabOk Try.checked.mixed [0, 1, 5] [] [] (T := { i : Nat // i ≤ xs.length ∧ xs.take i = ys.take i }) (fun x => [.isl p 3 encItem xs, .isl q 3 encItem ys, .int .i64 (x.1 : Int)])
      (fun x => []) 0 (fun x => xs.length - x.1) ⟨0, by omega, by simp⟩ rfl rfl ?_ ?_
    · conv => whnf
      exact ⟨leTs_refl _, leH_refl _, Nat.le_refl _⟩
    · rintro ⟨i, hi, ht⟩
      conv => whnf
      refine br_dec (fun hlt => ?_) (fun hlt => ?_)
      · have hlt : i < xs.length := by simp only at hlt; omega
        conv => whnf
        refine ⟨⟨by simp only; omega, by simp only; omega⟩, ?_⟩
        intro x hxi
        have hxi' : xs[i]? = some x := by simpa using hxi
        have hxo := hx x (List.mem_of_getElem? hxi')
        conv => whnf
        refine ⟨⟨by simp only; omega, by simp only; omega⟩, ?_⟩
        intro y hyi
        have hyi' : ys[i]? = some y := by simpa using hyi
        have hs := take_eq_succ ht hxi' hyi'
        conv => whnf
        repeat' first
          | (refine ⟨?_, trivial⟩; conv => whnf)
          | (refine ⟨?_, ?_, trivial⟩ <;> conv => whnf)
          | fail
        all_goals refine call_rule [] ?_
        all_goals conv => whnf
        all_goals refine sameItem_ob x y hxo _ (fun b hb => ?_)
        all_goals conv => whnf
        all_goals repeat' first
          | (refine ⟨?_, trivial⟩; conv => whnf)
          | fail
        all_goals refine br_intro (fun hc => ?_) (fun hc => ?_)
        all_goals first
          | (have hc2 : ¬ x = y := by
              intro e
              rw [hb.2 e] at hc
              cases hc
             clear hc
             conv => whnf
             exact ⟨_, _, _, leT_refl _, leH_refl _, Nat.le_refl _, hK false (by simp; exact ne_of_take (i := i + 1) (fun e => hc2 (hs.1 e)))⟩)
          | (have hc2 : x = y := by
              apply hb.1
              simpa using hc
             clear hc
             conv => whnf
             refine ⟨⟨i + 1, hlt, hs.2 hc2⟩, ?_, ⟨leT_refl _, leT_refl _, ⟨rfl, wrapI64' (m := i + 1) (by omega)⟩, trivial⟩, leH_refl _, Nat.le_refl _⟩
             show xs.length - (i + 1) < xs.length - i
             omega)
      · have hlt : ¬ i < xs.length := by simp only at hlt; omega
        rw [List.take_of_length_le (by omega), List.take_of_length_le (by omega)] at ht
        conv => whnf
        exact ⟨_, _, _, leT_refl _, leH_refl _, Nat.le_refl _, hK true (by simp [ht])⟩

theorem Chg.ext_iff' {x y : Chg} : x = y ↔ x.gone = y.gone ∧ x.item = y.item := by
  cases x; cases y; simp

set_option maxRecDepth 4000 in
theorem sameChanges_ob (p q : Bool) (xs ys : List Chg) (hx : ∀ x ∈ xs, x.item.Ok) (hl : xs.length ≤ 2 ^ 40) (K : Post) (hK : ∀ b : Bool, (b = true ↔ xs = ys) → K (.bool b) [] 0) : CallOb Try.prog 22 [.isl p 4 encChg xs, .isl q 4 encChg ys] [] 0 K := by
  refine contract TrytabOk Try.checked.mixed Try.func22 rfl Try.call22 [] [] [4] (res1 Try.results22) Try.ntmps22 rfl ?_
  conv => whnf
  refine br_intro (fun h => ?_) (fun h => ?_)
  · have h : ¬ xs.length = ys.length := by simp at h; omega
    conv => whnf
    exact ⟨_, _, _, leT_refl _, leH_refl _, Nat.le_refl _, hK false (by simp; intro e; exact h (by rw [e]))⟩
  · have h : xs.length = ys.length := by simp at h; omega
    conv => whnf
    refine loop_rule TrytabOk Try.checked.mixed [0, 1, 5] [] [] (T := { i : Nat // i ≤ xs.length ∧ xs.take i = ys.take i }) (fun x => [.isl p 4 encChg xs, .isl q 4 encChg ys, .int .i64 (x.1 : Int)])
      (fun x => []) 0 (fun x => xs.length - x.1) ⟨0, by omega, by simp⟩ rfl rfl ?_ ?_
    · conv => whnf
      exact ⟨leTs_refl _, leH_refl _, Nat.le_refl _⟩
    · rintro ⟨i, hi, ht⟩
      conv => whnf
      refine br_dec (fun hlt => ?_) (fun hlt => ?_)
      · have hlt : i < xs.length := by simp only at hlt; omega
        obtain ⟨x, hx'⟩ : ∃ x, xs[i]? = some x := ⟨_, List.getElem?_eq_getElem hlt⟩
        obtain ⟨y, hy'⟩ : ∃ y, ys[i]? = some y := ⟨_, List.getElem?_eq_getElem (by omega)⟩
        have hxo := hx x (List.mem_of_getElem? hx')
        have key : x = y → xs.take (i + 1) = ys.take (i + 1) := fun e => (take_eq_succ ht hx' hy').2 e
        have kno : ¬ x = y → ¬ xs = ys := fun e => ne_of_take (i := i + 1) (fun e2 => e ((take_eq_succ ht hx' hy').1 e2))
        conv => whnf
        repeat' first
          | (refine Box.mk ?_; conv => whnf)
          | (refine ⟨?_, trivial⟩; conv => whnf)
          | (refine ⟨?_, ?_, trivial⟩ <;> conv => whnf)
          | (refine ⟨⟨by simp only; omega, by simp only; omega⟩, fun z hz => ?_⟩
             have e : x = z := by
               have hz2 : xs[i]? = some z := by simpa using hz
               rw [hx'] at hz2; cases hz2; rfl
             subst e
             clear hz
             conv => whnf)
          | (refine ⟨⟨by simp only; omega, by simp only; omega⟩, fun z hz => ?_⟩
             have e : y = z := by
               have hz2 : ys[i]? = some z := by simpa using hz
               rw [hy'] at hz2; cases hz2; rfl
             subst e
             clear hz
             conv => whnf)
          | fail
        all_goals refine br_intro (fun hc => ?_) (fun hc => ?_)
        all_goals conv => whnf
        repeat' first
          | (refine Box.mk ?_; conv => whnf)
          | (refine ⟨?_, trivial⟩; conv => whnf)
          | (refine ⟨?_, ?_, trivial⟩ <;> conv => whnf)
          | (refine ⟨⟨by simp only; omega, by simp only; omega⟩, fun z hz => ?_⟩
             have e : x = z := by
               have hz2 : xs[i]? = some z := by simpa using hz
               rw [hx'] at hz2; cases hz2; rfl
             subst e
             clear hz
             conv => whnf)
          | (refine ⟨⟨by simp only; omega, by simp only; omega⟩, fun z hz => ?_⟩
             have e : y = z := by
               have hz2 : ys[i]? = some z := by simpa using hz
               rw [hy'] at hz2; cases hz2; rfl
             subst e
             clear hz
             conv => whnf)
          | fail
        all_goals try
          refine call_rule [] ?_
          conv => whnf
          refine sameItem_ob x.item y.item hxo _ (fun b hb => ?_)
          conv => whnf
        repeat' first
          | (refine Box.mk ?_; conv => whnf)
          | (refine ⟨?_, trivial⟩; conv => whnf)
          | (refine ⟨?_, ?_, trivial⟩ <;> conv => whnf)
          | (refine ⟨⟨by simp only; omega, by simp only; omega⟩, fun z hz => ?_⟩
             have e : x = z := by
               have hz2 : xs[i]? = some z := by simpa using hz
               rw [hx'] at hz2; cases hz2; rfl
             subst e
             clear hz
             conv => whnf)
          | (refine ⟨⟨by simp only; omega, by simp only; omega⟩, fun z hz => ?_⟩
             have e : y = z := by
               have hz2 : ys[i]? = some z := by simpa using hz
               rw [hy'] at hz2; cases hz2; rfl
             subst e
             clear hz
             conv => whnf)
          | fail
        all_goals first
          | (have hne : ¬ x = y := by
               intro e
               subst e
               simp at hc
             exact ⟨_, _, _, leT_refl _, leH_refl _, Nat.le_refl _, hK false (by simp; exact kno hne)⟩)
          | (have hg : x.gone = y.gone := by simpa using hc
             cases b
             · have hne : ¬ x = y := by
                 intro e
                 have := hb.2 (by rw [e])
                 cases this
               conv => whnf
               exact ⟨_, _, _, leT_refl _, leH_refl _, Nat.le_refl _, hK false (by simp; exact kno hne)⟩
             · have he : x = y := Chg.ext_iff'.2 ⟨hg, hb.1 rfl⟩
               conv => whnf
               refine ⟨⟨i + 1, hlt, key he⟩, ?_, ⟨leT_refl _, leT_refl _, ⟨rfl, wrapI64' (m := i + 1) (by omega)⟩, trivial⟩, leH_refl _, Nat.le_refl _⟩
               show xs.length - (i + 1) < xs.length - i
               omega)
      · have hlt : ¬ i < xs.length := by simp only at hlt; omega
        rw [List.take_of_length_le (by omega), List.take_of_length_le (by omega)] at ht
        conv => whnf
        exact ⟨_, _, _, leT_refl _, leH_refl _, Nat.le_refl _, hK true (by simp [ht])⟩

end Go.Sx
end

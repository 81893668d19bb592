/- lodestarref07.First; no condition. -/
import Derived.Test.YtlbbdkecjpaglaaGreatHat

set_option linter.all false

section
open Go.Proofs
namespace Go.Sx
set_option linter.unusedVariables false

theorem vgetL_err : ∀ (bs : List UInt8) (i n : Nat), (vgetL i n bs).2.2 = 0 ∨ (vgetL i n bs).2.2 = 40 ∨ (vgetL i n bs).2.2 = 41
  | [], i, n => by simp [vgetL]
  | c :: r, i, n => by
    unfold vgetL
    repeat' split
    all_goals first
      | exact vgetL_err r _ _
      | simp

theorem vget_err (bs : List UInt8) : (vget bs).2.2 = 0 ∨ (vget bs).2.2 = 40 ∨ (vget bs).2.2 = 41 := vgetL_err bs 0 0

def frGet (bs : List UInt8) : Msg × Nat := mGet (bs.getD 3 0).toNat ((bs.take (frTo bs)).drop (4 + (frV bs).2.1))

/-- the first message that bytes begin with, how many bytes it has; an error's number -/
def first (bs : List UInt8) : Msg × Nat × Nat :=
  if ¬ nextE bs = 0 then (Msg.zero 0, 0, nextE bs) else if ¬ (frGet bs).2 = 0 then (Msg.zero 0, 0, if (frGet bs).2 = 40 then 62 else (frGet bs).2) else ((frGet bs).1, frTo bs + 4, 0)

theorem first_e {bs : List UInt8} {e : Nat} (h : nextE bs = e) (h0 : ¬ e = 0) : first bs = (Msg.zero 0, 0, e) := by
  subst h
  unfold first
  rw [if_pos h0]

set_option maxHeartbeats 8000000 in
set_option maxRecDepth 8000 in
theorem dfirst_ob (p : Bool) (bs : List UInt8) (hb : bs.length ≤ 2 ^ 40) (K : Post) (hK : K (.tup [.agg (first bs).1.cells, .int .i64 ((first bs).2.1 : Int), .int .i64 ((first bs).2.2 : Int)]) [] 0) : CallOb Tryz.prog 14 [.isl p 1 encB bs] [] 0 K := by
  refine contractC TryztabOk Tryz.checked.mixed Tryz.func14 rfl Tryz.call14 [] [] [.cell 2 37, .tmp 3, .tmp 4] (resC3 Tryz.results14) Tryz.ntmps14 rfl ?_
  have hE : ∀ e : Nat, nextE bs = e → ¬ e = 0 → K (.tup [.agg (Msg.zero 0).cells, .int .i64 0, .int .i64 (e : Int)]) [] 0 := fun e h h0 => by
    rw [first_e h h0] at hK
    exact hK
  conv => whnf
  refine ⟨UInt8, encB, [76, 68, 1], rfl, build_all [76, 68, 1] rfl (fun _ => rfl) (fun _ => rfl) (fun _ => rfl), ?_⟩
  conv => whnf
  refine loop_rule TryztabOk Tryz.checked.mixed [0, 2, 5, 6] [] [] (T := { i : Nat // i ≤ 3 ∧ hdrF bs 4 0 = hdrF bs (4 - i) i ∧ i ≤ bs.length }) (fun x => [.isl p 1 encB bs, .ptr 0 0, .vec 1, .int .i64 (x.1 : Int)])
    (fun x => [(0, .cells 37 zc), (1, .row 5 1 encB [76, 68, 1])]) 2 (fun x => 3 - x.1) ⟨0, by omega, rfl, by omega⟩ rfl rfl ?_ ?_
  · conv => whnf
    exact ⟨leTs_refl _, ⟨rfl, ⟨rfl, zle⟩, rfl, leO_refl _, trivial⟩, Nat.le_refl _⟩
  rintro ⟨i, hi, hh, hil⟩
  have hs : i = 0 ∨ i = 1 ∨ i = 2 ∨ i = 3 := by omega
  have step : ∀ c, bs[i]? = some c → i < 4 → hdrE i c.toNat = 0 → hdrF bs 4 0 = hdrF bs (4 - (i + 1)) (i + 1) := fun c hc hi h => by
    rw [hh, show 4 - i = (4 - (i + 1)) + 1 by omega, hdrF, hc]
    simp [h]
  have stop : ∀ c, bs[i]? = some c → i < 4 → ¬ hdrE i c.toNat = 0 → nextE bs = hdrE i c.toNat := fun c hc hi h => by
    have : hdrF bs 4 0 = hdrE i c.toNat := by
      rw [hh, show 4 - i = (4 - (i + 1)) + 1 by omega, hdrF, hc]
      simp [h]
    unfold nextE
    rw [if_pos (by rw [this]; exact h), this]
  have none_ : bs.length ≤ i → i < 4 → nextE bs = 40 := fun hl hi => by
    have hn : hdrF bs 4 0 = 40 := by
      rw [hh, show 4 - i = (4 - i - 1) + 1 by omega, hdrF, List.getElem?_eq_none hl]
    unfold nextE
    rw [if_pos (by rw [hn]; decide), hn]
  by_cases h3 : i = 3
  case neg =>
    by_cases hl : bs.length ≤ i
    · have hE' := hE 40 (none_ hl (by omega)) (by decide)
      rcases hs with rfl | rfl | rfl | rfl
      all_goals try exact absurd rfl h3
      all_goals
        conv => whnf
        refine br_dec (fun hlt => ?_) (fun hlt => ?_)
        · conv => whnf
          refine ⟨_, _, _, ?_, leH_refl _, Nat.le_refl _, hE'⟩
          exact ⟨zle, ⟨rfl, rfl⟩, ⟨rfl, rfl⟩, trivial⟩
        · simp only at hlt; omega
    · obtain ⟨c, hc⟩ : ∃ t, bs[i]? = some t := ⟨_, List.getElem?_eq_getElem (by omega)⟩
      have step := step c hc (by omega)
      have stop := stop c hc (by omega)
      have hc2 := c.toNat_lt
      obtain ⟨w, hw, hwv⟩ : ∃ w : UInt8, ([76, 68, 1] : List UInt8)[i]? = some w ∧ hdrE i c.toNat = (if c.toNat = w.toNat then 0 else if i < 2 then 70 else 71) := by
        rcases hs with rfl | rfl | rfl | rfl
        · exact ⟨76, rfl, by by_cases h : c.toNat = 76 <;> simp [hdrE, h]⟩
        · exact ⟨68, rfl, by by_cases h : c.toNat = 68 <;> simp [hdrE, h]⟩
        · exact ⟨1, rfl, by by_cases h : c.toNat = 1 <;> simp [hdrE, h]⟩
        · exact absurd rfl h3
      have hw2 := w.toNat_lt
      have hA : (0 : Int) ≤ (i : Int) ∧ (i : Int) < ((([76, 68, 1] : List UInt8).length : Nat) : Int) := by
        rw [show ([76, 68, 1] : List UInt8).length = 3 from rfl]
        omega
      have hB : ((i : Nat) : Int).toNat < ([76, 68, 1] : List UInt8).length := by
        rw [show ([76, 68, 1] : List UInt8).length = 3 from rfl]
        omega
      have hC : (0 : Int) ≤ (i : Int) ∧ (i : Int) < (bs.length : Int) := by omega
      have q0 : decide ((c.toNat : Int) = (w.toNat : Int)) = decide (c.toNat = w.toNat) := by
        congr 1
        apply propext
        omega
      by_cases hcw : c.toNat = w.toNat
      · rw [if_pos hcw] at hwv
        have step := step hwv
        have n1 : ¬ (bif !decide ((c.toNat : Int) = (w.toNat : Int)) then decide ((i : Int) < 2) else false) = true := by
          rw [q0, decide_eq_true hcw]
          simp
        have n2 : ¬ (!decide ((c.toNat : Int) = (w.toNat : Int))) = true := by
          rw [q0, decide_eq_true hcw]
          simp
        have hi2 : i < 3 := by omega
        rcases hs with rfl | rfl | rfl | rfl
        all_goals try exact absurd rfl h3
        all_goals try (exact absurd hi2 (by decide))
        all_goals
          conv => whnf
          refine br_dec (fun hlt => ?_) (fun hlt => ?_)
          · simp only at hlt; omega
          conv => whnf
        all_goals repeat' first
          | (refine br_intro (fun ht => absurd ht n1) (fun ht => ?_); conv => whnf)
          | (refine br_intro (fun ht => absurd ht n2) (fun ht => ?_); conv => whnf)
          | (refine Box.mk ?_; conv => whnf)
          | (refine ⟨hC, fun z hz => ?_⟩
             have e : c = z := by
               rw [← Option.some.injEq, ← hc, ← hz]
               rfl
             subst e
             clear hz
             conv => whnf)
          | (refine ⟨hA, ?_⟩; conv => whnf)
          | (refine ⟨hB, fun z hz => ?_⟩
             have e : w = z := by
               rw [← Option.some.injEq, ← hw, ← hz]
               rfl
             subst e
             clear hz
             conv => whnf)
          | exact ⟨⟨1, by omega, step, by omega⟩, by show (_ : Nat) < _; simp only; omega, ⟨leT_refl _, leT_refl _, leT_refl _, ⟨rfl, wrapI64' (m := 1) (by omega)⟩, trivial⟩, leH_refl _, Nat.le_refl _⟩
          | exact ⟨⟨2, by omega, step, by omega⟩, by show (_ : Nat) < _; simp only; omega, ⟨leT_refl _, leT_refl _, leT_refl _, ⟨rfl, wrapI64' (m := 2) (by omega)⟩, trivial⟩, leH_refl _, Nat.le_refl _⟩
          | exact ⟨⟨3, by omega, step, by omega⟩, by show (_ : Nat) < _; simp only; omega, ⟨leT_refl _, leT_refl _, leT_refl _, ⟨rfl, wrapI64' (m := 3) (by omega)⟩, trivial⟩, leH_refl _, Nat.le_refl _⟩
          | (refine ⟨?_, trivial⟩; conv => whnf)
          | (refine ⟨?_, ?_, trivial⟩ <;> conv => whnf)
          | (refine ⟨?_, ?_, ?_, trivial⟩ <;> conv => whnf)
          | fail
      · rw [if_neg hcw] at hwv
        by_cases hi2 : i < 2
        · rw [if_pos hi2] at hwv
          have hE' := hE 70 (by rw [stop (by rw [hwv]; decide), hwv]) (by decide)
          have y1 : ¬ (bif !decide ((c.toNat : Int) = (w.toNat : Int)) then decide ((i : Int) < 2) else false) = false := by
            rw [q0, decide_eq_false hcw, decide_eq_true (by omega)]
            simp
          rcases hs with rfl | rfl | rfl | rfl
          all_goals try exact absurd rfl h3
          all_goals try (exact absurd hi2 (by decide))
          all_goals
            conv => whnf
            refine br_dec (fun hlt => ?_) (fun hlt => ?_)
            · simp only at hlt; omega
            conv => whnf
          all_goals repeat' first
            | (refine br_intro (fun ht => ?_) (fun ht => absurd ht y1); conv => whnf)
            | (refine Box.mk ?_; conv => whnf)
            | (refine ⟨hC, fun z hz => ?_⟩
               have e : c = z := by
                 rw [← Option.some.injEq, ← hc, ← hz]
                 rfl
               subst e
               clear hz
               conv => whnf)
            | (refine ⟨hA, ?_⟩; conv => whnf)
            | (refine ⟨hB, fun z hz => ?_⟩
               have e : w = z := by
                 rw [← Option.some.injEq, ← hw, ← hz]
                 rfl
               subst e
               clear hz
               conv => whnf)
            | (refine ⟨_, _, _, ?_, leH_refl _, Nat.le_refl _, hE'⟩; exact ⟨zle, ⟨rfl, rfl⟩, ⟨rfl, rfl⟩, trivial⟩)
            | (refine ⟨?_, trivial⟩; conv => whnf)
            | (refine ⟨?_, ?_, trivial⟩ <;> conv => whnf)
            | (refine ⟨?_, ?_, ?_, trivial⟩ <;> conv => whnf)
            | fail
        · rw [if_neg hi2] at hwv
          have hE' := hE 71 (by rw [stop (by rw [hwv]; decide), hwv]) (by decide)
          have n1 : ¬ (bif !decide ((c.toNat : Int) = (w.toNat : Int)) then decide ((i : Int) < 2) else false) = true := by
            rw [decide_eq_false (by omega : ¬ (i : Int) < 2)]
            cases decide ((c.toNat : Int) = (w.toNat : Int)) <;> simp
          have y2 : ¬ (!decide ((c.toNat : Int) = (w.toNat : Int))) = false := by
            rw [q0, decide_eq_false hcw]
            simp
          rcases hs with rfl | rfl | rfl | rfl
          all_goals try exact absurd rfl h3
          all_goals try (exact absurd (by decide) hi2)
          all_goals
            conv => whnf
            refine br_dec (fun hlt => ?_) (fun hlt => ?_)
            · simp only at hlt; omega
            conv => whnf
          all_goals repeat' first
            | (refine br_intro (fun ht => absurd ht n1) (fun ht => ?_); conv => whnf)
            | (refine br_intro (fun ht => ?_) (fun ht => absurd ht y2); conv => whnf)
            | (refine Box.mk ?_; conv => whnf)
            | (refine ⟨hC, fun z hz => ?_⟩
               have e : c = z := by
                 rw [← Option.some.injEq, ← hc, ← hz]
                 rfl
               subst e
               clear hz
               conv => whnf)
            | (refine ⟨hA, ?_⟩; conv => whnf)
            | (refine ⟨hB, fun z hz => ?_⟩
               have e : w = z := by
                 rw [← Option.some.injEq, ← hw, ← hz]
                 rfl
               subst e
               clear hz
               conv => whnf)
            | (refine ⟨_, _, _, ?_, leH_refl _, Nat.le_refl _, hE'⟩; exact ⟨zle, ⟨rfl, rfl⟩, ⟨rfl, rfl⟩, trivial⟩)
            | (refine ⟨?_, trivial⟩; conv => whnf)
            | (refine ⟨?_, ?_, trivial⟩ <;> conv => whnf)
            | (refine ⟨?_, ?_, ?_, trivial⟩ <;> conv => whnf)
            | fail
  case pos =>
    subst h3
    clear hs step
    have hE3 : ∀ e : Nat, nextE bs = e → ¬ e = 0 → ∃ v' hp' nx', leT (packV [V.agg [.int .u8 0, .int .u32 0, .int .u32 0, .int .u64 0, .int .u8 0, .int .u32 0, .str [], .str [], .int .u8 0, .int .u8 0, .bool false, .int .u8 0, .int .u16 0, .nils, .int .u32 0, .nils, .int .u16 0, .int .u16 0, .nils, .nils, .nils, .int .u32 0, .int .u32 0, .nils, .int .u64 0, .nils, .nils, .nils], .int .i64 0, .int .i64 (e : Int)]) v' ∧ leH [] hp' ∧ 0 ≤ nx' ∧ K v' hp' nx' := fun e h h0 => by
      refine ⟨_, _, _, ?_, leH_refl _, Nat.le_refl _, hE e h h0⟩
      exact ⟨zle, ⟨rfl, rfl⟩, ⟨rfl, rfl⟩, trivial⟩
    conv => whnf
    refine br_dec (fun hl => ?_) (fun hl => ?_)
    · have hl : bs.length = 3 := by omega
      conv => whnf
      exact hE3 40 (none_ (by omega) (by omega)) (by decide)
    have hl : ¬ bs.length = 3 := by omega
    obtain ⟨c, hc⟩ : ∃ t, bs[3]? = some t := ⟨_, List.getElem?_eq_getElem (by omega)⟩
    have hc2 := c.toNat_lt
    have hC : (0 : Int) ≤ 3 ∧ (3 : Int) < (bs.length : Int) := by omega
    have hh3 : hdrF bs 4 0 = if c.toNat < 1 ∨ 24 < c.toNat then 61 else 0 := by
      rw [hh]
      show hdrF bs 1 3 = _
      rw [hdrF, hc]
      by_cases h : c.toNat < 1 ∨ 24 < c.toNat <;> simp [hdrE, h, hdrF]
    conv => whnf
    refine ⟨hC, fun z hz => ?_⟩
    have e : c = z := by
      rw [← Option.some.injEq, ← hc, ← hz]
      rfl
    subst e
    clear hz
    by_cases hlo : c.toNat < 1
    · have hE' := hE3 61 (by rw [if_pos (Or.inl hlo)] at hh3; unfold nextE; rw [hh3]; rfl) (by decide)
      have y1 : ¬ decide ((c.toNat : Int) < 1) = false := by rw [decide_eq_true (by omega)]; simp
      conv => whnf
      refine br_intro (fun ht => ?_) (fun ht => absurd ht y1)
      conv => whnf
      exact hE'
    have hlo' : ¬ decide ((c.toNat : Int) < 1) = true := by rw [decide_eq_false (by omega)]; simp
    conv => whnf
    refine br_intro (fun ht => absurd ht hlo') (fun ht => ?_)
    conv => whnf
    refine ⟨hC, fun z hz => ?_⟩
    have e : c = z := by
      rw [← Option.some.injEq, ← hc, ← hz]
      rfl
    subst e
    clear hz
    refine br_dec (fun ht => ?_) (fun ht => ?_)
    · have hhi : 24 < c.toNat := by omega
      conv => whnf
      exact hE3 61 (by rw [if_pos (Or.inr hhi)] at hh3; unfold nextE; rw [hh3]; rfl) (by decide)
    have hhi : ¬ 24 < c.toNat := by omega
    rw [if_neg (by omega)] at hh3
    have hv := vget_lt (bs.drop 4)
    have hve := vget_err (bs.drop 4)
    have hvl : (bs.drop 4).length = bs.length - 4 := by simp
    have hne : nextE bs = (if (frV bs).2.2 = 41 then 41 else if ¬ (frV bs).2.2 = 0 then 40 else if 4096 < (frV bs).1 then 72 else if bs.length < frTo bs + 4 then 40
        else if be32 (crcMore 0 (bs.take (frTo bs))) = (bs.drop (frTo bs)).take 4 then 0 else 73) := by
      unfold nextE; rw [if_neg (by rw [hh3]; simp)]
    have hto : frTo bs = 4 + (frV bs).2.1 + (frV bs).1 := rfl
    have hfg : frGet bs = mGet c.toNat ((bs.take (frTo bs)).drop (4 + (frV bs).2.1)) := by
      unfold frGet
      rw [List.getD_eq_getElem?_getD, hc]
      rfl
    conv => whnf
    refine ⟨⟨by omega, by omega, by omega, by omega⟩, ?_⟩
    conv => whnf
    refine call_rule [] ?_
    conv => whnf
    have hfv0 : frV bs = vget (bs.drop 4) := rfl
    refine dget_ob p (bs.drop 4) (by omega) _ ?_
    generalize hgv : vget (bs.drop 4) = g at hv hve
    have hfv : frV bs = g := hgv
    rw [hfv] at hne hto hfg
    clear hfv0
    obtain ⟨n, used, e⟩ := g
    simp only at hv hve hne hto hfg
    conv => whnf
    refine br_intro (fun h0 => ?_) (fun h0 => ?_)
    · have h0 : ¬ e = 0 := by simp at h0; omega
      have he : nextE bs = e := by
        rw [hne]
        rcases hve with rfl | rfl | rfl
        · exact absurd rfl h0
        · rfl
        · rfl
      conv => whnf
      exact hE3 e he h0
    have h0 : e = 0 := by simp at h0; omega
    rw [if_neg (by omega), if_neg (by omega)] at hne
    conv => whnf
    refine br_dec (fun h72 => ?_) (fun h72 => ?_)
    · have h72 : 4096 < n := by omega
      rw [if_pos h72] at hne
      conv => whnf
      exact hE3 72 hne (by decide)
    have h72 : ¬ 4096 < n := by omega
    rw [if_neg h72] at hne
    have w1 : IntKind.i64.wrap (4 + (used : Int)) = ((4 + used : Nat) : Int) := by rw [wrapI64 _ (by omega) (by omega)]; omega
    have w2 : IntKind.i64.wrap (n : Int) = ((n : Nat) : Int) := wrapI64' (by omega)
    have w3 : IntKind.i64.wrap (((4 + used : Nat) : Int) + (n : Int)) = ((frTo bs : Nat) : Int) := by rw [wrapI64 _ (by omega) (by omega)]; omega
    have w4 : IntKind.i64.wrap (((frTo bs : Nat) : Int) + 4) = ((frTo bs + 4 : Nat) : Int) := by rw [wrapI64 _ (by omega) (by omega)]; omega
    simp only [w1, w2, w3, w4]
    conv => whnf
    simp only [w1, w2, w3, w4]
    refine br_dec (fun hl2 => ?_) (fun hl2 => ?_)
    · have hl2 : bs.length < frTo bs + 4 := by omega
      rw [if_pos hl2] at hne
      conv => whnf
      exact hE3 40 hne (by decide)
    have hl2 : ¬ bs.length < frTo bs + 4 := by omega
    rw [if_neg hl2] at hne
    have e9 : (bs.take (frTo bs + 4)).drop (frTo bs) = (bs.drop (frTo bs)).take 4 := by
      rw [List.drop_take]
      congr 1
      omega
    have e7 : (bs.take (frTo bs)).drop (4 + used) = (bs.take (frTo bs)).drop (4 + used) := rfl
    have hS : ∃ S, S = crcMore 0 (bs.take (frTo bs)) := ⟨_, rfl⟩
    obtain ⟨S, hS⟩ := hS
    rw [← hS] at hne
    conv => whnf
    repeat' first
      | (refine ⟨⟨by omega, by omega, by omega, by omega⟩, ?_⟩; conv => whnf)
      | (refine call_rule [] ?_
         conv => whnf
         refine rsum_ob p (bs.take (frTo bs)) (by simp; omega) _ ?_
         rw [← hS]
         conv => whnf)
      | (refine ⟨be32 S, rfl, ?_⟩; conv => whnf)
      | (refine ⟨(bs.drop (frTo bs)).take 4, (by show List.map encB ((bs.take (IntKind.i64.wrap (((frTo bs : Nat) : Int) + 4)).toNat).drop ((frTo bs : Nat) : Int).toNat) = _; rw [w4]; exact congrArg _ e9), ?_⟩; conv => whnf)
      | (refine ⟨?_, trivial⟩; conv => whnf)
      | (refine ⟨?_, ?_, trivial⟩ <;> conv => whnf)
      | fail
    all_goals
      cases hq : (be32 S == (bs.drop (frTo bs)).take 4)
      · rw [if_neg (by intro h; rw [h] at hq; simp at hq)] at hne
        conv => whnf
        exact hE3 73 hne (by decide)
      rw [if_pos (by simpa using hq)] at hne
      have hK2 := hK
      unfold first at hK2
      rw [if_neg (by rw [hne]; simp), hfg] at hK2
      have hcall := dread_ob p c.toNat ((bs.take (frTo bs)).drop (4 + used)) (by simp; omega)
      generalize mGet c.toNat ((bs.take (frTo bs)).drop (4 + used)) = r at hcall hK2
      have e8 : List.drop (IntKind.i64.wrap (4 + (used : Int))).toNat (List.take ((frTo bs : Nat) : Int).toNat bs) = (bs.take (frTo bs)).drop (4 + used) := by
        rw [w1]
        rfl
      rw [← e8] at hcall
      obtain ⟨x, f⟩ := r
      simp only at hcall hK2
      clear hE hE3 hK hfg
      conv => whnf
      repeat' first
        | (refine Box.mk ?_; conv => whnf)
        | (refine ⟨hC, fun z hz => ?_⟩
           have e : c = z := by
             rw [← Option.some.injEq, ← hc, ← hz]
             rfl
           subst e
           clear hz
           conv => whnf)
        | (refine ⟨⟨by omega, by omega, by omega, by omega⟩, ?_⟩; conv => whnf)
        | (refine call_rule [] ?_
           conv => whnf
           refine hcall _ ?_
           conv => whnf)
        | (refine ⟨?_, trivial⟩; conv => whnf)
        | (refine ⟨?_, ?_, trivial⟩ <;> conv => whnf)
        | (refine ⟨?_, ?_, ?_, trivial⟩ <;> conv => whnf)
        | (refine ⟨?_, ?_, ?_, ?_, trivial⟩ <;> conv => whnf)
        | fail
    all_goals
      refine br_dec (fun hq => ?_) (fun hq => ?_)
      · have hq : f = 40 := by omega
        rw [if_pos (by omega), if_pos hq] at hK2
        conv => whnf
        refine ⟨_, _, _, ?_, leH_refl _, Nat.le_refl _, hK2⟩
        exact ⟨zle, ⟨rfl, rfl⟩, ⟨rfl, rfl⟩, trivial⟩
      have hq : ¬ f = 40 := by omega
      conv => whnf
      refine br_intro (fun h9 => ?_) (fun h9 => ?_)
      · have h9 : ¬ f = 0 := by simp at h9; omega
        rw [if_pos h9, if_neg hq] at hK2
        conv => whnf
        refine ⟨_, _, _, ?_, leH_refl _, Nat.le_refl _, hK2⟩
        exact ⟨zle, ⟨rfl, rfl⟩, ⟨rfl, rfl⟩, trivial⟩
      · have h9 : f = 0 := by simp at h9; omega
        rw [if_neg (by omega)] at hK2
        conv => whnf
        refine ⟨_, _, _, ?_, leH_refl _, Nat.le_refl _, hK2⟩
        exact ⟨leFs_refl _, ⟨rfl, w4⟩, ⟨rfl, rfl⟩, trivial⟩

end Go.Sx
end

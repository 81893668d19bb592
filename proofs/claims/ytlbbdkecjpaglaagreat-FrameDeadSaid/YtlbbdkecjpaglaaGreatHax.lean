/- FrameDead's contract; no condition. -/
import Derived.Test.YtlbbdkecjpaglaaGreatHaw

set_option linter.all false

section
open Go.Proofs
namespace Go.Sx
set_option linter.unusedVariables false

set_option maxRecDepth 8000 in
theorem feedDead_ob (p : Bool) (bs cs : List UInt8) (why : Nat) (hw : ¬ why = 0) (k : Bool) (K : Post) (hK : K (.tup []) (frR bs why k) 3) : CallOb Tryz.prog 12 [.ptr 0 0, .isl p 1 encB cs] (frR bs why k) 3 K := by
  refine contract TryztabOk Tryz.checked.mixed Tryz.func12 rfl Tryz.call12 [0, 1, 2] [] [] (res0 Tryz.results12) Tryz.ntmps12 rfl ?_
  conv => whnf
  refine br_dec (fun h => ?_) (fun h => ?_)
  · omega
  conv => whnf
  exact ⟨_, _, _, leT_refl _, leH_refl _, Nat.le_refl _, hK⟩

set_option maxRecDepth 8000 in
theorem nextDead_ob (bs : List UInt8) (why : Nat) (hw : ¬ why = 0) (k : Bool) (K : Post) (hK : K (.tup [.agg zc, .int .i64 (why : Int)]) (frR bs why k) 3) : CallOb Tryz.prog 13 [.ptr 0 0] (frR bs why k) 3 K := by
  refine contractC TryztabOk Tryz.checked.mixed Tryz.func13 rfl Tryz.call13 [0, 1, 2] [] [.cell 2 37, .tmp 3] (resC2 Tryz.results13) Tryz.ntmps13 rfl ?_
  conv => whnf
  refine br_intro (fun h => ?_) (fun h => ?_)
  · conv => whnf
    repeat' first
      | (refine ⟨_, _, _, ?_, leH_refl _, Nat.le_refl _, hK⟩; exact ⟨zle, ⟨rfl, rfl⟩, trivial⟩)
      | (refine ⟨?_, trivial⟩; conv => whnf)
      | (refine ⟨?_, ?_, trivial⟩ <;> conv => whnf)
      | fail
  · exfalso
    simp at h
    omega

set_option maxRecDepth 8000 in
theorem waits_ob (bs : List UInt8) (why : Nat) (k : Bool) (K : Post) (hK : K (.int .i64 (bs.length : Int)) (frR bs why k) 3) : CallOb Tryz.prog 19 [.ptr 0 0] (frR bs why k) 3 K := by
  refine contract TryztabOk Tryz.checked.mixed Tryz.func19 rfl Tryz.call19 [0, 1, 2] [] [2] (res1 Tryz.results19) Tryz.ntmps19 rfl ?_
  conv => whnf
  exact ⟨_, _, _, leT_refl _, leH_refl _, Nat.le_refl _, hK⟩

theorem zero_ok : (Msg.zero 0).Ok := by
  constructor <;> simp [Msg.zero, TextsOk]
  constructor <;> simp

abbrev DeadT (why : Nat) : Type := { x : List UInt8 × Bool // (allG x.1).2.1 = why ∧ x.1.length ≤ 5000 } ⊕ ({ x : List UInt8 × Bool // why = 40 } ⊕ { x : Bool // ¬ why = 0 ∧ ¬ why = 40 })

def deadI (why : Nat) (l : List Msg) : DeadT why → List V
  | .inl x => [.isl true 28 encMsg l, .ptr 0 0, .int .i64 (why : Int), .int .i64 0]
  | .inr (.inl x) => [.isl true 28 encMsg l, .ptr 0 0, .int .i64 (why : Int), .int .i64 40]
  | .inr (.inr x) => [.isl true 28 encMsg l, .ptr 0 0, .int .i64 (why : Int), .int .i64 (why : Int)]

def deadH (why : Nat) : DeadT why → Hp
  | .inl x => frR x.1.1 0 x.1.2
  | .inr (.inl x) => frR x.1.1 0 x.1.2
  | .inr (.inr x) => frR [] why x.1

def deadM (why : Nat) : DeadT why → Nat
  | .inl x => x.1.1.length + 1
  | .inr _ => 0

set_option maxHeartbeats 2000000 in
set_option maxRecDepth 8000 in
theorem frameDead_ob (bs : List UInt8) (l : List Msg) (hl : ∀ m ∈ l, m.Raw) (hll : l.length ≤ 9223372036854775807) (K : Post) (hK : K (.bool true) [] 0) : CallOb Tryz.prog 6 [.isl true 1 encB bs, .isl true 28 encMsg l] [] 0 K := by
  refine contract TryztabOk Tryz.checked.mixed Tryz.func6 rfl Tryz.call6 [] [] [4] (res1 Tryz.results6) Tryz.ntmps6 rfl ?_
  conv => whnf
  refine call_rule [] ?_
  conv => whnf
  refine alive_ob _ ?_
  conv => whnf
  refine br_dec (fun h => ?_) (fun h => ?_)
  · conv => whnf
    exact ⟨_, _, _, leT_refl _, leH_refl _, Nat.le_refl _, hK⟩
  have hbl : bs.length ≤ 5000 := by omega
  conv => whnf
  refine call_rule [] ?_
  conv => whnf
  refine frNew_ob _ ?_
  conv => whnf
  refine call_rule [] ?_
  conv => whnf
  refine feed_ob true [] bs (by simp) (by omega) false _ ?_
  conv => whnf
  refine call_rule [] ?_
  conv => whnf
  refine dall_ob true bs (by omega) _ ?_
  conv => whnf
  generalize hwhy : (allG bs).2.1 = why
  refine loop_rule TryztabOk Tryz.checked.mixed [1, 5, 7, 9] [] [] (T := DeadT why) (deadI why l) (deadH why) 3 (deadM why) (.inl ⟨(bs, false), hwhy, hbl⟩) rfl rfl ?_ ?_
  · conv => whnf
    exact ⟨leTs_refl _, leH_refl _, Nat.le_refl _⟩
  rintro (⟨⟨cs, k⟩, h1, h2⟩ | ⟨⟨cs, k⟩, h1⟩ | ⟨k, h2, h3⟩)
  · simp only at h1 h2
    conv => whnf
    refine call_rule [] ?_
    conv => whnf
    refine next2_ob cs (by omega) k _ (fun k' => ?_)
    rw [allG_eq] at h1
    have hfl := @first_len cs
    unfold nxtB nxtW
    generalize first cs = r at h1 hfl ⊢
    obtain ⟨m, n, e⟩ := r
    simp only at h1 hfl ⊢
    by_cases e40 : e = 40
    · subst e40
      rw [if_pos rfl] at h1
      simp only [if_true]
      conv => whnf
      exact ⟨.inr (.inl ⟨(cs, k'), h1.symm⟩), Nat.succ_pos _, leTs_refl _, leH_refl _, Nat.le_refl _⟩
    rw [if_neg e40] at h1
    by_cases e0 : e = 0
    · subst e0
      rw [if_neg (by omega)] at h1
      have hfl := hfl rfl
      simp only [if_neg e40, if_true]
      conv => whnf
      refine ⟨.inl ⟨(cs.drop n, k'), h1, by simp; omega⟩, ?_, leTs_refl _, leH_refl _, Nat.le_refl _⟩
      show (cs.drop n).length + 1 < cs.length + 1
      simp
      omega
    rw [if_pos e0] at h1
    simp only [if_neg e40, if_neg e0]
    have h1 : e = why := h1
    subst h1
    conv => whnf
    exact ⟨.inr (.inr ⟨k', e0, e40⟩), Nat.succ_pos _, leTs_refl _, leH_refl _, Nat.le_refl _⟩
  · subst h1
    conv => whnf
    exact ⟨_, _, _, leT_refl _, leH_refl _, Nat.le_refl _, hK⟩
  · conv => whnf
    refine br_dec (fun h => ?_) (fun h => ?_)
    · omega
    conv => whnf
    refine br_intro (fun h => ?_) (fun h => ?_)
    · simp at h
    conv => whnf
    refine br_dec (fun h => ?_) (fun h => ?_)
    · omega
    conv => whnf
    refine loop_rule TryztabOk Tryz.checked.mixed [1, 5, 9, 10] [] [] (T := { i : Nat // i ≤ l.length ∧ i ≤ 5 }) (fun x => [.isl true 28 encMsg l, .ptr 0 0, .int .i64 (why : Int), .int .i64 (x.1 : Int)]) (fun x => frR [] why k) 3 (fun x => 5 - x.1) ⟨0, by omega, by omega⟩ rfl rfl ?_ ?_
    · conv => whnf
      exact ⟨leTs_refl _, leH_refl _, Nat.le_refl _⟩
    rintro ⟨i, i1, i2⟩
    conv => whnf
    refine br_intro (fun h => ?_) (fun h => ?_)
    rotate_left
    · conv => whnf
      exact ⟨_, _, _, leT_refl _, leH_refl _, Nat.le_refl _, hK⟩
    have h' : i < l.length ∧ i < 5 := by
      revert h
      by_cases a : i < l.length <;> by_cases b : i < 5 <;> simp [a, b] <;> omega
    obtain ⟨m, hm⟩ : ∃ m, l[i]? = some m := ⟨_, List.getElem?_eq_getElem h'.1⟩
    have hraw := hl m (List.mem_of_getElem? hm)
    have hC : (0 : Int) ≤ (i : Int) ∧ (i : Int) < (l.length : Int) := by omega
    conv => whnf
    refine ⟨hC, fun z hz => ?_⟩
    have e : m = z := by
      rw [← Option.some.injEq, ← hm, ← hz]
      rfl
    subst e
    clear hz
    conv => whnf
    refine call_rule [] ?_
    conv => whnf
    refine great_ob m hraw _ (fun b hb => ?_)
    cases b
    case true =>
      conv => whnf
      exact ⟨_, _, _, leT_refl _, leH_refl _, Nat.le_refl _, hK⟩
    have hok := hb rfl
    conv => whnf
    refine ⟨hC, fun z hz => ?_⟩
    have e : m = z := by
      rw [← Option.some.injEq, ← hm, ← hz]
      rfl
    subst e
    clear hz
    conv => whnf
    refine call_rule [] ?_
    conv => whnf
    refine fencode_ob m hok _ (fun hn => ?_) (fun bs' hs hl => ?_) (fun bs' hs hl => ?_)
    · conv => whnf
      refine call_rule [] ?_
      conv => whnf
      refine CallOb.le (feedDead_ob true [] [] why h2 k _ ?_) ⟨leT_refl _, rfl, trivial⟩ (leH_refl _)
      conv => whnf
      refine call_rule [] ?_
      conv => whnf
      refine nextDead_ob [] why h2 k _ ?_
      conv => whnf
      repeat' first
        | (refine call_rule [] ?_
           conv => whnf
           refine CallOb.le (same_ob (Msg.zero 0) (Msg.zero 0) zero_ok _ (fun b hb => ?_)) ⟨leT_refl _, zle, trivial⟩ trivial
           have hb := hb.2 rfl
           subst hb
           conv => whnf)
        | (refine br_intro (fun h => absurd h (by simp)) (fun h => ?_); conv => whnf)
        | fail
      refine call_rule [] ?_
      conv => whnf
      refine waits_ob [] why k _ ?_
      conv => whnf
      refine ⟨⟨i + 1, by omega, by omega⟩, ?_, ⟨leT_refl _, leT_refl _, leT_refl _, ⟨rfl, wrapI64' (m := i + 1) (by omega)⟩, trivial⟩, leH_refl _, Nat.le_refl _⟩
      show 5 - (i + 1) < 5 - i
      omega
    · conv => whnf
      refine call_rule [] ?_
      conv => whnf
      refine CallOb.le (feedDead_ob true [] [] why h2 k _ ?_) ⟨leT_refl _, rfl, trivial⟩ (leH_refl _)
      conv => whnf
      refine call_rule [] ?_
      conv => whnf
      refine nextDead_ob [] why h2 k _ ?_
      conv => whnf
      repeat' first
        | (refine call_rule [] ?_
           conv => whnf
           refine CallOb.le (same_ob (Msg.zero 0) (Msg.zero 0) zero_ok _ (fun b hb => ?_)) ⟨leT_refl _, zle, trivial⟩ trivial
           have hb := hb.2 rfl
           subst hb
           conv => whnf)
        | (refine br_intro (fun h => absurd h (by simp)) (fun h => ?_); conv => whnf)
        | fail
      refine call_rule [] ?_
      conv => whnf
      refine waits_ob [] why k _ ?_
      conv => whnf
      refine ⟨⟨i + 1, by omega, by omega⟩, ?_, ⟨leT_refl _, leT_refl _, leT_refl _, ⟨rfl, wrapI64' (m := i + 1) (by omega)⟩, trivial⟩, leH_refl _, Nat.le_refl _⟩
      show 5 - (i + 1) < 5 - i
      omega
    · generalize frBytes m.kind bs' = F
      conv => whnf
      refine call_rule [true, false] ?_
      conv => whnf
      refine feedDead_ob false [] F why h2 k _ ?_
      conv => whnf
      refine ⟨⟨trivial, trivial⟩, ⟨trivial, fun x _ => .flat _ rfl, trivial, fun x _ => .flat _ rfl, trivial⟩, ?_⟩
      conv => whnf
      refine call_rule [] ?_
      conv => whnf
      refine nextDead_ob [] why h2 k _ ?_
      conv => whnf
      repeat' first
        | (refine call_rule [] ?_
           conv => whnf
           refine CallOb.le (same_ob (Msg.zero 0) (Msg.zero 0) zero_ok _ (fun b hb => ?_)) ⟨leT_refl _, zle, trivial⟩ trivial
           have hb := hb.2 rfl
           subst hb
           conv => whnf)
        | (refine br_intro (fun h => absurd h (by simp)) (fun h => ?_); conv => whnf)
        | fail
      refine call_rule [] ?_
      conv => whnf
      refine waits_ob [] why k _ ?_
      conv => whnf
      refine ⟨⟨i + 1, by omega, by omega⟩, ?_, ⟨leT_refl _, leT_refl _, leT_refl _, ⟨rfl, wrapI64' (m := i + 1) (by omega)⟩, trivial⟩, leH_refl _, Nat.le_refl _⟩
      show 5 - (i + 1) < 5 - i
      omega

end Go.Sx
end

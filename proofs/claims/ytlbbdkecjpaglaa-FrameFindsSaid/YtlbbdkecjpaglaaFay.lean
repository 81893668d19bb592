/- FrameDead's contract; no condition. -/
import Derived.Test.YtlbbdkecjpaglaaFax

set_option linter.all false

section
open Go.Proofs
namespace Go.Sx
set_option linter.unusedVariables false

set_option maxRecDepth 8000 in
theorem feedDead_ob (p : Bool) (bs cs : List UInt8) (why : Nat) (hw : ¬ why = 0) (k : Bool) (K : Post) (hK : K (.tup []) (frR bs why k) 3) : CallOb Try.prog 8 [.ptr 0 0, .isl p 1 encB cs] (frR bs why k) 3 K := by
  refine contract TrytabOk Try.checked.mixed Try.func8 rfl Try.call8 [0, 1, 2] [] [] (res0 Try.results8) Try.ntmps8 rfl ?_
  conv => whnf
  refine br_dec (fun h => ?_) (fun h => ?_)
  · omega
  conv => whnf
  exact ⟨_, _, _, leT_refl _, leH_refl _, Nat.le_refl _, hK⟩

set_option maxRecDepth 8000 in
theorem nextDead_ob (bs : List UInt8) (why : Nat) (hw : ¬ why = 0) (k : Bool) (K : Post) (hK : K (.tup [.agg zc, .int .i64 (why : Int)]) (frR bs why k) 3) : CallOb Try.prog 9 [.ptr 0 0] (frR bs why k) 3 K := by
  refine contractC TrytabOk Try.checked.mixed Try.func9 rfl Try.call9 [0, 1, 2] [] [.cell 2 42, .tmp 3] (resC2 Try.results9) Try.ntmps9 rfl ?_
  conv => whnf
  refine br_intro (fun h => ?_) (fun h => ?_)
  · conv => whnf
    repeat' first
      | (refine ⟨_, _, _, ?_, leH_refl _, Nat.le_refl _, hK⟩; exact ⟨zle, ⟨rfl, rfl⟩, trivial⟩)
      | (refine ⟨?_, trivial⟩; conv => whnf)
      | (refine ⟨?_, ?_, trivial⟩ <;> conv => whnf)
      | fail
  · exfalso
    simp at h
    omega

set_option maxRecDepth 8000 in
theorem waits_ob (bs : List UInt8) (why : Nat) (k : Bool) (K : Post) (hK : K (.int .i64 (bs.length : Int)) (frR bs why k) 3) : CallOb Try.prog 11 [.ptr 0 0] (frR bs why k) 3 K := by
  refine contract TrytabOk Try.checked.mixed Try.func11 rfl Try.call11 [0, 1, 2] [] [2] (res1 Try.results11) Try.ntmps11 rfl ?_
  conv => whnf
  exact ⟨_, _, _, leT_refl _, leH_refl _, Nat.le_refl _, hK⟩

theorem zero_ok : (Msg.zero 0).Ok := by
  constructor <;> simp [Msg.zero, TextsOk]
  constructor <;> simp

abbrev DeadT (why : Nat) : Type := { x : List UInt8 × Bool // (allG x.1).2.1 = why ∧ x.1.length ≤ 5000 } ⊕ ({ x : List UInt8 × Bool // why = 40 } ⊕ { x : Bool // ¬ why = 0 ∧ ¬ why = 40 })

def deadI (why : Nat) (l : List Msg) : DeadT why → List V
  | .inl x => [.isl true 28 encMsg l, .ptr 0 0, .int .i64 (why : Int), .int .i64 0]
  | .inr (.inl x) => [.isl true 28 encMsg l, .ptr 0 0, .int .i64 (why : Int), .int .i64 40]
  | .inr (.inr x) => [.isl true 28 encMsg l, .ptr 0 0, .int .i64 (why : Int), .int .i64 (why : Int)]

def deadH (why : Nat) : DeadT why → Hp
  | .inl x => frR x.1.1 0 x.1.2
  | .inr (.inl x) => frR x.1.1 0 x.1.2
  | .inr (.inr x) => frR [] why x.1

def deadM (why : Nat) : DeadT why → Nat
  | .inl x => x.1.1.length + 1
  | .inr _ => 0

end Go.Sx
end

/- lodestarref07.First; no condition. -/
import Derived.Test.YtlbbdkecjpaglaaFau

set_option linter.all false

section
open Go.Proofs
namespace Go.Sx
set_option linter.unusedVariables false

theorem vgetL_err : ∀ (bs : List UInt8) (i n : Nat), (vgetL i n bs).2.2 = 0 ∨ (vgetL i n bs).2.2 = 40 ∨ (vgetL i n bs).2.2 = 41
  | [], i, n => by simp [vgetL]
  | c :: r, i, n => by
    unfold vgetL
    repeat' split
    all_goals first
      | exact vgetL_err r _ _
      | simp

theorem vget_err (bs : List UInt8) : (vget bs).2.2 = 0 ∨ (vget bs).2.2 = 40 ∨ (vget bs).2.2 = 41 := vgetL_err bs 0 0

def frGet (bs : List UInt8) : Msg × Nat := mGet (bs.getD 3 0).toNat ((bs.take (frTo bs)).drop (4 + (frV bs).2.1))

/-- the first message that bytes begin with, how many bytes it has; an error's number -/
def first (bs : List UInt8) : Msg × Nat × Nat :=
  if ¬ nextE bs = 0 then (Msg.zero 0, 0, nextE bs) else if ¬ (frGet bs).2 = 0 then (Msg.zero 0, 0, if (frGet bs).2 = 40 then 62 else (frGet bs).2) else ((frGet bs).1, frTo bs + 4, 0)

theorem first_e {bs : List UInt8} {e : Nat} (h : nextE bs = e) (h0 : ¬ e = 0) : first bs = (Msg.zero 0, 0, e) := by
  subst h
  unfold first
  rw [if_pos h0]

end Go.Sx
end

/- message.fields, Put; no condition. -/
import Derived.Test.YtlbbdkecjpaglaaFag

set_option linter.all false

section
open Go.Proofs
namespace Go.Sx
set_option linter.unusedVariables false
attribute [local irreducible] br

/-- a message's fields, by its kind -/
def mFields (k : Nat) : List UInt8 × Bool :=
  if k = 1 then ([99], true) else if k = 2 then ([99, 116, 110], true) else if k = 3 then ([116, 110], true)
  else if k = 4 ∨ k = 7 ∨ k = 8 ∨ k = 9 ∨ k = 10 then ([110], true) else if k = 5 ∨ k = 6 then ([101], true)
  else if k = 11 then ([114, 67], true) else if k = 12 ∨ k = 20 then ([114, 78], true) else if k = 13 then ([114], true)
  else if k = 14 then ([114, 78, 76], true) else if k = 15 then ([114, 78, 105], true) else if k = 16 then ([114, 78, 118, 107, 119, 102], true)
  else if k = 17 then ([114, 78, 118, 102], true) else if k = 18 then ([114, 117, 112, 107], true) else if k = 19 ∨ k = 22 ∨ k = 23 then ([114, 117], true)
  else if k = 21 then ([114, 117, 112, 98], true) else if k = 24 then ([114, 101, 86, 117, 83, 73, 72], true) else ([], false)

set_option maxRecDepth 4000 in
theorem fields_ob (k : Nat) (K : Post) (hK : K (.tup [.str (mFields k).1, .bool (mFields k).2]) [] 0) : CallOb Try.prog 27 [.int .u8 k] [] 0 K := by
  refine contract TrytabOk Try.checked.mixed Try.func27 rfl Try.call27 [] [] [2, 3] (res2 Try.results27) Try.ntmps27 rfl ?_
  conv => whnf
  repeat' first
    | (refine br_dec (fun h => ?_) (fun h => ?_) <;> conv => whnf)
    | (refine br_intro (fun h => ?_) (fun h => ?_) <;> conv => whnf)
  all_goals first
    | omega
    | (unfold mFields at hK
       repeat first | rw [if_pos (by omega)] at hK | rw [if_neg (by omega)] at hK
       exact ⟨_, _, _, leT_refl _, leH_refl _, Nat.le_refl _, hK⟩)

end Go.Sx
end

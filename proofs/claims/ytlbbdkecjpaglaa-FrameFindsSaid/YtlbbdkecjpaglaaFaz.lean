/- FrameDead: a reader that has told an error tells it for ever, whatever comes, and keeps nothing. No condition. -/
import Derived.Test.YtlbbdkecjpaglaaFay

set_option linter.all false

section
namespace Go.Sx
open Go.Proofs Go.ChangeShapes Go.WideShapes Go.ChangeAt Go.RowKit
open Go.Proofs.Ytlbbdkecjpaglaa
set_option linter.unusedVariables false
set_option maxRecDepth 100000

section
variable {H : Type} {enc : TypeId × Value → H}

theorem arg_slice {W : World} {base : Nat} {v : Value} {d : DataW H} {p : List MemPlace} {t e : TypeId} {α : Type} {ee : α → V} {sz : Nat} {ok : List α → Prop} (ht : Try.prog.underlying t = some (.slice e)) (hr : Rd enc Try.prog W t 1 (fun xs => V.isl true sz ee xs) ok)
    (hok : Value.okWide Try.prog W .any base t v) (h : DataW.Trod enc Try.prog W 0 (fun _ => true) true t v d p) : ∃ xs : List α, ok xs ∧ Arg W (.isl true sz ee xs) v := by
  obtain ⟨a, l, c, rfl⟩ := okWide_slice ht hok
  exact arg_flat hr rfl h (fun _ => rfl)

theorem rd_msgs {W : World} : Rd enc Try.prog W 22 1 (fun xs => V.isl true 28 encMsg xs) (fun xs => (∀ x ∈ xs, x.Raw) ∧ xs.length ≤ 9223372036854775807) := rd_slice (ee := encMsg) Try.underlying22 (by kernel_rfl) (by decide) rd_msg
end

theorem z_read33 : Try.prog.readableRec 26 = true := by kernel_rfl
theorem z_row33 : 26 < Try.prog.types.size := Nat.le_of_ble_eq_true (n := 27) (by kernel_rfl)
theorem z_read56 : Try.prog.readableRec 22 = true := by kernel_rfl
theorem z_row56 : 22 < Try.prog.types.size := Nat.le_of_ble_eq_true (n := 23) (by kernel_rfl)

end Go.Sx

namespace Go.Proofs.Ytlbbdkecjpaglaa
open Go.Sx

end Go.Proofs.Ytlbbdkecjpaglaa
end

/- FrameFinds: frames that are encoded, one behind the other, are found in order, in whatever pieces; nothing is left. No condition. (Numbers of the plain seat.) -/
import Derived.Test.YtlbbdkecjpaglaaFbb

set_option linter.all false

section
namespace Go.Sx
open Go.Proofs Go.ChangeShapes Go.WideShapes Go.ChangeAt Go.RowKit
open Go.Proofs.Ytlbbdkecjpaglaa
set_option linter.unusedVariables false
set_option maxRecDepth 100000

theorem p_read22 : Try.prog.readableRec 22 = true := by kernel_rfl
theorem p_row22 : 22 < Try.prog.types.size := Nat.le_of_ble_eq_true (n := 23) (by kernel_rfl)
theorem p_read5 : Try.prog.readableRec 5 = true := by kernel_rfl
theorem p_row5 : 5 < Try.prog.types.size := Nat.le_of_ble_eq_true (n := 6) (by kernel_rfl)

theorem finds_lifted (os : Os) (started : os.Started) (H : Type) (enc : TypeId × Value → H) :
    ReturnsInHanded {} Try.checked os 3 .any (Rows.frameFindsSpec.pre6 enc Try.prog Try.f3 Rows.frameFindsRow.domain false) (Rows.frameFindsSpec.post enc Try.prog Try.f3 false true false false) := by
  refine returnsInHanded_of_change (C := Try.checked) z_own started (by kernel_rfl) Try.func3
    (ChangeSpec.witness6 (enc := enc) (C := Try.checked) false ⟨#[], #[.slice none 0 0, .int .u8 0], []⟩ 8 (by kernel_rfl) (by kernel_rfl) (by kernel_rfl) (by kernel_rfl)) ?_
  intro W base args ds gs before hval0 hW hcnd _
  have hval : ∀ (j : Nat) t v, Try.f3.params[j]? = some t → args[j]? = some v → Value.okWide Try.prog W .any base t v := hval0
  have hW' := hW
  obtain ⟨p, q, hA0, hV, rfl, hfz, hnd⟩ := hW
  have hA : DataW.TrodAll enc Try.prog W 0 (fun _ => true) true Try.f3.params.toList args.toList ds p := hA0
  rw [Try.params3] at hA hval
  obtain ⟨v0, vs0, d0, ds0, p0, q0, hargs, rfl, rfl, h0, r0⟩ := trodAll_cons hA
  obtain ⟨v1, vs1, d1, ds1, p1, q1, rfl, rfl, rfl, h1, r1⟩ := trodAll_cons r0
  obtain ⟨rfl, rfl, rfl⟩ := trodAll_nil r1
  obtain rfl : args = #[v0, v1] := by cases args; simp_all
  obtain ⟨rfl, rfl⟩ := trodVars_none hV
  clear hA0 hval0
  have hlt := hW'.lt
  obtain ⟨l, hl, a0⟩ := arg_slice Try.underlying22 rd_msgs (hval 0 22 v0 rfl rfl) h0
  obtain ⟨b, hb, a1⟩ := arg_int Try.underlying5 (hval 1 5 v1 rfl rfl) h1
  obtain ⟨pc, rfl⟩ : ∃ y : UInt8, b = (y.toNat : Int) := ⟨UInt8.ofNat b.toNat, by
    have h1 : (0 : Int) ≤ b := hb.1
    have h2 : b ≤ 255 := hb.2
    simp
    omega⟩
  refine (law_args Try.call3 (fun K hK => frameFinds_ob l hl.1 hl.2 pc K hK) (LR2 a0 a1)).mono fun e W' ⟨he, hb⟩ => ?_
  subst he
  exact ⟨_, rfl, post_old (pa := p0 ++ (p1 ++ [])) (pv := []) hW' (fun _ _ _ => trodAll_mk1 (shut_bool Try.underlying4 _))
    (fun sp hsp => ⟨p0, _, WideElems.Trod_stays z_laid p_read22 p_row22 h0 (fun p hp => hb.same (hlt p (by simp [hp]))) (fun p hp => hsp p (by simp [hp])),
      ⟨p1, [], WideElems.Trod_stays z_laid p_read5 p_row5 h1 (fun p hp => hb.same (hlt p (by simp [hp]))) (fun p hp => hsp p (by simp [hp])), rfl, rfl⟩, rfl⟩) (fun _ _ => rfl) rfl
    hb (ok_one (by kernel_rfl) rfl (okWide_bool_mk Try.underlying4 _))⟩

end Go.Sx

namespace Go.Proofs.Ytlbbdkecjpaglaa
open Go.Sx

set_option maxRecDepth 100000 in
theorem finds_holds : Rows.FrameFindsSaid :=
  OpenClaim.holds_of_wide 3 Try.f3 rfl rfl rfl rfl rfl rfl rfl ⟨rfl, rfl, rfl, rfl, rfl⟩ rfl rfl rfl rfl rfl (by kernel_rfl) Try.func3 (by kernel_rfl)
    (of_decide_eq_true (by kernel_rfl)) (by unfold Func.isWrapper; first | (rw [if_pos (by decide +kernel)]; kernel_rfl) | (rw [if_neg (by decide +kernel)]; exact ⟨rfl, rfl⟩))
    (fun os started H enc _ => finds_lifted os started H enc)

end Go.Proofs.Ytlbbdkecjpaglaa
#print axioms Go.Proofs.Ytlbbdkecjpaglaa.finds_holds
end

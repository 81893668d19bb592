/- FrameDead: a reader that has told an error tells it for ever, whatever comes, and keeps nothing. No condition. -/
import Derived.Test.YtlbbdkecjpaglaaGreatHax

set_option linter.all false

section
namespace Go.Sx
open Go.Proofs Go.ChangeShapes Go.WideShapes Go.ChangeAt Go.RowKit
open Go.Proofs.YtlbbdkecjpaglaaGreat
set_option linter.unusedVariables false
set_option maxRecDepth 100000

section
variable {H : Type} {enc : TypeId × Value → H}

theorem arg_slice {W : World} {base : Nat} {v : Value} {d : DataW H} {p : List MemPlace} {t e : TypeId} {α : Type} {ee : α → V} {sz : Nat} {ok : List α → Prop} (ht : Tryz.prog.underlying t = some (.slice e)) (hr : Rd enc Tryz.prog W t 1 (fun xs => V.isl true sz ee xs) ok)
    (hok : Value.okWide Tryz.prog W .any base t v) (h : DataW.Trod enc Tryz.prog W 0 (fun _ => true) true t v d p) : ∃ xs : List α, ok xs ∧ Arg W (.isl true sz ee xs) v := by
  obtain ⟨a, l, c, rfl⟩ := okWide_slice ht hok
  exact arg_flat hr rfl h (fun _ => rfl)

theorem rd_msgs {W : World} : Rd enc Tryz.prog W 56 1 (fun xs => V.isl true 28 encMsg xs) (fun xs => (∀ x ∈ xs, x.Raw) ∧ xs.length ≤ 9223372036854775807) := rd_slice (ee := encMsg) Tryz.underlying56 (by kernel_rfl) (by decide) rd_msg
end

theorem z_read33 : Tryz.prog.readableRec 33 = true := by kernel_rfl
theorem z_row33 : 33 < Tryz.prog.types.size := Nat.le_of_ble_eq_true (n := 34) (by kernel_rfl)
theorem z_read56 : Tryz.prog.readableRec 56 = true := by kernel_rfl
theorem z_row56 : 56 < Tryz.prog.types.size := Nat.le_of_ble_eq_true (n := 57) (by kernel_rfl)

theorem dead_lifted (os : Os) (started : os.Started) (H : Type) (enc : TypeId × Value → H) :
    ReturnsInHanded {} Tryz.checked os 6 .any (Rows.frameDeadSpec.pre6 enc Tryz.prog Tryz.f6 Rows.frameDeadRow.domain false) (Rows.frameDeadSpec.post enc Tryz.prog Tryz.f6 false true false false) := by
  refine returnsInHanded_of_change (C := Tryz.checked) z_own started (by kernel_rfl) Tryz.func6
    (ChangeSpec.witness6 (enc := enc) (C := Tryz.checked) false ⟨#[], #[.slice none 0 0, .slice none 0 0], []⟩ 8 (by kernel_rfl) (by kernel_rfl) (by kernel_rfl) (by kernel_rfl)) ?_
  intro W base args ds gs before hval0 hW hcnd _
  have hval : ∀ (j : Nat) t v, Tryz.f6.params[j]? = some t → args[j]? = some v → Value.okWide Tryz.prog W .any base t v := hval0
  have hW' := hW
  obtain ⟨p, q, hA0, hV, rfl, hfz, hnd⟩ := hW
  have hA : DataW.TrodAll enc Tryz.prog W 0 (fun _ => true) true Tryz.f6.params.toList args.toList ds p := hA0
  rw [Tryz.params6] at hA hval
  obtain ⟨v0, vs0, d0, ds0, p0, q0, hargs, rfl, rfl, h0, r0⟩ := trodAll_cons hA
  obtain ⟨v1, vs1, d1, ds1, p1, q1, rfl, rfl, rfl, h1, r1⟩ := trodAll_cons r0
  obtain ⟨rfl, rfl, rfl⟩ := trodAll_nil r1
  obtain rfl : args = #[v0, v1] := by cases args; simp_all
  obtain ⟨rfl, rfl⟩ := trodVars_none hV
  clear hA0 hval0
  have hlt := hW'.lt
  obtain ⟨bs, _, a0⟩ := arg_slice Tryz.underlying33 rd_bytes (hval 0 33 v0 rfl rfl) h0
  obtain ⟨l, hl, a1⟩ := arg_slice Tryz.underlying56 rd_msgs (hval 1 56 v1 rfl rfl) h1
  refine (law_args Tryz.call6 (fun K hK => frameDead_ob bs l hl.1 hl.2 K hK) (LR2 a0 a1)).mono fun e W' ⟨he, hb⟩ => ?_
  subst he
  exact ⟨_, rfl, post_old (pa := p0 ++ (p1 ++ [])) (pv := []) hW' (fun _ _ _ => trodAll_mk1 (shut_bool Tryz.underlying4 _))
    (fun sp hsp => ⟨p0, _, WideElems.Trod_stays z_laid z_read33 z_row33 h0 (fun p hp => hb.same (hlt p (by simp [hp]))) (fun p hp => hsp p (by simp [hp])),
      ⟨p1, [], WideElems.Trod_stays z_laid z_read56 z_row56 h1 (fun p hp => hb.same (hlt p (by simp [hp]))) (fun p hp => hsp p (by simp [hp])), rfl, rfl⟩, rfl⟩) (fun _ _ => rfl) rfl
    hb (ok_one (by kernel_rfl) rfl (okWide_bool_mk Tryz.underlying4 _))⟩

end Go.Sx

namespace Go.Proofs.YtlbbdkecjpaglaaGreat
open Go.Sx

set_option maxRecDepth 100000 in
theorem dead_holds : Rows.FrameDeadSaid :=
  OpenClaim.holds_of_wide 6 Tryz.f6 rfl rfl rfl rfl rfl rfl rfl ⟨rfl, rfl, rfl, rfl, rfl⟩ rfl rfl rfl rfl rfl (by kernel_rfl) Tryz.func6 (by kernel_rfl)
    (of_decide_eq_true (by kernel_rfl)) (by unfold Func.isWrapper; first | (rw [if_pos (by decide +kernel)]; kernel_rfl) | (rw [if_neg (by decide +kernel)]; exact ⟨rfl, rfl⟩))
    (fun os started H enc _ => dead_lifted os started H enc)

end Go.Proofs.YtlbbdkecjpaglaaGreat
#print axioms Go.Proofs.YtlbbdkecjpaglaaGreat.dead_holds
#print axioms Go.Proofs.YtlbbdkecjpaglaaGreat.turned_holds
end

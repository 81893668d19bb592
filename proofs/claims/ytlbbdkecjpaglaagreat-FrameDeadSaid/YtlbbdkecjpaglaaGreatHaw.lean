/- FrameTurned: a frame in which one byte is another one is never read as a message without an error, but where its length is. No condition. -/
import Derived.Test.YtlbbdkecjpaglaaGreatHav

set_option linter.all false

section
namespace Go.Sx
open Go.Proofs Go.ChangeShapes Go.WideShapes Go.ChangeAt Go.RowKit
open Go.Proofs.YtlbbdkecjpaglaaGreat
set_option linter.unusedVariables false
set_option maxRecDepth 100000

section
variable {H : Type} {enc : TypeId × Value → H}

/-- an argument, as a value -/
def Arg (W : World) (x : V) (v : Value) : Prop := VR W.heap ⟨JJ W, fun _ => ⟨none, 0, 0, 0⟩⟩ 0 x v

theorem arg_flat {W : World} {t : TypeId} {v : Value} {d : DataW H} {p : List MemPlace} {α : Type} {e : α → V} {ok : α → Prop} (hr : Rd enc Tryz.prog W t 1 e ok) (h1 : v.cells.toList = [v]) (h : DataW.Trod enc Tryz.prog W 0 (fun _ => true) true t v d p) (hf : ∀ x, (e x).cells = [e x]) :
    ∃ x, ok x ∧ Arg W (e x) v := by
  obtain ⟨fuel, h⟩ := h
  rw [h1] at h
  obtain ⟨x, hx, _, hi⟩ := hr fuel [v] d p rfl h
  exact ⟨x, hx, .imm _ _ (hi 0 (e x) v (by rw [hf]; rfl) rfl).1⟩

theorem arg_msg {W : World} {base : Nat} {v : Value} {d : DataW H} {p : List MemPlace} (hok : Value.okWide Tryz.prog W .any base 37 v) (h : DataW.Trod enc Tryz.prog W 0 (fun _ => true) true 37 v d p) : ∃ m : Msg, m.Raw ∧ Arg W (.agg m.cells) v := by
  unfold Value.okWide at hok
  rw [Tryz.underlying37] at hok
  simp only at hok
  obtain ⟨cs, rfl, hsz, _⟩ := hok
  rw [z_cells37] at hsz
  obtain ⟨fuel, h⟩ := h
  have hcl : (Value.agg cs).cells.toList = cs.toList := rfl
  rw [hcl] at h
  obtain ⟨m, hraw, hlen, hir⟩ := rd_msg fuel cs.toList d p (by simpa using hsz) h
  refine ⟨m, hraw, .imm _ _ (.agg m.cells cs ?_ (fun i x v hx hv => (hir i x v hx (by simpa using hv)).1))⟩
  have : m.cells.length = 28 := hlen
  rw [this, hsz]

theorem arg_int {W : World} {base : Nat} {v : Value} {d : DataW H} {p : List MemPlace} {t : TypeId} {k : IntKind} (ht : Tryz.prog.underlying t = some (.int k)) (hok : Value.okWide Tryz.prog W .any base t v) (h : DataW.Trod enc Tryz.prog W 0 (fun _ => true) true t v d p) :
    ∃ n : Int, (k.min ≤ n ∧ n ≤ k.max) ∧ Arg W (.int k n) v := by
  obtain ⟨n, rfl⟩ := okWide_int ht hok
  exact arg_flat (rd_int ht) rfl h (fun _ => rfl)

/-- what a contract gives, for any arguments -/
theorem law_args {f : FuncId} (hc : ∀ args w, (callFunc f args).run Tryz.prog w = .ok (.enter f args) w) {args : List V} (hOb : ∀ K : Post, K (.bool true) [] 0 → CallOb Tryz.prog f args [] 0 K)
    {W : World} {vs : Array Value} (hv : LR W.heap ⟨JJ W, fun _ => ⟨none, 0, 0, 0⟩⟩ 0 args vs) :
    Calls Tryz.prog f vs W fun e W' => e = .returned (.bool true) ∧ Below W.heap.size W W' := by
  refine (calls_of_sem (hc _ _) ((hOb (fun v hp nx => v = .bool true) rfl).out _ _ W _ (sat0 W) hv)).mono ?_
  rintro e W' ⟨v, rfl, x, hp', nx', C', S', rfl, _, hvr, hext, _⟩
  refine ⟨?_, below_of_ext hext⟩
  rw [hvr.bool_inv]

theorem LR3 {h : Array Obj} {C : Cx} {B : Nat} {a b c : V} {u v w : Value} (h1 : VR h C B a u) (h2 : VR h C B b v) (h3 : VR h C B c w) : LR h C B [a, b, c] #[u, v, w] := by
  refine ⟨rfl, fun i x y hx hy => ?_⟩
  match i with
  | 0 => simp at hx hy; subst hx; subst hy; exact h1
  | 1 => simp at hx hy; subst hx; subst hy; exact h2
  | 2 => simp at hx hy; subst hx; subst hy; exact h3
  | i + 3 => simp at hx

theorem LR2 {h : Array Obj} {C : Cx} {B : Nat} {a b : V} {u v : Value} (h1 : VR h C B a u) (h2 : VR h C B b v) : LR h C B [a, b] #[u, v] := by
  refine ⟨rfl, fun i x y hx hy => ?_⟩
  match i with
  | 0 => simp at hx hy; subst hx; subst hy; exact h1
  | 1 => simp at hx hy; subst hx; subst hy; exact h2
  | i + 2 => simp at hx
end

theorem z_read3 : Tryz.prog.readableRec 3 = true := by kernel_rfl
theorem z_row3 : 3 < Tryz.prog.types.size := Nat.le_of_ble_eq_true (n := 4) (by kernel_rfl)
theorem z_read5 : Tryz.prog.readableRec 5 = true := by kernel_rfl
theorem z_row5 : 5 < Tryz.prog.types.size := Nat.le_of_ble_eq_true (n := 6) (by kernel_rfl)

set_option maxRecDepth 100000 in
theorem turned_lifted (os : Os) (started : os.Started) (H : Type) (enc : TypeId × Value → H) :
    ReturnsInHanded {} Tryz.checked os 4 .any (Rows.frameTurnedSpec.pre6 enc Tryz.prog Tryz.f4 Rows.frameTurnedRow.domain false) (Rows.frameTurnedSpec.post enc Tryz.prog Tryz.f4 false true false false) := by
  refine returnsInHanded_of_change (C := Tryz.checked) z_own started (by kernel_rfl) Tryz.func4
    (ChangeSpec.witness6 (enc := enc) (C := Tryz.checked) false ⟨#[], #[zeroArg, .int .i64 0, .int .u8 0], []⟩ 8 (by kernel_rfl) (by kernel_rfl) (by kernel_rfl) (by kernel_rfl)) ?_
  intro W base args ds gs before hval0 hW hcnd _
  have hval : ∀ (j : Nat) t v, Tryz.f4.params[j]? = some t → args[j]? = some v → Value.okWide Tryz.prog W .any base t v := hval0
  have hW' := hW
  obtain ⟨p, q, hA0, hV, rfl, hfz, hnd⟩ := hW
  have hA : DataW.TrodAll enc Tryz.prog W 0 (fun _ => true) true Tryz.f4.params.toList args.toList ds p := hA0
  rw [Tryz.params4] at hA hval
  obtain ⟨v0, vs0, d0, ds0, p0, q0, hargs, rfl, rfl, h0, r0⟩ := trodAll_cons hA
  obtain ⟨v1, vs1, d1, ds1, p1, q1, rfl, rfl, rfl, h1, r1⟩ := trodAll_cons r0
  obtain ⟨v2, vs2, d2, ds2, p2, q2, rfl, rfl, rfl, h2, r2⟩ := trodAll_cons r1
  obtain ⟨rfl, rfl, rfl⟩ := trodAll_nil r2
  obtain rfl : args = #[v0, v1, v2] := by cases args; simp_all
  obtain ⟨rfl, rfl⟩ := trodVars_none hV
  clear hA0 hval0
  have hlt := hW'.lt
  obtain ⟨m, hm, a0⟩ := arg_msg (hval 0 37 v0 rfl rfl) h0
  obtain ⟨n, hn, a1⟩ := arg_int Tryz.underlying3 (hval 1 3 v1 rfl rfl) h1
  obtain ⟨b, hb, a2⟩ := arg_int Tryz.underlying5 (hval 2 5 v2 rfl rfl) h2
  obtain ⟨by_, rfl⟩ : ∃ y : UInt8, b = (y.toNat : Int) := ⟨UInt8.ofNat b.toNat, by
    have h1 : (0 : Int) ≤ b := hb.1
    have h2 : b ≤ 255 := hb.2
    simp
    omega⟩
  refine (law_args Tryz.call4 (fun K hK => frameTurned_ob m hm n by_ K hK) (LR3 a0 a1 a2)).mono fun e W' ⟨he, hb⟩ => ?_
  subst he
  exact ⟨_, rfl, post_old (pa := p0 ++ (p1 ++ (p2 ++ []))) (pv := []) hW' (fun _ _ _ => trodAll_mk1 (shut_bool Tryz.underlying4 _))
    (fun sp hsp => ⟨p0, _, WideElems.Trod_stays z_laid z_read37 z_row37 h0 (fun p hp => hb.same (hlt p (by simp [hp]))) (fun p hp => hsp p (by simp [hp])),
      ⟨p1, _, WideElems.Trod_stays z_laid z_read3 z_row3 h1 (fun p hp => hb.same (hlt p (by simp [hp]))) (fun p hp => hsp p (by simp [hp])),
        ⟨p2, [], WideElems.Trod_stays z_laid z_read5 z_row5 h2 (fun p hp => hb.same (hlt p (by simp [hp]))) (fun p hp => hsp p (by simp [hp])), rfl, rfl⟩, rfl⟩, rfl⟩) (fun _ _ => rfl) rfl
    hb (ok_one (by kernel_rfl) rfl (okWide_bool_mk Tryz.underlying4 _))⟩

end Go.Sx

namespace Go.Proofs.YtlbbdkecjpaglaaGreat
open Go.Sx

set_option maxRecDepth 100000 in
theorem turned_holds : Rows.FrameTurnedSaid :=
  OpenClaim.holds_of_wide 4 Tryz.f4 rfl rfl rfl rfl rfl rfl rfl ⟨rfl, rfl, rfl, rfl, rfl⟩ rfl rfl rfl rfl rfl (by kernel_rfl) Tryz.func4 (by kernel_rfl)
    (of_decide_eq_true (by kernel_rfl)) (by unfold Func.isWrapper; first | (rw [if_pos (by decide +kernel)]; kernel_rfl) | (rw [if_neg (by decide +kernel)]; exact ⟨rfl, rfl⟩))
    (fun os started H enc _ => turned_lifted os started H enc)

end Go.Proofs.YtlbbdkecjpaglaaGreat
#print axioms Go.Proofs.YtlbbdkecjpaglaaGreat.turned_holds
end

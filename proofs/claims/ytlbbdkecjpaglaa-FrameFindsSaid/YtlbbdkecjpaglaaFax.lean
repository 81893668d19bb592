/- FrameTurned: a frame in which one byte is another one is never read as a message without an error, but where its length is. No condition. -/
import Derived.Test.YtlbbdkecjpaglaaFaw

set_option linter.all false

section
namespace Go.Sx
open Go.Proofs Go.ChangeShapes Go.WideShapes Go.ChangeAt Go.RowKit
open Go.Proofs.Ytlbbdkecjpaglaa
set_option linter.unusedVariables false
set_option maxRecDepth 100000

section
variable {H : Type} {enc : TypeId × Value → H}

/-- an argument, as a value -/
def Arg (W : World) (x : V) (v : Value) : Prop := VR W.heap ⟨JJ W, fun _ => ⟨none, 0, 0, 0⟩⟩ 0 x v

theorem arg_flat {W : World} {t : TypeId} {v : Value} {d : DataW H} {p : List MemPlace} {α : Type} {e : α → V} {ok : α → Prop} (hr : Rd enc Try.prog W t 1 e ok) (h1 : v.cells.toList = [v]) (h : DataW.Trod enc Try.prog W 0 (fun _ => true) true t v d p) (hf : ∀ x, (e x).cells = [e x]) :
    ∃ x, ok x ∧ Arg W (e x) v := by
  obtain ⟨fuel, h⟩ := h
  rw [h1] at h
  obtain ⟨x, hx, _, hi⟩ := hr fuel [v] d p rfl h
  exact ⟨x, hx, .imm _ _ (hi 0 (e x) v (by rw [hf]; rfl) rfl).1⟩

theorem arg_msg {W : World} {base : Nat} {v : Value} {d : DataW H} {p : List MemPlace} (hok : Value.okWide Try.prog W .any base 42 v) (h : DataW.Trod enc Try.prog W 0 (fun _ => true) true 42 v d p) : ∃ m : Msg, m.Raw ∧ Arg W (.agg m.cells) v := by
  unfold Value.okWide at hok
  rw [Try.underlying42] at hok
  simp only at hok
  obtain ⟨cs, rfl, hsz, _⟩ := hok
  rw [z_cells37] at hsz
  obtain ⟨fuel, h⟩ := h
  have hcl : (Value.agg cs).cells.toList = cs.toList := rfl
  rw [hcl] at h
  obtain ⟨m, hraw, hlen, hir⟩ := rd_msg fuel cs.toList d p (by simpa using hsz) h
  refine ⟨m, hraw, .imm _ _ (.agg m.cells cs ?_ (fun i x v hx hv => (hir i x v hx (by simpa using hv)).1))⟩
  have : m.cells.length = 28 := hlen
  rw [this, hsz]

theorem arg_int {W : World} {base : Nat} {v : Value} {d : DataW H} {p : List MemPlace} {t : TypeId} {k : IntKind} (ht : Try.prog.underlying t = some (.int k)) (hok : Value.okWide Try.prog W .any base t v) (h : DataW.Trod enc Try.prog W 0 (fun _ => true) true t v d p) :
    ∃ n : Int, (k.min ≤ n ∧ n ≤ k.max) ∧ Arg W (.int k n) v := by
  obtain ⟨n, rfl⟩ := okWide_int ht hok
  exact arg_flat (rd_int ht) rfl h (fun _ => rfl)

/-- what a contract gives, for any arguments -/
theorem law_args {f : FuncId} (hc : ∀ args w, (callFunc f args).run Try.prog w = .ok (.enter f args) w) {args : List V} (hOb : ∀ K : Post, K (.bool true) [] 0 → CallOb Try.prog f args [] 0 K)
    {W : World} {vs : Array Value} (hv : LR W.heap ⟨JJ W, fun _ => ⟨none, 0, 0, 0⟩⟩ 0 args vs) :
    Calls Try.prog f vs W fun e W' => e = .returned (.bool true) ∧ Below W.heap.size W W' := by
  refine (calls_of_sem (hc _ _) ((hOb (fun v hp nx => v = .bool true) rfl).out _ _ W _ (sat0 W) hv)).mono ?_
  rintro e W' ⟨v, rfl, x, hp', nx', C', S', rfl, _, hvr, hext, _⟩
  refine ⟨?_, below_of_ext hext⟩
  rw [hvr.bool_inv]

theorem LR3 {h : Array Obj} {C : Cx} {B : Nat} {a b c : V} {u v w : Value} (h1 : VR h C B a u) (h2 : VR h C B b v) (h3 : VR h C B c w) : LR h C B [a, b, c] #[u, v, w] := by
  refine ⟨rfl, fun i x y hx hy => ?_⟩
  match i with
  | 0 => simp at hx hy; subst hx; subst hy; exact h1
  | 1 => simp at hx hy; subst hx; subst hy; exact h2
  | 2 => simp at hx hy; subst hx; subst hy; exact h3
  | i + 3 => simp at hx

theorem LR2 {h : Array Obj} {C : Cx} {B : Nat} {a b : V} {u v : Value} (h1 : VR h C B a u) (h2 : VR h C B b v) : LR h C B [a, b] #[u, v] := by
  refine ⟨rfl, fun i x y hx hy => ?_⟩
  match i with
  | 0 => simp at hx hy; subst hx; subst hy; exact h1
  | 1 => simp at hx hy; subst hx; subst hy; exact h2
  | i + 2 => simp at hx
end

theorem z_read3 : Try.prog.readableRec 3 = true := by kernel_rfl
theorem z_row3 : 3 < Try.prog.types.size := Nat.le_of_ble_eq_true (n := 4) (by kernel_rfl)
theorem z_read5 : Try.prog.readableRec 5 = true := by kernel_rfl
theorem z_row5 : 5 < Try.prog.types.size := Nat.le_of_ble_eq_true (n := 6) (by kernel_rfl)

end Go.Sx

namespace Go.Proofs.Ytlbbdkecjpaglaa
open Go.Sx

end Go.Proofs.Ytlbbdkecjpaglaa
end

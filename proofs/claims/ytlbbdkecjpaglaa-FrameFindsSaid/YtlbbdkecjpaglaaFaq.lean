/- The row of a law of one message: out of its contract; no condition. -/
import Derived.Test.YtlbbdkecjpaglaaRows
import Derived.ProofKit
import Derived.Test.YtlbbdkecjpaglaaFap

set_option linter.all false

section
namespace Go.Sx
open Go.Proofs Go.ChangeShapes Go.WideShapes Go.ChangeAt Go.RowKit
set_option linter.unusedVariables false

theorem below_of_ext {nx : Nat} {C C' : Cx} {S' : Nat → Prop} {W W' : World} (h : Ext nx C C' (fun _ => False) S' W W') : Below W.heap.size W W' := ⟨h.os, h.tape, h.output, h.size, fun k hk => h.keep k hk (fun h => h)⟩

section
variable {H : Type} {enc : TypeId × Value → H} {P : Program}
theorem post_old {f : Func} {s : ChangeSpec} {apart fresh handsOn again : Bool} {W W' : World} {args : Array Value} {v : Value} {ds gs : List (DataW H)} {before pa pv : List MemPlace}
    (hW : DataW.Whole enc P f.params.toList s.vars apart W args.toList ds gs before)
    (hres : ∀ (b : Nat) (sp : Nat → Bool) (hd : Bool), DataW.TrodAll enc P W' b sp hd f.resultTypes.toList (v.resultList f.resultTypes.size) (s.fn H (ds ++ gs)).results [])
    (hargs : ∀ sp : Nat → Bool, (∀ p ∈ before, sp p.block = true) → DataW.TrodAll enc P W' 0 sp true f.params.toList args.toList (s.fn H (ds ++ gs)).args pa)
    (hvars : ∀ sp : Nat → Bool, (∀ p ∈ before, sp p.block = true) → DataW.TrodVars enc P W' sp s.vars (s.fn H (ds ++ gs)).vars pv)
    (hps : before = pa ++ pv) (hb : Below W.heap.size W W')
    (hok : ∀ (j : Nat) (t : TypeId) (r : Value), f.resultTypes[j]? = some t → (v.resultList f.resultTypes.size)[j]? = some r → Value.okWide P W' .any 0 t r) :
    s.post enc P f apart fresh handsOn again W args v W' := by
  have hold : ∀ p ∈ before, (fun b => decide (b < W.heap.size)) p.block = true := fun p hp => by simpa using hW.lt p hp
  have hlt := hW.lt
  refine ⟨ds, gs, before, [], pa, pv, hW, hres _ _ _, hargs _ hold, hvars _ hold, World.keptBut_mono (fun p hp => ⟨hp, ?_⟩) (hb.frame (· ∈ before)), fun _ => ?_⟩
  · rw [hps, List.mem_append] at hp
    exact Or.inr hp
  · obtain ⟨_, _, _, _, _, hz, hn⟩ := hW
    refine ⟨hok, _, _, ([] ++ pa) ++ pv, ⟨[] ++ pa, pv, trodAll_append (hargs _ (fun _ _ => rfl)) (hres _ _ _), hvars _ (fun _ _ => rfl), rfl, ?_, ?_⟩, ?_⟩
    · intro b off hp
      have hp' : MemPlace.cell b off ∈ before := by rw [hps]; simpa using hp
      rw [hb.frozen (hlt _ hp')]
      exact hz b off hp'
    · intro ha
      have := hn ha
      rw [hps] at this
      simpa using this
    · intro p hp _
      rw [hps]
      simpa using hp
end

open Go.Proofs.Ytlbbdkecjpaglaa

theorem z_own : ownKnob Try.prog.godebug = none := by kernel_rfl
theorem z_laid : laidOutB Try.prog = true := by kernel_rfl
theorem z_read37 : Try.prog.readableRec 42 = true := by kernel_rfl
theorem z_row37 : 42 < Try.prog.types.size := Nat.le_of_ble_eq_true (n := 43) (by kernel_rfl)
theorem z_cells37 : Try.prog.cellsOf 42 = 28 := by kernel_rfl

/-- a world in which nothing is owned, and all that stands lasts -/
theorem sat0 (W : World) : HSat [] 0 ⟨JJ W, fun _ => ⟨none, 0, 0, 0⟩⟩ (fun _ => False) W :=
  ⟨.nil _ (fun _ h => h), fun _ h => h.elim, fun _ b h => ⟨h, fun h => h⟩, fun _ h => h⟩

set_option maxRecDepth 100000 in
/-- a law of one message: what its contract gives -/
theorem law1 {H : Type} {enc : TypeId × Value → H} {f : FuncId} (hc : ∀ args w, (callFunc f args).run Try.prog w = .ok (.enter f args) w) (hOb : ∀ m : Msg, m.Raw → ∀ K : Post, K (.bool true) [] 0 → CallOb Try.prog f [.agg m.cells] [] 0 K)
    {W : World} {base : Nat} {v0 : Value} {d0 : DataW H} {p0 : List MemPlace} (hok : Value.okWide Try.prog W .any base 42 v0) (h0 : DataW.Trod enc Try.prog W 0 (fun _ => true) true 42 v0 d0 p0) :
    Calls Try.prog f #[v0] W fun e W' => e = .returned (.bool true) ∧ Below W.heap.size W W' := by
  unfold Value.okWide at hok
  rw [Try.underlying42] at hok
  simp only at hok
  obtain ⟨cs, rfl, hsz, _⟩ := hok
  rw [z_cells37] at hsz
  obtain ⟨fuel, h0⟩ := h0
  have hcl : (Value.agg cs).cells.toList = cs.toList := rfl
  rw [hcl] at h0
  obtain ⟨m, hraw, hlen, hir⟩ := rd_msg fuel cs.toList d0 p0 (by simpa using hsz) h0
  have hv : LR W.heap ⟨JJ W, fun _ => ⟨none, 0, 0, 0⟩⟩ 0 [.agg m.cells] #[.agg cs] := by
    refine ⟨rfl, fun i x v hx hv => ?_⟩
    cases i with
    | zero =>
      simp at hx hv
      subst hx; subst hv
      refine .imm _ _ (.agg m.cells cs ?_ (fun i x v hx hv => (hir i x v hx (by simpa using hv)).1))
      have : m.cells.length = 28 := hlen
      rw [this, hsz]
    | succ i => simp at hx
  refine (calls_of_sem (hc _ _) ((hOb m hraw (fun v hp nx => v = .bool true) rfl).out _ _ W _ (sat0 W) hv)).mono ?_
  rintro e W' ⟨v, rfl, x, hp', nx', C', S', rfl, _, hvr, hext, _⟩
  refine ⟨?_, below_of_ext hext⟩
  rw [hvr.bool_inv]

abbrev zeroArg : Value := .agg #[.int .u8 0, .int .u32 0, .int .u32 0, .int .u64 0, .int .u8 0, .int .u32 0, .string ⟨#[]⟩, .string ⟨#[]⟩, .int .u8 0, .int .u8 0, .bool false, .int .u8 0, .int .u16 0, .slice none 0 0, .int .u32 0, .slice none 0 0, .int .u16 0, .int .u16 0, .slice none 0 0, .slice none 0 0, .slice none 0 0, .int .u32 0, .int .u32 0, .slice none 0 0, .int .u64 0, .slice none 0 0, .slice none 0 0, .slice none 0 0]

end Go.Sx
end

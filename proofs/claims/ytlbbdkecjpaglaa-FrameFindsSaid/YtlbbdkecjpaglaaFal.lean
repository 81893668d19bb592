/- lodestarref06.Same; no condition. -/
import Derived.Test.YtlbbdkecjpaglaaFak

set_option linter.all false

section
open Go.Proofs
namespace Go.Sx
set_option linter.unusedVariables false

theorem Conf.ext_iff' {x y : Conf} : x = y ↔ x.name = y.name ∧ x.dim = y.dim ∧ x.metric = y.metric ∧ x.graph = y.graph ∧ x.links = y.links ∧ x.width = y.width := by
  cases x; cases y; simp

theorem Msg.ext_iff' {x y : Msg} : x = y ↔ x.kind = y.kind ∧ x.req = y.req ∧ x.caps = y.caps ∧ x.token = y.token ∧ x.code = y.code ∧ x.n = y.n ∧ x.name = y.name ∧
    (x.conf.name = y.conf.name ∧ x.conf.dim = y.conf.dim ∧ x.conf.metric = y.conf.metric ∧ x.conf.graph = y.conf.graph ∧ x.conf.links = y.conf.links ∧ x.conf.width = y.conf.width) ∧ x.changes = y.changes ∧ x.id = y.id ∧ x.vec = y.vec ∧
    x.k = y.k ∧ x.width = y.width ∧ x.fall = y.fall ∧ x.fany = y.fany ∧ x.fnone = y.fnone ∧ x.num = y.num ∧ x.page = y.page ∧ x.bytes = y.bytes ∧ x.version = y.version ∧ x.names = y.names ∧ x.items = y.items ∧ x.hits = y.hits := by
  rw [← Conf.ext_iff']
  cases x; cases y; simp

theorem icc {n m : Nat} : ((n : Int) = m) = (n = m) := propext ⟨fun h => by omega, fun h => by omega⟩

set_option maxRecDepth 8000 in
theorem same_ob (x y : Msg) (hx : x.Ok) (K : Post) (hK : ∀ b : Bool, (b = true ↔ x = y) → K (.bool b) [] 0) : CallOb Try.prog 10 [.agg x.cells, .agg y.cells] [] 0 K := by
  refine contract TrytabOk Try.checked.mixed Try.func10 rfl Try.call10 [] [] [4] (res1 Try.results10) Try.ntmps10 rfl ?_
  simp only [Msg.ext_iff'] at hK
  have c1 := hx.changes
  conv => whnf
  repeat' first
    | (refine br_intro (fun h => ?_) (fun h => ?_) <;> conv => whnf)
    | (refine call_rule [] ?_
       conv => whnf
       first
         | refine sameChanges_ob true true x.changes y.changes hx.changes.1 hx.changes.2 _ (fun b hb => ?_)
         | refine sameI32_ob true true x.vec y.vec hx.vec.2 _ (fun b hb => ?_)
         | refine sameStr_ob true true x.fall y.fall hx.fall.2 _ (fun b hb => ?_)
         | refine sameStr_ob true true x.fany y.fany hx.fany.2 _ (fun b hb => ?_)
         | refine sameStr_ob true true x.fnone y.fnone hx.fnone.2 _ (fun b hb => ?_)
         | refine sameStr_ob true true x.names y.names hx.names.2 _ (fun b hb => ?_)
         | refine sameItems_ob true true x.items y.items hx.items.1 hx.items.2 _ (fun b hb => ?_)
         | refine sameHit_ob true true x.hits y.hits hx.hits.2 _ (fun b hb => ?_)
       conv => whnf)
    | (refine ⟨x.bytes, rfl, ?_⟩; conv => whnf)
    | (refine ⟨y.bytes, rfl, ?_⟩; conv => whnf)
    | fail
  all_goals refine ⟨_, _, _, leT_refl _, leH_refl _, Nat.le_refl _, hK _ ?_⟩
  all_goals clear hK c1
  all_goals simp only [condAnd, decide_eq_true_eq, icc, beq_iff_eq, Bool.and_eq_true, ← Bool.not_eq_true, true_and, and_true] at *
  all_goals clear hx
  all_goals grind

end Go.Sx
end

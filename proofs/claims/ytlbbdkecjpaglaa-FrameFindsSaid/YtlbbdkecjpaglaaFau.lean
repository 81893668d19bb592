/- lodestarref06.Read (printed by gendread.py); no condition. -/
import Derived.Test.YtlbbdkecjpaglaaFat

set_option linter.all false

section
open Go.Proofs
namespace Go.Sx
set_option linter.unusedVariables false

/-- a field's letter, by its name -/
def nmCh (nm : List UInt8) : Nat := if nm = n_req then 114 else if nm = n_caps then 99 else if nm = n_token then 116 else if nm = n_code then 101 else if nm = n_n then 110 else if nm = n_name then 78 else if nm = n_conf then 67 else if nm = n_changes then 76 else if nm = n_id then 105 else if nm = n_vec then 118 else if nm = n_k then 107 else if nm = n_width then 119 else if nm = n_filter then 102 else if nm = n_num then 117 else if nm = n_page then 112 else if nm = n_bytes then 98 else if nm = n_version then 86 else if nm = n_names then 83 else if nm = n_items then 73 else if nm = n_hits then 72 else 0

def dRun (l : List (List UInt8)) (x : Msg × RS) : Msg × RS := l.foldl (fun x nm => gField (nmCh nm) x.2 x.1) x

theorem form_small : ∀ k, k < 25 → (rForm k).1.map nmCh = (mFields k).1.map (·.toNat) ∧ (rForm k).2 = (mFields k).2 ∧ (∀ i, i < 7 → ((rForm k).1[i]? = some n_items → (rForm k).1.drop (i + 1) = [n_hits]) ∧ ((rForm k).1[i]? = some n_hits → (rForm k).1.drop (i + 1) = [])) := by decide +kernel

theorem form_great (k : Nat) (h : 25 ≤ k) : rForm k = ([], false) ∧ mFields k = ([], false) := by
  constructor
  · unfold rForm
    repeat rw [if_neg (by omega)]
  · unfold mFields
    repeat rw [if_neg (by omega)]

theorem form_eq (k : Nat) : (rForm k).1.map nmCh = (mFields k).1.map (·.toNat) ∧ (rForm k).2 = (mFields k).2 := by
  rcases Nat.lt_or_ge k 25 with h | h
  · exact ⟨(form_small k h).1, (form_small k h).2.1⟩
  · rw [(form_great k h).1, (form_great k h).2]
    exact ⟨rfl, rfl⟩

theorem form_rest (k i : Nat) : ((rForm k).1[i]? = some n_items → (rForm k).1.drop (i + 1) = [n_hits]) ∧ ((rForm k).1[i]? = some n_hits → (rForm k).1.drop (i + 1) = []) := by
  rcases Nat.lt_or_ge k 25 with h | h
  · by_cases hi : i < 7
    · exact (form_small k h).2.2 i hi
    · have := rForm_len k
      rw [List.getElem?_eq_none (by omega)]
      constructor <;> intro h <;> cases h
  · rw [(form_great k h).1]
    constructor <;> intro h <;> simp at h

theorem dRun_eq (k : Nat) (x : Msg × RS) : dRun (rForm k).1 x = gRun (mFields k).1 x := by
  have e1 : dRun (rForm k).1 x = ((rForm k).1.map nmCh).foldl (fun x c => gField c x.2 x.1) x := by rw [List.foldl_map]; rfl
  have e2 : gRun (mFields k).1 x = ((mFields k).1.map (·.toNat)).foldl (fun x c => gField c x.2 x.1) x := by rw [List.foldl_map]; rfl
  rw [e1, e2, (form_eq k).1]

/-- a message's cells, of which the last two are given -/
def Msg.cellsIH (m : Msg) (a b : V) : List V := [.int .u8 m.kind, .int .u32 m.req, .int .u32 m.caps, .int .u64 m.token, .int .u8 m.code, .int .u32 m.n, .str m.name, .str m.conf.name, .int .u8 m.conf.dim, .int .u8 m.conf.metric, .bool m.conf.graph, .int .u8 m.conf.links, .int .u16 m.conf.width,
  .isl true 4 encChg m.changes, .int .u32 m.id, .isl true 1 encI32 m.vec, .int .u16 m.k, .int .u16 m.width, .isl true 1 encStr m.fall, .isl true 1 encStr m.fany, .isl true 1 encStr m.fnone, .int .u32 m.num, .int .u32 m.page, .isl true 1 encB m.bytes, .int .u64 m.version,
  .isl true 1 encStr m.names, a, b]

theorem Msg.cells_nn (m : Msg) (h1 : m.items = []) (h2 : m.hits = []) : leFs (m.cellsIH .nils .nils) m.cells := by
  unfold Msg.cellsIH Msg.cells
  rw [h1, h2]
  repeat' first
    | exact trivial
    | exact leF_refl _
    | exact rfl
    | refine And.intro ?_ ?_

theorem zleIH (k : Nat) : leFs [.int .u8 k, .int .u32 0, .int .u32 0, .int .u64 0, .int .u8 0, .int .u32 0, .str [], .str [], .int .u8 0, .int .u8 0, .bool false, .int .u8 0, .int .u16 0, .nils, .int .u32 0, .nils, .int .u16 0, .int .u16 0, .nils, .nils, .nils, .int .u32 0, .int .u32 0, .nils, .int .u64 0, .nils, .nils, .nils] ((Msg.zero k).cellsIH .nils .nils) := by
  repeat' first
    | exact trivial
    | exact leF_refl _
    | exact rfl
    | refine And.intro ?_ ?_

abbrev RdT (k : Nat) (tot : Msg × RS) : Type := { x : Nat × Msg × RS // x.1 ≤ (rForm k).1.length ∧ x.2.2.1.length ≤ 2 ^ 40 ∧ dRun ((rForm k).1.drop x.1) x.2 = tot ∧ x.2.1.items = [] ∧ x.2.1.hits = [] } ⊕
  ({ x : Nat × Msg × RS // (rForm k).1.drop x.1 = [n_hits] ∧ x.2.2.1.length ≤ 2 ^ 40 ∧ dRun [n_hits] x.2 = tot } ⊕ { x : Nat × Msg × RS // (rForm k).1.drop x.1 = [] ∧ x.2.2.1.length ≤ 2 ^ 40 ∧ x.2 = tot ∧ x.1 ≤ (rForm k).1.length })

def rdTI (k : Nat) (tot : Msg × RS) : RdT k tot → List V
  | .inl x => [.ptr 0 0, .isl true 1 encStr (rForm k).1, .ptr 1 0, .ptr 2 0, .int .i64 (x.1.1 : Int)]
  | .inr (.inl x) => [.ptr 0 0, .isl true 1 encStr (rForm k).1, .ptr 1 0, .ptr 2 0, .int .i64 (x.1.1 : Int)]
  | .inr (.inr x) => [.ptr 0 0, .isl true 1 encStr (rForm k).1, .ptr 1 0, .ptr 2 0, .int .i64 (x.1.1 : Int)]

def rdTM (k : Nat) (tot : Msg × RS) : RdT k tot → Nat
  | .inl x => (rForm k).1.length - x.1.1
  | .inr (.inl x) => (rForm k).1.length - x.1.1
  | .inr (.inr x) => (rForm k).1.length - x.1.1


end Go.Sx
end

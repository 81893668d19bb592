/- lodestarref06: Form, Only (printed by genref.py); no condition. -/
import Derived.Test.YtlbbdkecjpaglaaGreatHai

set_option linter.all false

section
open Go.Proofs
namespace Go.Sx
set_option linter.unusedVariables false

abbrev n_req : List UInt8 := [114, 101, 113]
abbrev n_caps : List UInt8 := [99, 97, 112, 115]
abbrev n_token : List UInt8 := [116, 111, 107, 101, 110]
abbrev n_code : List UInt8 := [99, 111, 100, 101]
abbrev n_n : List UInt8 := [110]
abbrev n_name : List UInt8 := [110, 97, 109, 101]
abbrev n_conf : List UInt8 := [99, 111, 110, 102]
abbrev n_changes : List UInt8 := [99, 104, 97, 110, 103, 101, 115]
abbrev n_id : List UInt8 := [105, 100]
abbrev n_vec : List UInt8 := [118, 101, 99]
abbrev n_k : List UInt8 := [107]
abbrev n_width : List UInt8 := [119, 105, 100, 116, 104]
abbrev n_filter : List UInt8 := [102, 105, 108, 116, 101, 114]
abbrev n_num : List UInt8 := [110, 117, 109]
abbrev n_page : List UInt8 := [112, 97, 103, 101]
abbrev n_bytes : List UInt8 := [98, 121, 116, 101, 115]
abbrev n_version : List UInt8 := [118, 101, 114, 115, 105, 111, 110]
abbrev n_names : List UInt8 := [110, 97, 109, 101, 115]
abbrev n_items : List UInt8 := [105, 116, 101, 109, 115]
abbrev n_hits : List UInt8 := [104, 105, 116, 115]

/-- a message's form: the names of its fields, by its kind -/
def rForm (k : Nat) : List (List UInt8) × Bool :=
  if k = 1 then ([n_caps], true) else if k = 2 then ([n_caps, n_token, n_n], true) else if k = 3 then ([n_token, n_n], true) else if k = 4 ∨ k = 7 ∨ k = 8 ∨ k = 9 ∨ k = 10 then ([n_n], true) else if k = 5 ∨ k = 6 then ([n_code], true) else if k = 11 then ([n_req, n_conf], true) else if k = 12 ∨ k = 20 then ([n_req, n_name], true) else if k = 13 then ([n_req], true) else if k = 14 then ([n_req, n_name, n_changes], true) else if k = 15 then ([n_req, n_name, n_id], true) else if k = 16 then ([n_req, n_name, n_vec, n_k, n_width, n_filter], true) else if k = 17 then ([n_req, n_name, n_vec, n_filter], true) else if k = 18 then ([n_req, n_num, n_page, n_k], true) else if k = 19 ∨ k = 22 ∨ k = 23 then ([n_req, n_num], true) else if k = 21 then ([n_req, n_num, n_page, n_bytes], true) else if k = 24 then ([n_req, n_code, n_version, n_num, n_names, n_items, n_hits], true) else ([], false)

theorem build_all {te : Nat} {α : Type} {enc : α → V} {ps : List (Nat × V)} (xs : List α) (h : ps = xs.zipIdx.map fun x => (x.2, enc x.1)) (h1 : ∀ x, (enc x).cells.length = te) (h2 : ∀ x, V.known (enc x) = true) (h3 : ∀ x, V.isImm (enc x) = true) :
    ∀ (i : Nat) x, xs[i]? = some x → (ps[i]?).map (·.1) = some i ∧ (enc x).cells.length = te ∧ V.known (enc x) = true ∧ V.isImm (enc x) = true ∧ leP (ps[i]?) (enc x) := by
  intro i x hx
  subst h
  refine ⟨?_, h1 x, h2 x, h3 x, ?_⟩
  · simp [hx]
  · have e : (xs.zipIdx.map fun x => (x.2, enc x.1))[i]? = some (i, enc x) := by simp [hx]
    rw [e]
    exact leA_refl _

set_option maxRecDepth 8000 in
theorem rform_ob (k : Nat) (K : Post) (hK : K (.tup [.isl true 1 encStr (rForm k).1, .bool (rForm k).2]) [] 0) : CallOb Tryz.prog 33 [.int .u8 k] [] 0 K := by
  refine contract TryztabOk Tryz.checked.mixed Tryz.func33 rfl Tryz.call33 [] [.frz 0] [2, 3] (res2 Tryz.results33) Tryz.ntmps33 rfl ?_
  conv => whnf
  repeat' first
    | (refine br_dec (fun h => ?_) (fun h => ?_) <;> conv => whnf)
    | (refine br_intro (fun h => ?_) (fun h => ?_) <;> conv => whnf)
  all_goals first
    | omega
    | (unfold rForm at hK
       repeat first | rw [if_pos (by omega)] at hK | rw [if_neg (by omega)] at hK
       first
         | (refine ⟨_, _, _, ?_, leH_refl _, Nat.le_refl _, hK⟩; exact ⟨rfl, rfl, trivial⟩)
         | exact ⟨_, _, _, leT_refl _, leH_refl _, Nat.le_refl _, hK⟩
         | (refine ⟨List UInt8, encStr, [n_caps], rfl, build_all [n_caps] rfl (fun _ => rfl) (fun _ => rfl) (fun _ => rfl), ?_⟩
            conv => whnf
            exact ⟨_, _, _, leT_refl _, leH_refl _, Nat.le_refl _, hK⟩)
         | (refine ⟨List UInt8, encStr, [n_caps, n_token, n_n], rfl, build_all [n_caps, n_token, n_n] rfl (fun _ => rfl) (fun _ => rfl) (fun _ => rfl), ?_⟩
            conv => whnf
            exact ⟨_, _, _, leT_refl _, leH_refl _, Nat.le_refl _, hK⟩)
         | (refine ⟨List UInt8, encStr, [n_token, n_n], rfl, build_all [n_token, n_n] rfl (fun _ => rfl) (fun _ => rfl) (fun _ => rfl), ?_⟩
            conv => whnf
            exact ⟨_, _, _, leT_refl _, leH_refl _, Nat.le_refl _, hK⟩)
         | (refine ⟨List UInt8, encStr, [n_n], rfl, build_all [n_n] rfl (fun _ => rfl) (fun _ => rfl) (fun _ => rfl), ?_⟩
            conv => whnf
            exact ⟨_, _, _, leT_refl _, leH_refl _, Nat.le_refl _, hK⟩)
         | (refine ⟨List UInt8, encStr, [n_code], rfl, build_all [n_code] rfl (fun _ => rfl) (fun _ => rfl) (fun _ => rfl), ?_⟩
            conv => whnf
            exact ⟨_, _, _, leT_refl _, leH_refl _, Nat.le_refl _, hK⟩)
         | (refine ⟨List UInt8, encStr, [n_req, n_conf], rfl, build_all [n_req, n_conf] rfl (fun _ => rfl) (fun _ => rfl) (fun _ => rfl), ?_⟩
            conv => whnf
            exact ⟨_, _, _, leT_refl _, leH_refl _, Nat.le_refl _, hK⟩)
         | (refine ⟨List UInt8, encStr, [n_req, n_name], rfl, build_all [n_req, n_name] rfl (fun _ => rfl) (fun _ => rfl) (fun _ => rfl), ?_⟩
            conv => whnf
            exact ⟨_, _, _, leT_refl _, leH_refl _, Nat.le_refl _, hK⟩)
         | (refine ⟨List UInt8, encStr, [n_req], rfl, build_all [n_req] rfl (fun _ => rfl) (fun _ => rfl) (fun _ => rfl), ?_⟩
            conv => whnf
            exact ⟨_, _, _, leT_refl _, leH_refl _, Nat.le_refl _, hK⟩)
         | (refine ⟨List UInt8, encStr, [n_req, n_name, n_changes], rfl, build_all [n_req, n_name, n_changes] rfl (fun _ => rfl) (fun _ => rfl) (fun _ => rfl), ?_⟩
            conv => whnf
            exact ⟨_, _, _, leT_refl _, leH_refl _, Nat.le_refl _, hK⟩)
         | (refine ⟨List UInt8, encStr, [n_req, n_name, n_id], rfl, build_all [n_req, n_name, n_id] rfl (fun _ => rfl) (fun _ => rfl) (fun _ => rfl), ?_⟩
            conv => whnf
            exact ⟨_, _, _, leT_refl _, leH_refl _, Nat.le_refl _, hK⟩)
         | (refine ⟨List UInt8, encStr, [n_req, n_name, n_vec, n_k, n_width, n_filter], rfl, build_all [n_req, n_name, n_vec, n_k, n_width, n_filter] rfl (fun _ => rfl) (fun _ => rfl) (fun _ => rfl), ?_⟩
            conv => whnf
            exact ⟨_, _, _, leT_refl _, leH_refl _, Nat.le_refl _, hK⟩)
         | (refine ⟨List UInt8, encStr, [n_req, n_name, n_vec, n_filter], rfl, build_all [n_req, n_name, n_vec, n_filter] rfl (fun _ => rfl) (fun _ => rfl) (fun _ => rfl), ?_⟩
            conv => whnf
            exact ⟨_, _, _, leT_refl _, leH_refl _, Nat.le_refl _, hK⟩)
         | (refine ⟨List UInt8, encStr, [n_req, n_num, n_page, n_k], rfl, build_all [n_req, n_num, n_page, n_k] rfl (fun _ => rfl) (fun _ => rfl) (fun _ => rfl), ?_⟩
            conv => whnf
            exact ⟨_, _, _, leT_refl _, leH_refl _, Nat.le_refl _, hK⟩)
         | (refine ⟨List UInt8, encStr, [n_req, n_num], rfl, build_all [n_req, n_num] rfl (fun _ => rfl) (fun _ => rfl) (fun _ => rfl), ?_⟩
            conv => whnf
            exact ⟨_, _, _, leT_refl _, leH_refl _, Nat.le_refl _, hK⟩)
         | (refine ⟨List UInt8, encStr, [n_req, n_num, n_page, n_bytes], rfl, build_all [n_req, n_num, n_page, n_bytes] rfl (fun _ => rfl) (fun _ => rfl) (fun _ => rfl), ?_⟩
            conv => whnf
            exact ⟨_, _, _, leT_refl _, leH_refl _, Nat.le_refl _, hK⟩)
         | (refine ⟨List UInt8, encStr, [n_req, n_code, n_version, n_num, n_names, n_items, n_hits], rfl, build_all [n_req, n_code, n_version, n_num, n_names, n_items, n_hits] rfl (fun _ => rfl) (fun _ => rfl) (fun _ => rfl), ?_⟩
            conv => whnf
            exact ⟨_, _, _, leT_refl _, leH_refl _, Nat.le_refl _, hK⟩))

def Msg.zero (k : Nat) : Msg := ⟨k, 0, 0, 0, 0, 0, [], ⟨[], 0, 0, false, 0, 0⟩, [], 0, [], 0, 0, [], [], [], 0, 0, [], 0, [], [], []⟩

/-- a field, by its name, is taken over -/
def rTake (m y : Msg) (nm : List UInt8) : Msg := if nm = n_req then { y with req := m.req } else if nm = n_caps then { y with caps := m.caps } else if nm = n_token then { y with token := m.token } else if nm = n_code then { y with code := m.code } else if nm = n_n then { y with n := m.n } else if nm = n_name then { y with name := m.name } else if nm = n_conf then { y with conf := m.conf } else if nm = n_changes then { y with changes := m.changes } else if nm = n_id then { y with id := m.id } else if nm = n_vec then { y with vec := m.vec } else if nm = n_k then { y with k := m.k } else if nm = n_width then { y with width := m.width } else if nm = n_filter then { y with fall := m.fall, fany := m.fany, fnone := m.fnone } else if nm = n_num then { y with num := m.num } else if nm = n_page then { y with page := m.page } else if nm = n_bytes then { y with bytes := m.bytes } else if nm = n_version then { y with version := m.version } else if nm = n_names then { y with names := m.names } else if nm = n_items then { y with items := m.items } else if nm = n_hits then { y with hits := m.hits } else y

def rOnly (m : Msg) : Msg := (rForm m.kind).1.foldl (rTake m) (Msg.zero m.kind)

set_option maxRecDepth 8000 in
theorem ronly_ob (m : Msg) (K : Post) (hK : K (.agg (rOnly m).cells) [] 0) : CallOb Tryz.prog 34 [.agg m.cells] [] 0 K := by
  refine contractC TryztabOk Tryz.checked.mixed Tryz.func34 rfl Tryz.call34 [] [] [.cell 2 37] (resC1 Tryz.results34) Tryz.ntmps34 rfl ?_
  conv => whnf
  refine call_rule [] ?_
  conv => whnf
  refine rform_ob m.kind _ ?_
  conv => whnf
  have hlen : (rForm m.kind).1.length ≤ 7 := by
    unfold rForm
    repeat' refine iteP (fun x : List (List UInt8) × Bool => x.1.length ≤ 7) (by decide) ?_
    decide
  refine loop_rule TryztabOk Tryz.checked.mixed [1, 2, 3, 4, 6] [] [] (T := { i : Nat // i ≤ (rForm m.kind).1.length }) (fun x => [.ptr 0 0, .ptr 1 0, .ptr 2 0, .isl true 1 encStr (rForm m.kind).1, .int .i64 (x.1 : Int)])
    (fun x => [(0, .cells 37 m.cells), (1, .cells 37 (Msg.zero 0).cells), (2, .cells 37 (((rForm m.kind).1.take x.1).foldl (rTake m) (Msg.zero m.kind)).cells)]) 3 (fun x => (rForm m.kind).1.length - x.1) ⟨0, by omega⟩ rfl rfl ?_ ?_
  · conv => whnf
    refine ⟨leTs_refl _, ⟨rfl, leO_refl _, rfl, ⟨rfl, by simp [Msg.cells, leFs, leF, Msg.zero]⟩, rfl, ⟨rfl, by simp [Msg.cells, leFs, leF, Msg.zero]; exact ⟨rfl, rfl⟩⟩, trivial⟩, Nat.le_refl _⟩
  · rintro ⟨i, hi⟩
    conv => whnf
    refine br_dec (fun hlt => ?_) (fun hlt => ?_)
    · have hlt : i < (rForm m.kind).1.length := by simp only at hlt; omega
      have hsu : ∀ x, (rForm m.kind).1[i]? = some x → ((rForm m.kind).1.take (i + 1)).foldl (rTake m) (Msg.zero m.kind) = rTake m (((rForm m.kind).1.take i).foldl (rTake m) (Msg.zero m.kind)) x := fun x hx => foldl_take_succ (rTake m) _ hx
      generalize hgy : ((rForm m.kind).1.take i).foldl (rTake m) (Msg.zero m.kind) = y at hsu
      simp only [hgy]
      have fin : ∀ x, (rForm m.kind).1[i]? = some x → ∀ (cs : List V), leFs cs (rTake m y x).cells → ∃ t' : { i : Nat // i ≤ (rForm m.kind).1.length }, (rForm m.kind).1.length - t'.1 < (rForm m.kind).1.length - i ∧
          leTs [.ptr 0 0, .ptr 1 0, .ptr 2 0, .isl true 1 encStr (rForm m.kind).1, .int .i64 (IntKind.i64.wrap ((i : Int) + 1))] [.ptr 0 0, .ptr 1 0, .ptr 2 0, .isl true 1 encStr (rForm m.kind).1, .int .i64 (t'.1 : Int)] ∧
          leH [(0, .cells 37 m.cells), (1, .cells 37 (Msg.zero 0).cells), (2, .cells 37 cs)] [(0, .cells 37 m.cells), (1, .cells 37 (Msg.zero 0).cells), (2, .cells 37 (((rForm m.kind).1.take t'.1).foldl (rTake m) (Msg.zero m.kind)).cells)] ∧ 3 ≤ 3 := by
        intro x hx cs hcs
        refine ⟨⟨i + 1, hlt⟩, ?_, ⟨leT_refl _, leT_refl _, leT_refl _, leT_refl _, ⟨rfl, wrapI64' (m := i + 1) (by omega)⟩, trivial⟩, ?_, Nat.le_refl _⟩
        · show (rForm m.kind).1.length - (i + 1) < (rForm m.kind).1.length - i; omega
        · simp only [hsu x hx]
          exact ⟨rfl, leO_refl _, rfl, leO_refl _, rfl, ⟨rfl, hcs⟩, trivial⟩
      conv => whnf
      refine ⟨⟨by omega, by omega⟩, ?_⟩
      intro x hxi
      have hxi' : (rForm m.kind).1[i]? = some x := by simpa using hxi
      have fin := fin x hxi'
      unfold rTake at fin
      conv => whnf
      refine br_intro (fun h0 => ?_) (fun h0 => ?_)
      · have h0 : x = n_req := by simpa using h0
        rw [if_pos h0] at fin
        conv => whnf
        exact fin _ (leFs_refl _)
      have h0 : ¬ x = n_req := by simpa using h0
      conv => whnf
      refine br_intro (fun h1 => ?_) (fun h1 => ?_)
      · have h1 : x = n_caps := by simpa using h1
        rw [if_neg h0, if_pos h1] at fin
        conv => whnf
        exact fin _ (leFs_refl _)
      have h1 : ¬ x = n_caps := by simpa using h1
      conv => whnf
      refine br_intro (fun h2 => ?_) (fun h2 => ?_)
      · have h2 : x = n_token := by simpa using h2
        rw [if_neg h0, if_neg h1, if_pos h2] at fin
        conv => whnf
        exact fin _ (leFs_refl _)
      have h2 : ¬ x = n_token := by simpa using h2
      conv => whnf
      refine br_intro (fun h3 => ?_) (fun h3 => ?_)
      · have h3 : x = n_code := by simpa using h3
        rw [if_neg h0, if_neg h1, if_neg h2, if_pos h3] at fin
        conv => whnf
        exact fin _ (leFs_refl _)
      have h3 : ¬ x = n_code := by simpa using h3
      conv => whnf
      refine br_intro (fun h4 => ?_) (fun h4 => ?_)
      · have h4 : x = n_n := by simpa using h4
        rw [if_neg h0, if_neg h1, if_neg h2, if_neg h3, if_pos h4] at fin
        conv => whnf
        exact fin _ (leFs_refl _)
      have h4 : ¬ x = n_n := by simpa using h4
      conv => whnf
      refine br_intro (fun h5 => ?_) (fun h5 => ?_)
      · have h5 : x = n_name := by simpa using h5
        rw [if_neg h0, if_neg h1, if_neg h2, if_neg h3, if_neg h4, if_pos h5] at fin
        conv => whnf
        exact fin _ (leFs_refl _)
      have h5 : ¬ x = n_name := by simpa using h5
      conv => whnf
      refine br_intro (fun h6 => ?_) (fun h6 => ?_)
      · have h6 : x = n_conf := by simpa using h6
        rw [if_neg h0, if_neg h1, if_neg h2, if_neg h3, if_neg h4, if_neg h5, if_pos h6] at fin
        conv => whnf
        exact fin _ (leFs_refl _)
      have h6 : ¬ x = n_conf := by simpa using h6
      conv => whnf
      refine br_intro (fun h7 => ?_) (fun h7 => ?_)
      · have h7 : x = n_changes := by simpa using h7
        rw [if_neg h0, if_neg h1, if_neg h2, if_neg h3, if_neg h4, if_neg h5, if_neg h6, if_pos h7] at fin
        conv => whnf
        exact fin _ (leFs_refl _)
      have h7 : ¬ x = n_changes := by simpa using h7
      conv => whnf
      refine br_intro (fun h8 => ?_) (fun h8 => ?_)
      · have h8 : x = n_id := by simpa using h8
        rw [if_neg h0, if_neg h1, if_neg h2, if_neg h3, if_neg h4, if_neg h5, if_neg h6, if_neg h7, if_pos h8] at fin
        conv => whnf
        exact fin _ (leFs_refl _)
      have h8 : ¬ x = n_id := by simpa using h8
      conv => whnf
      refine br_intro (fun h9 => ?_) (fun h9 => ?_)
      · have h9 : x = n_vec := by simpa using h9
        rw [if_neg h0, if_neg h1, if_neg h2, if_neg h3, if_neg h4, if_neg h5, if_neg h6, if_neg h7, if_neg h8, if_pos h9] at fin
        conv => whnf
        exact fin _ (leFs_refl _)
      have h9 : ¬ x = n_vec := by simpa using h9
      conv => whnf
      refine br_intro (fun h10 => ?_) (fun h10 => ?_)
      · have h10 : x = n_k := by simpa using h10
        rw [if_neg h0, if_neg h1, if_neg h2, if_neg h3, if_neg h4, if_neg h5, if_neg h6, if_neg h7, if_neg h8, if_neg h9, if_pos h10] at fin
        conv => whnf
        exact fin _ (leFs_refl _)
      have h10 : ¬ x = n_k := by simpa using h10
      conv => whnf
      refine br_intro (fun h11 => ?_) (fun h11 => ?_)
      · have h11 : x = n_width := by simpa using h11
        rw [if_neg h0, if_neg h1, if_neg h2, if_neg h3, if_neg h4, if_neg h5, if_neg h6, if_neg h7, if_neg h8, if_neg h9, if_neg h10, if_pos h11] at fin
        conv => whnf
        exact fin _ (leFs_refl _)
      have h11 : ¬ x = n_width := by simpa using h11
      conv => whnf
      refine br_intro (fun h12 => ?_) (fun h12 => ?_)
      · have h12 : x = n_filter := by simpa using h12
        rw [if_neg h0, if_neg h1, if_neg h2, if_neg h3, if_neg h4, if_neg h5, if_neg h6, if_neg h7, if_neg h8, if_neg h9, if_neg h10, if_neg h11, if_pos h12] at fin
        conv => whnf
        exact fin _ (leFs_refl _)
      have h12 : ¬ x = n_filter := by simpa using h12
      conv => whnf
      refine br_intro (fun h13 => ?_) (fun h13 => ?_)
      · have h13 : x = n_num := by simpa using h13
        rw [if_neg h0, if_neg h1, if_neg h2, if_neg h3, if_neg h4, if_neg h5, if_neg h6, if_neg h7, if_neg h8, if_neg h9, if_neg h10, if_neg h11, if_neg h12, if_pos h13] at fin
        conv => whnf
        exact fin _ (leFs_refl _)
      have h13 : ¬ x = n_num := by simpa using h13
      conv => whnf
      refine br_intro (fun h14 => ?_) (fun h14 => ?_)
      · have h14 : x = n_page := by simpa using h14
        rw [if_neg h0, if_neg h1, if_neg h2, if_neg h3, if_neg h4, if_neg h5, if_neg h6, if_neg h7, if_neg h8, if_neg h9, if_neg h10, if_neg h11, if_neg h12, if_neg h13, if_pos h14] at fin
        conv => whnf
        exact fin _ (leFs_refl _)
      have h14 : ¬ x = n_page := by simpa using h14
      conv => whnf
      refine br_intro (fun h15 => ?_) (fun h15 => ?_)
      · have h15 : x = n_bytes := by simpa using h15
        rw [if_neg h0, if_neg h1, if_neg h2, if_neg h3, if_neg h4, if_neg h5, if_neg h6, if_neg h7, if_neg h8, if_neg h9, if_neg h10, if_neg h11, if_neg h12, if_neg h13, if_neg h14, if_pos h15] at fin
        conv => whnf
        exact fin _ (leFs_refl _)
      have h15 : ¬ x = n_bytes := by simpa using h15
      conv => whnf
      refine br_intro (fun h16 => ?_) (fun h16 => ?_)
      · have h16 : x = n_version := by simpa using h16
        rw [if_neg h0, if_neg h1, if_neg h2, if_neg h3, if_neg h4, if_neg h5, if_neg h6, if_neg h7, if_neg h8, if_neg h9, if_neg h10, if_neg h11, if_neg h12, if_neg h13, if_neg h14, if_neg h15, if_pos h16] at fin
        conv => whnf
        exact fin _ (leFs_refl _)
      have h16 : ¬ x = n_version := by simpa using h16
      conv => whnf
      refine br_intro (fun h17 => ?_) (fun h17 => ?_)
      · have h17 : x = n_names := by simpa using h17
        rw [if_neg h0, if_neg h1, if_neg h2, if_neg h3, if_neg h4, if_neg h5, if_neg h6, if_neg h7, if_neg h8, if_neg h9, if_neg h10, if_neg h11, if_neg h12, if_neg h13, if_neg h14, if_neg h15, if_neg h16, if_pos h17] at fin
        conv => whnf
        exact fin _ (leFs_refl _)
      have h17 : ¬ x = n_names := by simpa using h17
      conv => whnf
      refine br_intro (fun h18 => ?_) (fun h18 => ?_)
      · have h18 : x = n_items := by simpa using h18
        rw [if_neg h0, if_neg h1, if_neg h2, if_neg h3, if_neg h4, if_neg h5, if_neg h6, if_neg h7, if_neg h8, if_neg h9, if_neg h10, if_neg h11, if_neg h12, if_neg h13, if_neg h14, if_neg h15, if_neg h16, if_neg h17, if_pos h18] at fin
        conv => whnf
        exact fin _ (leFs_refl _)
      have h18 : ¬ x = n_items := by simpa using h18
      conv => whnf
      refine br_intro (fun h19 => ?_) (fun h19 => ?_)
      · have h19 : x = n_hits := by simpa using h19
        rw [if_neg h0, if_neg h1, if_neg h2, if_neg h3, if_neg h4, if_neg h5, if_neg h6, if_neg h7, if_neg h8, if_neg h9, if_neg h10, if_neg h11, if_neg h12, if_neg h13, if_neg h14, if_neg h15, if_neg h16, if_neg h17, if_neg h18, if_pos h19] at fin
        conv => whnf
        exact fin _ (leFs_refl _)
      have h19 : ¬ x = n_hits := by simpa using h19
      conv => whnf
      rw [if_neg h0, if_neg h1, if_neg h2, if_neg h3, if_neg h4, if_neg h5, if_neg h6, if_neg h7, if_neg h8, if_neg h9, if_neg h10, if_neg h11, if_neg h12, if_neg h13, if_neg h14, if_neg h15, if_neg h16, if_neg h17, if_neg h18, if_neg h19] at fin
      exact fin _ (leFs_refl _)
    · have hi' : (rForm m.kind).1.take i = (rForm m.kind).1 := List.take_of_length_le (by simp only at hlt; omega)
      simp only [hi']
      conv => whnf
      exact ⟨_, _, _, leT_refl _, leH_refl _, Nat.le_refl _, hK⟩

end Go.Sx
end

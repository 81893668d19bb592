/- lodestarref06: Form, Only (printed by genref.py); no condition. -/
import Derived.Test.YtlbbdkecjpaglaaFai

set_option linter.all false

section
open Go.Proofs
namespace Go.Sx
set_option linter.unusedVariables false

abbrev n_req : List UInt8 := [114, 101, 113]
abbrev n_caps : List UInt8 := [99, 97, 112, 115]
abbrev n_token : List UInt8 := [116, 111, 107, 101, 110]
abbrev n_code : List UInt8 := [99, 111, 100, 101]
abbrev n_n : List UInt8 := [110]
abbrev n_name : List UInt8 := [110, 97, 109, 101]
abbrev n_conf : List UInt8 := [99, 111, 110, 102]
abbrev n_changes : List UInt8 := [99, 104, 97, 110, 103, 101, 115]
abbrev n_id : List UInt8 := [105, 100]
abbrev n_vec : List UInt8 := [118, 101, 99]
abbrev n_k : List UInt8 := [107]
abbrev n_width : List UInt8 := [119, 105, 100, 116, 104]
abbrev n_filter : List UInt8 := [102, 105, 108, 116, 101, 114]
abbrev n_num : List UInt8 := [110, 117, 109]
abbrev n_page : List UInt8 := [112, 97, 103, 101]
abbrev n_bytes : List UInt8 := [98, 121, 116, 101, 115]
abbrev n_version : List UInt8 := [118, 101, 114, 115, 105, 111, 110]
abbrev n_names : List UInt8 := [110, 97, 109, 101, 115]
abbrev n_items : List UInt8 := [105, 116, 101, 109, 115]
abbrev n_hits : List UInt8 := [104, 105, 116, 115]

/-- a message's form: the names of its fields, by its kind -/
def rForm (k : Nat) : List (List UInt8) × Bool :=
  if k = 1 then ([n_caps], true) else if k = 2 then ([n_caps, n_token, n_n], true) else if k = 3 then ([n_token, n_n], true) else if k = 4 ∨ k = 7 ∨ k = 8 ∨ k = 9 ∨ k = 10 then ([n_n], true) else if k = 5 ∨ k = 6 then ([n_code], true) else if k = 11 then ([n_req, n_conf], true) else if k = 12 ∨ k = 20 then ([n_req, n_name], true) else if k = 13 then ([n_req], true) else if k = 14 then ([n_req, n_name, n_changes], true) else if k = 15 then ([n_req, n_name, n_id], true) else if k = 16 then ([n_req, n_name, n_vec, n_k, n_width, n_filter], true) else if k = 17 then ([n_req, n_name, n_vec, n_filter], true) else if k = 18 then ([n_req, n_num, n_page, n_k], true) else if k = 19 ∨ k = 22 ∨ k = 23 then ([n_req, n_num], true) else if k = 21 then ([n_req, n_num, n_page, n_bytes], true) else if k = 24 then ([n_req, n_code, n_version, n_num, n_names, n_items, n_hits], true) else ([], false)

theorem build_all {te : Nat} {α : Type} {enc : α → V} {ps : List (Nat × V)} (xs : List α) (h : ps = xs.zipIdx.map fun x => (x.2, enc x.1)) (h1 : ∀ x, (enc x).cells.length = te) (h2 : ∀ x, V.known (enc x) = true) (h3 : ∀ x, V.isImm (enc x) = true) :
    ∀ (i : Nat) x, xs[i]? = some x → (ps[i]?).map (·.1) = some i ∧ (enc x).cells.length = te ∧ V.known (enc x) = true ∧ V.isImm (enc x) = true ∧ leP (ps[i]?) (enc x) := by
  intro i x hx
  subst h
  refine ⟨?_, h1 x, h2 x, h3 x, ?_⟩
  · simp [hx]
  · have e : (xs.zipIdx.map fun x => (x.2, enc x.1))[i]? = some (i, enc x) := by simp [hx]
    rw [e]
    exact leA_refl _

def Msg.zero (k : Nat) : Msg := ⟨k, 0, 0, 0, 0, 0, [], ⟨[], 0, 0, false, 0, 0⟩, [], 0, [], 0, 0, [], [], [], 0, 0, [], 0, [], [], []⟩

/-- a field, by its name, is taken over -/
def rTake (m y : Msg) (nm : List UInt8) : Msg := if nm = n_req then { y with req := m.req } else if nm = n_caps then { y with caps := m.caps } else if nm = n_token then { y with token := m.token } else if nm = n_code then { y with code := m.code } else if nm = n_n then { y with n := m.n } else if nm = n_name then { y with name := m.name } else if nm = n_conf then { y with conf := m.conf } else if nm = n_changes then { y with changes := m.changes } else if nm = n_id then { y with id := m.id } else if nm = n_vec then { y with vec := m.vec } else if nm = n_k then { y with k := m.k } else if nm = n_width then { y with width := m.width } else if nm = n_filter then { y with fall := m.fall, fany := m.fany, fnone := m.fnone } else if nm = n_num then { y with num := m.num } else if nm = n_page then { y with page := m.page } else if nm = n_bytes then { y with bytes := m.bytes } else if nm = n_version then { y with version := m.version } else if nm = n_names then { y with names := m.names } else if nm = n_items then { y with items := m.items } else if nm = n_hits then { y with hits := m.hits } else y

def rOnly (m : Msg) : Msg := (rForm m.kind).1.foldl (rTake m) (Msg.zero m.kind)

end Go.Sx
end

/- lodestarref06.Put (printed by genput.py); no condition. -/
import Derived.Test.YtlbbdkecjpaglaaFal

set_option linter.all false

section
open Go.Proofs
namespace Go.Sx
set_option linter.unusedVariables false

def rPutF (m : Msg) (s : WS) (nm : List UInt8) : WS := if nm = n_req then (s.1 ++ vput m.req, s.2) else if nm = n_caps then (s.1 ++ vput m.caps, s.2) else if nm = n_token then (s.1 ++ vput m.token, s.2) else if nm = n_code then (s.1 ++ vput m.code, s.2) else if nm = n_n then (s.1 ++ vput m.n, s.2) else if nm = n_name then wText s m.name else if nm = n_conf then wConf s m.conf else if nm = n_changes then wList wChg m.changes s else if nm = n_id then (s.1 ++ vput m.id, s.2) else if nm = n_vec then wList wVecOne m.vec s else if nm = n_k then (s.1 ++ vput m.k, s.2) else if nm = n_width then (s.1 ++ vput m.width, s.2) else if nm = n_filter then wList wText m.fnone (wList wText m.fany (wList wText m.fall s)) else if nm = n_num then (s.1 ++ vput m.num, s.2) else if nm = n_page then (s.1 ++ vput m.page, s.2) else if nm = n_bytes then wText s m.bytes else if nm = n_version then (s.1 ++ vput m.version, s.2) else if nm = n_names then wList wText m.names s else if nm = n_items then wList wItem m.items s else if nm = n_hits then wList wHit m.hits s else s

def rRun (m : Msg) (l : List (List UInt8)) (s : WS) : WS := l.foldl (rPutF m) s

theorem rPutF_len (m : Msg) (hm : m.Ok) (s : WS) (nm : List UInt8) : (rPutF m s nm).1.length ≤ s.1.length + 70000000 := by
  have v1 := vput_len10 (n := m.req) (by have := hm.req; omega)
  have v2 := vput_len10 (n := m.caps) (by have := hm.caps; omega)
  have v3 := vput_len10 (n := m.token) (by have := hm.token; omega)
  have v4 := vput_len10 (n := m.code) (by have := hm.code; omega)
  have v5 := vput_len10 (n := m.n) (by have := hm.n; omega)
  have v6 := vput_len10 (n := m.id) (by have := hm.id; omega)
  have v7 := vput_len10 (n := m.k) (by have := hm.k; omega)
  have v8 := vput_len10 (n := m.width) (by have := hm.width; omega)
  have v9 := vput_len10 (n := m.num) (by have := hm.num; omega)
  have v10 := wText_len s m.name
  have v11 := wConf_len s hm.conf
  have v12 := wList_len (f := wChg) (c := 530010) (xs := m.changes) (fun s t h => wChg_len s (hm.changes.1 t h)) s
  have v13 := wVecs_len hm.vec.1 s
  have v14 := tlen m.fall s
  have v15 := tlen m.fany (wList wText m.fall s)
  have v16 := tlen m.fnone (wList wText m.fany (wList wText m.fall s))
  have w1 := vput_len10 (n := m.page) (by have := hm.page; omega)
  have w2 := vput_len10 (n := m.version) (by have := hm.version; omega)
  have w3 := wText_len s m.bytes
  have w4 := tlen m.names s
  have w5 := wList_len (f := wItem) (c := 530000) (xs := m.items) (fun s t h => wItem_len s (hm.items.1 t h)) s
  have w6 := wList_len (f := wHit) (c := 20) (xs := m.hits) (fun s t h => wHit_len s (hm.hits.1 t h)) s
  unfold rPutF
  repeat' refine iteP (fun x : WS => x.1.length ≤ s.1.length + 70000000) (by first | (simp only [List.length_append]; omega) | omega) ?_
  omega

theorem rRun_len (m : Msg) (hm : m.Ok) : ∀ (l : List (List UInt8)) (s : WS), (rRun m l s).1.length ≤ s.1.length + 70000000 * l.length
  | [], s => by simp [rRun]
  | b :: l, s => by
    have h1 := rPutF_len m hm s b
    have h2 := rRun_len m hm l (rPutF m s b)
    refine Nat.le_trans h2 ?_
    simp only [List.length_cons]
    omega

theorem wConf_st2 (s : WS) (c : Conf) (h : s.2 = true) : (wConf s c).2 = true := by simp [wConf, wText, h]

theorem rPutF_st2 (m : Msg) (s : WS) (nm : List UInt8) (h : s.2 = true) : (rPutF m s nm).2 = true := by
  unfold rPutF
  repeat' refine iteP (fun x : WS => x.2 = true) (by first | exact h | exact wText_st2 _ _ h | exact wConf_st2 _ _ h | exact wList_st2 _ _ h | exact wList_st2 _ _ (wList_st2 _ _ (wList_st2 _ _ h))) ?_
  exact h

open Classical in
/-- a message written, as the document has it -/
noncomputable def rPut (m : Msg) : Option (List UInt8) :=
  if (rForm m.kind).2 = true ∧ m = rOnly m ∧ (rRun m (rForm m.kind).1 ([], false)).2 = false then some (rRun m (rForm m.kind).1 ([], false)).1 else none

theorem rForm_len (k : Nat) : (rForm k).1.length ≤ 7 := by
  unfold rForm
  repeat' refine iteP (fun x : List (List UInt8) × Bool => x.1.length ≤ 7) (by decide) ?_
  decide

abbrev PutT (m : Msg) : Type := { x : Nat × List UInt8 // x.1 ≤ (rForm m.kind).1.length ∧ rRun m ((rForm m.kind).1.take x.1) ([], false) = (x.2, false) } ⊕ ({ x : Nat × List UInt8 // (rRun m (rForm m.kind).1 ([], false)).2 = true } ⊕ { i : Nat // (rRun m (rForm m.kind).1 ([], false)).2 = true })

def putI (m : Msg) : PutT m → List V
  | .inl x => [.ptr 0 0, .isl true 1 encStr (rForm m.kind).1, .bool true, .vec 1, .int .i64 (x.1.1 : Int)]
  | .inr (.inl x) => [.ptr 0 0, .isl true 1 encStr (rForm m.kind).1, .bool false, .vec 1, .int .i64 (x.1.1 : Int)]
  | .inr (.inr x) => [.ptr 0 0, .isl true 1 encStr (rForm m.kind).1, .bool false, .junk, .int .i64 (x.1 : Int)]

def putH (m : Msg) : PutT m → Hp
  | .inl x => [(0, .cells 42 m.cells), (1, .row 5 1 encB x.1.2)]
  | .inr (.inl x) => [(0, .cells 42 m.cells), (1, .row 5 1 encB x.1.2)]
  | .inr (.inr x) => [(0, .cells 42 m.cells)]

def putM (m : Msg) : PutT m → Nat
  | .inl x => (rForm m.kind).1.length - x.1.1 + 1
  | .inr _ => 0

end Go.Sx
end

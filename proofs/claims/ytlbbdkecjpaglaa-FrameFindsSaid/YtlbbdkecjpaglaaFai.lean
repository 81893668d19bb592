/- message.empty; no condition. message.Put; no condition. lodestarref06's writers: num, flag, text, vec, texts; no condition. lodestarref06's writers: texts, item, hits; no condition. lodestarref06's writers: hits, items, changes; no condition. lodestarref06.Changes; no condition. A contract of a function some of whose results stand in variables. No condition. -/
import Derived.Test.YtlbbdkecjpaglaaFah

set_option linter.all false

section
open Go.Proofs
namespace Go.Sx
set_option linter.unusedVariables false
theorem br_no {A B : Prop} (h : B) : br false A B := h
theorem br_yes {A B : Prop} (h : A) : br true A B := h

theorem condAnd (a b : Bool) : ((bif a then b else false) = true) = (a = true ∧ b = true) := by cases a <;> simp

/-- zero, but for its kind -/
def Msg.Empty (m : Msg) : Prop := m.req = 0 ∧ m.caps = 0 ∧ m.token = 0 ∧ m.code = 0 ∧ m.n = 0 ∧ m.name = [] ∧ (m.conf.name = [] ∧ m.conf.dim = 0 ∧ m.conf.metric = 0 ∧ m.conf.graph = false ∧ m.conf.links = 0 ∧ m.conf.width = 0) ∧ m.changes = [] ∧ m.id = 0 ∧ m.vec = [] ∧
  m.k = 0 ∧ m.width = 0 ∧ m.fall = [] ∧ m.fany = [] ∧ m.fnone = [] ∧ m.num = 0 ∧ m.page = 0 ∧ m.bytes = [] ∧ m.version = 0 ∧ m.names = [] ∧ m.items = [] ∧ m.hits = []

theorem ic0 {n : Nat} : ((n : Int) = 0) = (n = 0) := by simp
theorem il0 {α : Type} {l : List α} : ((l.length : Int) = 0) = (l = []) := by simp

set_option maxRecDepth 8000 in
theorem empty_ob (m : Msg) (K : Post) (hK : ∀ b : Bool, (b = true ↔ m.Empty) → K (.bool b) [] 0) : CallOb Try.prog 29 [.agg m.cells] [] 0 K := by
  refine contract TrytabOk Try.checked.mixed Try.func29 rfl Try.call29 [] [] [2] (res1 Try.results29) Try.ntmps29 rfl ?_
  conv => whnf
  refine br_intro (fun h => ?_) (fun h => ?_)
  · conv => whnf
    refine ⟨_, _, _, leT_refl _, leH_refl _, Nat.le_refl _, hK _ ?_⟩
    simp only [condAnd, decide_eq_true_eq, Bool.and_eq_true, beq_iff_eq, ic0, List.length_eq_zero_iff, and_true] at h ⊢
    obtain ⟨⟨⟨⟨⟨h1, h2⟩, h3⟩, h4⟩, h5⟩, h6⟩ := h
    constructor
    · rintro ⟨⟨⟨⟨⟨⟨⟨⟨⟨⟨⟨⟨⟨⟨⟨⟨_, a7⟩, a8⟩, a9⟩, a10⟩, a11⟩, a12⟩, a13⟩, a14⟩, a15⟩, a16⟩, a17⟩, a18⟩, a19⟩, a20⟩, a21⟩, a22⟩
      exact ⟨h1, h2, h3, h4, h5, h6, a7, a8, a9, a10, a11, a12, a13, a14, a15, a16, a17, a18, a19, a20, a21, a22⟩
    · rintro ⟨_, _, _, _, _, _, a7, a8, a9, a10, a11, a12, a13, a14, a15, a16, a17, a18, a19, a20, a21, a22⟩
      exact ⟨⟨⟨⟨⟨⟨⟨⟨⟨⟨⟨⟨⟨⟨⟨⟨trivial, a7⟩, a8⟩, a9⟩, a10⟩, a11⟩, a12⟩, a13⟩, a14⟩, a15⟩, a16⟩, a17⟩, a18⟩, a19⟩, a20⟩, a21⟩, a22⟩
  · conv => whnf
    refine ⟨_, _, _, leT_refl _, leH_refl _, Nat.le_refl _, hK _ ?_⟩
    have h' := Bool.eq_false_iff.1 h
    simp only [condAnd, decide_eq_true_eq, Bool.and_eq_true, beq_iff_eq, ic0, List.length_eq_zero_iff, ne_eq] at h' ⊢
    constructor
    · rintro ⟨⟨⟨⟨⟨⟨⟨⟨⟨⟨⟨⟨⟨⟨⟨⟨a6, a7⟩, a8⟩, a9⟩, a10⟩, a11⟩, a12⟩, a13⟩, a14⟩, a15⟩, a16⟩, a17⟩, a18⟩, a19⟩, a20⟩, a21⟩, a22⟩
    · rintro ⟨h1, h2, h3, h4, h5, h6, _⟩
      exact (h' ⟨⟨⟨⟨⟨h1, h2⟩, h3⟩, h4⟩, h5⟩, h6⟩).elim

end Go.Sx
end

section
open Go.Proofs
namespace Go.Sx
set_option linter.unusedVariables false

theorem iteP {α : Type _} (P : α → Prop) {c : Prop} [Decidable c] {a b : α} (h1 : P a) (h2 : P b) : P (if c then a else b) := by
  by_cases h : c
  · rw [if_pos h]; exact h1
  · rw [if_neg h]; exact h2

theorem tlen (l : List (List UInt8)) (s : WS) : (wList wText l s).1.length ≤ s.1.length + 530000 := by
  have := wList_len (f := wText) (c := 4106) (xs := l) (fun s t _ => wText_len s t) s
  omega

theorem mRest_ok (ch : Nat) (s : WS) {m : Msg} (hm : m.Ok) : (mRest ch s m).2.Ok ∧ (mRest ch s m).1.1.length ≤ s.1.length + 70000000 := by
  have v1 := vput_len10 (n := m.page) (by have := hm.page; omega)
  have v2 := vput_len10 (n := m.version) (by have := hm.version; omega)
  have v3 := wText_len s m.bytes
  have v4 := tlen m.names s
  have v5 := wList_len (f := wItem) (c := 530000) (xs := m.items) (fun s t h => wItem_len s (hm.items.1 t h)) s
  have v6 := wList_len (f := wHit) (c := 20) (xs := m.hits) (fun s t h => wHit_len s (hm.hits.1 t h)) s
  unfold mRest
  repeat' split
  all_goals refine ⟨?_, by simp only [List.length_append]; omega⟩
  · exact { hm with page := by simp }
  · exact { hm with bytes := by simp }
  · exact { hm with version := by simp }
  · exact { hm with names := ⟨by simp, by simp⟩ }
  · exact { hm with items := ⟨by simp, by simp⟩ }
  · exact { hm with hits := ⟨by simp, by simp⟩ }
  · exact hm

theorem wConf_len (s : WS) {c : Conf} (hx : c.Ok) : (wConf s c).1.length ≤ s.1.length + 5000 := by
  have l0 := wText_len (s.1, s.2 || decide (1 < c.metric)) c.name
  have l1 := vput_len10 (n := c.dim) (by have := hx.dim; omega)
  have l2 := vput_len10 (n := c.metric) (by have := hx.metric; omega)
  have l3 := vput_len10 (n := c.graph.toNat) (by cases c.graph <;> decide)
  have l4 := vput_len10 (n := c.links) (by have := hx.links; omega)
  have l5 := vput_len10 (n := c.width) (by have := hx.width; omega)
  simp only [wConf, List.length_append] at *
  omega

theorem mField_ok (ch : Nat) (s : WS) {m : Msg} (hm : m.Ok) : (mField ch s m).2.Ok ∧ (mField ch s m).1.1.length ≤ s.1.length + 70000000 := by
  have r := mRest_ok ch s hm
  have v1 := vput_len10 (n := m.req) (by have := hm.req; omega)
  have v2 := vput_len10 (n := m.caps) (by have := hm.caps; omega)
  have v3 := vput_len10 (n := m.token) (by have := hm.token; omega)
  have v4 := vput_len10 (n := m.code) (by have := hm.code; omega)
  have v5 := vput_len10 (n := m.n) (by have := hm.n; omega)
  have v6 := vput_len10 (n := m.id) (by have := hm.id; omega)
  have v7 := vput_len10 (n := m.k) (by have := hm.k; omega)
  have v8 := vput_len10 (n := m.width) (by have := hm.width; omega)
  have v9 := vput_len10 (n := m.num) (by have := hm.num; omega)
  have v10 := wText_len s m.name
  have v11 := wConf_len s hm.conf
  have v12 := wList_len (f := wChg) (c := 530010) (xs := m.changes) (fun s t h => wChg_len s (hm.changes.1 t h)) s
  have v13 := wVecs_len hm.vec.1 s
  have v14 := tlen m.fall s
  have v15 := tlen m.fany (wList wText m.fall s)
  have v16 := tlen m.fnone (wList wText m.fany (wList wText m.fall s))
  unfold mField
  refine iteP (fun x : WS × Msg => x.2.Ok ∧ x.1.1.length ≤ s.1.length + 70000000) ⟨{ hm with req := by simp }, by first | (simp only [List.length_append]; omega) | omega⟩ ?_
  refine iteP (fun x : WS × Msg => x.2.Ok ∧ x.1.1.length ≤ s.1.length + 70000000) ⟨{ hm with caps := by simp }, by first | (simp only [List.length_append]; omega) | omega⟩ ?_
  refine iteP (fun x : WS × Msg => x.2.Ok ∧ x.1.1.length ≤ s.1.length + 70000000) ⟨{ hm with token := by simp }, by first | (simp only [List.length_append]; omega) | omega⟩ ?_
  refine iteP (fun x : WS × Msg => x.2.Ok ∧ x.1.1.length ≤ s.1.length + 70000000) ⟨{ hm with code := by simp }, by first | (simp only [List.length_append]; omega) | omega⟩ ?_
  refine iteP (fun x : WS × Msg => x.2.Ok ∧ x.1.1.length ≤ s.1.length + 70000000) ⟨{ hm with n := by simp }, by first | (simp only [List.length_append]; omega) | omega⟩ ?_
  refine iteP (fun x : WS × Msg => x.2.Ok ∧ x.1.1.length ≤ s.1.length + 70000000) ⟨{ hm with name := by simp }, by first | (simp only [List.length_append]; omega) | omega⟩ ?_
  refine iteP (fun x : WS × Msg => x.2.Ok ∧ x.1.1.length ≤ s.1.length + 70000000) ⟨{ hm with conf := by constructor <;> simp }, by first | (simp only [List.length_append]; omega) | omega⟩ ?_
  refine iteP (fun x : WS × Msg => x.2.Ok ∧ x.1.1.length ≤ s.1.length + 70000000) ⟨{ hm with changes := ⟨by simp, by simp⟩ }, by first | (simp only [List.length_append]; omega) | omega⟩ ?_
  refine iteP (fun x : WS × Msg => x.2.Ok ∧ x.1.1.length ≤ s.1.length + 70000000) ⟨{ hm with id := by simp }, by first | (simp only [List.length_append]; omega) | omega⟩ ?_
  refine iteP (fun x : WS × Msg => x.2.Ok ∧ x.1.1.length ≤ s.1.length + 70000000) ⟨{ hm with vec := ⟨by simp, by simp⟩ }, by first | (simp only [List.length_append]; omega) | omega⟩ ?_
  refine iteP (fun x : WS × Msg => x.2.Ok ∧ x.1.1.length ≤ s.1.length + 70000000) ⟨{ hm with k := by simp }, by first | (simp only [List.length_append]; omega) | omega⟩ ?_
  refine iteP (fun x : WS × Msg => x.2.Ok ∧ x.1.1.length ≤ s.1.length + 70000000) ⟨{ hm with width := by simp }, by first | (simp only [List.length_append]; omega) | omega⟩ ?_
  refine iteP (fun x : WS × Msg => x.2.Ok ∧ x.1.1.length ≤ s.1.length + 70000000) ⟨{ hm with fall := ⟨by simp, by simp⟩, fany := ⟨by simp, by simp⟩, fnone := ⟨by simp, by simp⟩ }, by first | (simp only [List.length_append]; omega) | omega⟩ ?_
  refine iteP (fun x : WS × Msg => x.2.Ok ∧ x.1.1.length ≤ s.1.length + 70000000) ⟨{ hm with num := by simp }, by first | (simp only [List.length_append]; omega) | omega⟩ ?_
  exact r

/-- letters written, one by one -/
def mRun (l : List UInt8) (p : WS × Msg) : WS × Msg := l.foldl (fun p b => mField b.toNat p.1 p.2) p

theorem mRun_ok : ∀ (l : List UInt8) (s : WS) {m : Msg} (hm : m.Ok), (mRun l (s, m)).2.Ok ∧ (mRun l (s, m)).1.1.length ≤ s.1.length + 70000000 * l.length
  | [], s, m, hm => ⟨hm, by simp [mRun]⟩
  | b :: l, s, m, hm => by
    have h1 := mField_ok b.toNat s hm
    have h2 := mRun_ok l (mField b.toNat s m).1 h1.1
    refine ⟨h2.1, Nat.le_trans h2.2 ?_⟩
    simp only [List.length_cons]
    have := h1.2
    omega

theorem mFields_lt (k : Nat) : (∀ b ∈ (mFields k).1, b.toNat < 128) ∧ (mFields k).1.length ≤ 7 := by
  unfold mFields
  repeat' refine iteP (fun x : List UInt8 × Bool => (∀ b ∈ x.1, b.toNat < 128) ∧ x.1.length ≤ 7) (by decide) ?_
  decide

open Classical in
/-- a message written -/
noncomputable def mPut (m : Msg) : Option (List UInt8) :=
  if (mFields m.kind).2 = true then (if (mRun (mFields m.kind).1 (([], false), m)).1.2 = true ∨ ¬ (mRun (mFields m.kind).1 (([], false), m)).2.Empty then none else some (mRun (mFields m.kind).1 (([], false), m)).1.1) else none

open Classical in
set_option maxRecDepth 8000 in
theorem mput_ob (m : Msg) (hm : m.Ok) (K : Post) (h1 : mPut m = none → K (.tup [.nils, .bool false]) [] 0) (h2 : ∀ bs, mPut m = some bs → bs.length ≤ 2 ^ 34 → K (.tup [.isl true 1 encB bs, .bool true]) [] 0) :
    CallOb Try.prog 15 [.agg m.cells] [] 0 K := by
  refine contract TrytabOk Try.checked.mixed Try.func15 rfl Try.call15 [] [.frz 0] [2, 3] (res2 Try.results15) Try.ntmps15 rfl ?_
  conv => whnf
  refine call_rule [] ?_
  conv => whnf
  refine fields_ob m.kind _ ?_
  conv => whnf
  refine br_intro (fun h => ?_) (fun h => ?_)
  · conv => whnf
    refine ⟨_, _, _, leT_refl _, leH_refl _, Nat.le_refl _, h1 ?_⟩
    have h : ¬ (mFields m.kind).2 = true := by simpa using h
    simp only [mPut, if_neg h]
  have h : (mFields m.kind).2 = true := by simpa using h
  have hf := mFields_lt m.kind
  conv => whnf
  refine ⟨UInt8, encB, [], rfl, by simp, ?_⟩
  conv => whnf
  refine loop_rule TrytabOk Try.checked.mixed [1, 6, 21] [] [] (T := { i : Nat // i ≤ (mFields m.kind).1.length }) (fun x => [.ptr 0 0, .ptr 1 0, .ptr 2 0])
    (fun x => [(0, .cells 42 (mRun ((mFields m.kind).1.take x.1) (([], false), m)).2.cells), (1, .cells 96 [.vec 3, .bool (mRun ((mFields m.kind).1.take x.1) (([], false), m)).1.2]), (2, .iter (mFields m.kind).1 x.1), (3, .row 5 1 encB (mRun ((mFields m.kind).1.take x.1) (([], false), m)).1.1)]) 4 (fun x => (mFields m.kind).1.length - x.1) ⟨0, by omega⟩ rfl rfl ?_ ?_
  · conv => whnf
    exact ⟨leTs_refl _, leH_refl _, Nat.le_refl _⟩
  · rintro ⟨i, hi⟩
    have hok := mRun_ok ((mFields m.kind).1.take i) ([], false) hm
    have hlen : ((mFields m.kind).1.take i).length ≤ 7 := by rw [List.length_take]; omega
    have hb : (mRun ((mFields m.kind).1.take i) (([], false), m)).1.1.length ≤ 2 ^ 34 := by have := hok.2; simp only [List.length_nil] at this; omega
    conv => whnf
    refine br_dec (fun hlt => ?_) (fun hlt => ?_)
    · intro b hbi
      have hbi' : (mFields m.kind).1[i]? = some b := hbi
      refine ⟨hf.1 b (List.mem_of_getElem? hbi'), ?_⟩
      conv => whnf
      refine call_rule [] ?_
      conv => whnf
      refine field_ob b.toNat _ hok.1 _ _ (Nat.le_trans hb (by decide)) _ ?_
      conv => whnf
      refine ⟨⟨i + 1, hlt⟩, ?_, ⟨leT_refl _, leT_refl _, leT_refl _, trivial⟩, ?_, Nat.le_refl _⟩
      · show (mFields m.kind).1.length - (i + 1) < (mFields m.kind).1.length - i; simp only at hlt; omega
      · simp only [mRun, foldl_take_succ (fun p b => mField b.toNat p.1 p.2) _ hbi']
        exact leH_refl _
    · have hi' : (mFields m.kind).1.take i = (mFields m.kind).1 := List.take_of_length_le (by simp only at hlt; omega)
      simp only [hi'] at hb ⊢
      have hbad : ∀ q : WS × Msg, q = mRun (mFields m.kind).1 (([], false), m) → mPut m = (if q.1.2 = true ∨ ¬ q.2.Empty then none else some q.1.1) := by
        intro q hq
        subst hq
        simp only [mPut, if_pos h]
      generalize mRun (mFields m.kind).1 (([], false), m) = q at hb hbad
      have hbad := hbad q rfl
      obtain ⟨⟨bs, bad⟩, m'⟩ := q
      simp only at hb hbad
      conv => whnf
      refine br_intro (fun hx => ?_) (fun hx => ?_)
      · subst hx
        conv => whnf
        refine call_rule [] ?_
        conv => whnf
        refine done_ob bs true _ (fun _ => ?_) (fun hh => by cases hh)
        conv => whnf
        exact ⟨_, _, _, leT_refl _, leH_refl _, Nat.le_refl _, h1 (by rw [hbad, if_pos (.inl rfl)])⟩
      · subst hx
        conv => whnf
        refine call_rule [] ?_
        conv => whnf
        refine empty_ob m' _ (fun e he => ?_)
        conv => whnf
        refine call_rule [] ?_
        conv => whnf
        cases e
        · refine done_ob bs true _ (fun _ => ?_) (fun hh => by cases hh)
          conv => whnf
          exact ⟨_, _, _, leT_refl _, leH_refl _, Nat.le_refl _, h1 (by rw [hbad, if_pos (.inr (fun g => by have := he.2 g; cases this))])⟩
        · refine done_ob bs false _ (fun hh => by cases hh) (fun _ => ?_)
          conv => whnf
          exact ⟨_, _, _, leT_refl _, leH_refl _, Nat.le_refl _, h2 bs (by rw [hbad, if_neg (by rintro (g | g); cases g; exact g (he.1 rfl))]) hb⟩

end Go.Sx
end

section
open Go.Proofs
namespace Go.Sx
set_option linter.unusedVariables false

abbrev rH (bs : List UInt8) : Hp := [(0, .row 5 1 encB bs)]
abbrev rI (bs : List UInt8) : Hp := [(1, .row 5 1 encB bs)]

theorem vput_small {n : Nat} (h : n < 128) : vput n = [UInt8.ofNat n] := by
  unfold vput
  rw [if_pos h]

end Go.Sx
end

section
open Go.Proofs
namespace Go.Sx
set_option linter.unusedVariables false

theorem foldl_stick {α : Type} {f : WS → α → WS} (hf : ∀ bs x, f (bs, true) x = (bs, true)) : ∀ (l : List α) (bs : List UInt8), l.foldl f (bs, true) = (bs, true)
  | [], bs => rfl
  | x :: l, bs => by simp only [List.foldl_cons, hf, foldl_stick hf l]

theorem foldl_stop {α : Type} {f : WS → α → WS} (hf : ∀ bs x, f (bs, true) x = (bs, true)) (xs : List α) (i : Nat) (s : WS) (h : ((xs.take i).foldl f s).2 = true) : xs.foldl f s = (xs.take i).foldl f s := by
  conv => lhs; rw [← List.take_append_drop i xs]
  rw [List.foldl_append]
  generalize (xs.take i).foldl f s = t at h
  obtain ⟨bs, b⟩ := t
  simp only at h
  subst h
  exact foldl_stick hf _ _

theorem wText_stick (bs : List UInt8) (t : List UInt8) : wText (bs, true) t = (bs, true) := by simp [wText]

theorem pickAnd (a b : Bool) : (bif a then b else false) = (a && b) := by cases a <;> rfl

end Go.Sx
end

section
open Go.Proofs
namespace Go.Sx
set_option linter.unusedVariables false

theorem fold_stick2 {α : Type} {f : WS → α → WS} (hf : ∀ s x, s.2 = true → (f s x).2 = true) : ∀ (l : List α) (s : WS), s.2 = true → (l.foldl f s).2 = true
  | [], s, h => h
  | x :: l, s, h => fold_stick2 hf l (f s x) (hf s x h)

theorem fold_stop2 {α : Type} {f : WS → α → WS} (hf : ∀ s x, s.2 = true → (f s x).2 = true) (xs : List α) (i : Nat) (s : WS) (h : ((xs.take i).foldl f s).2 = true) : (xs.foldl f s).2 = true := by
  have := fold_stick2 hf (xs.drop i) _ h
  rwa [← List.foldl_append, List.take_append_drop] at this

theorem wText_st2 (s : WS) (t : List UInt8) (h : s.2 = true) : (wText s t).2 = true := by simp [wText, h]
theorem wVec_st2 (s : WS) (t : Int) (h : s.2 = true) : (wVecOne s t).2 = true := h
theorem wList_st2 {α : Type} {f : WS → α → WS} (xs : List α) (s : WS) (h : s.2 = true) : (wList f xs s).2 = true := by simp [wList, h]
theorem wItem_st2 (s : WS) (x : Item) (h : s.2 = true) : (wItem s x).2 = true := by
  unfold wItem
  exact wList_st2 _ _ (wList_st2 _ _ h)
theorem wChg_st2 (s : WS) (x : Chg) (h : s.2 = true) : (wChg s x).2 = true := by
  unfold wChg
  split
  · simp [h]
  · exact wItem_st2 _ _ h
theorem wHit_st2 (s : WS) (x : Hit) (h : s.2 = true) : (wHit s x).2 = true := h

end Go.Sx
end

section
open Go.Proofs
namespace Go.Sx
set_option linter.unusedVariables false

end Go.Sx
end

section
namespace Go.Sx

inductive Rs : Type
  | tmp (t : Nat)
  | cell (a : Nat) (ty : TypeId)

/-- a normal form of values -/
def formV (ar : Nat) (keep : List Nat) (fs : List Fix) (vs : List V) (hp : Hp) (nx : Nat) (K : List V → Hp → Nat → Prop) : Prop :=
  fixK fs vs hp nx fun vs hp nx => keepK ar keep fun fx => normK fx ar nx vs hp fun vs hp nx _ _ => K vs hp nx

def resK (tab : Tab) (hp : Hp) : List Rs → Tm → (List V → Prop) → Prop
  | [], _, K => K []
  | .tmp t :: l, tm, K => fV (lk t tm) fun x => resK tab hp l tm fun vs => K (x :: vs)
  | .cell a ty :: l, tm, K => match aload tab hp ty (lk a tm) with
    | some v => fV v fun x => resK tab hp l tm fun vs => K (x :: vs)
    | none => Stuck "a result's variable"

def ResRun (P : Program) (tmps : Array Value) (w : World) : List Rs → List Value → Prop
  | [], [] => True
  | .tmp t :: l, v :: vs => v = tmps.getD t undef ∧ ResRun P tmps w l vs
  | .cell a ty :: l, v :: vs => (Instr.loadAt ty (tmps.getD a undef)).run P w = .ok v w ∧ ResRun P tmps w l vs
  | _, _ => False

def exitC (tab : Tab) (ar : Nat) (keep : List Nat) (fs : List Fix) (rs : List Rs) (K : Post) : PostC := fun e tm hp nx => match e with
  | .normal | .ret => resK tab hp rs tm fun vs => formV ar keep fs vs hp nx fun vs hp nx => ∃ v' hp' nx', leT (packV vs) v' ∧ leH hp hp' ∧ nx ≤ nx' ∧ K v' hp' nx'
  | _ => Stuck "an end"

section
variable {P : Program} {tab : Tab} {nt : Nat}

theorem slot_at {tm : Tm} {C : Cx} {B : Nat} {h : Array Obj} {tmc : Array Value} (ht : TSat tm nt C B h tmc) (hw : noW tm = true) (t : Nat) : VR h C B (lk t tm) (tmc.getD t undef) := by
  by_cases htn : t < nt
  · have h1 := ht.at_ t htn
    have hnw : ∀ g p x, lk t tm ≠ .whn g p x := by
      intro g p x he
      have hm := lk_mem he (by simp)
      have := noW_WL.1 hw _ hm g p x rfl
      simp at this
    have : ∃ v, tmc[t]? = some v ∧ VR h C B (lk t tm) v := by
      cases hl : lk t tm <;> rw [hl] at h1 <;> first | exact h1 | exact absurd hl (hnw _ _ _)
    obtain ⟨v, hv, hr⟩ := this
    simp only [Array.getD_eq_getD_getElem?, hv, Option.getD_some]
    exact hr
  · rw [ht.out t (by omega)]
    exact .junk _

theorem resK_ok (hT : TabOk P tab) {hp : Hp} {nx : Nat} {C : Cx} {S : Nat → Prop} {w : World} {tm : Tm} {tmc : Array Value} (hs : HSat hp nx C S w) (ht : TSat tm nt C nx w.heap tmc) (hw : noW tm = true) :
    ∀ {rs : List Rs} {K : List V → Prop}, resK tab hp rs tm K → ∃ vs vals, K vs ∧ ResRun P tmc w rs vals ∧ LRo w.heap C nx vs vals
  | [], K, h => ⟨[], [], h, trivial, ⟨rfl, fun i x v h => by simp at h⟩⟩
  | .tmp t :: l, K, h => by
    simp only [resK, fV_eq] at h
    obtain ⟨vs, vals, h1, h2, h3⟩ := resK_ok hT hs ht hw h
    exact ⟨_, tmc.getD t undef :: vals, h1, ⟨rfl, h2⟩, .cons (slot_at ht hw t) h3⟩
  | .cell a ty :: l, K, h => by
    simp only [resK] at h
    cases hl : aload tab hp ty (lk a tm) <;> rw [hl] at h
    · cases h
    · simp only [fV_eq] at h
      obtain ⟨vs, vals, h1, h2, h3⟩ := resK_ok hT hs ht hw h
      obtain ⟨val, g1, g2⟩ := aload_ok hT hs (slot_at ht hw a) hl
      exact ⟨_, val :: vals, h1, ⟨g1, h2⟩, .cons g2 h3⟩

theorem formV_ok {ar : Nat} {keep : List Nat} {fs : List Fix} {vs : List V} {vals : List Value} {hp : Hp} {nx : Nat} {C : Cx} {S : Nat → Prop} {w : World} {K : List V → Hp → Nat → Prop}
    (har : ar ≤ nx) (hs : HSat hp nx C S w) (hv : LRo w.heap C nx vs vals) (hk : formV ar keep fs vs hp nx K) :
    ∃ vs hp' nx' C' S', K vs hp' nx' ∧ HSat hp' nx' C' S' w ∧ LR w.heap C' nx' vs vals.toArray ∧ Ext ar C C' S S' w w ∧ ar ≤ nx' := by
  unfold formV at hk
  obtain ⟨vs1, hp1, nx1, C1, S1, h1, h2, h3, h4, h5⟩ := fixK_ok fs (arr := vals.toArray) har hs ⟨by simpa using hv.1, fun i x v hx hv' => hv.2 i x v hx (by simpa using hv')⟩ hk
  obtain ⟨fx, h1, hfx⟩ := keepK_ok h1
  obtain ⟨ws, hp2, nx2, μ, rest, N, T1, R, k1, k2, k3, _, k5, _, k7, k8, _, _⟩ := norm_ok (h := w.heap) (C := C1) (J := C1.J) (nx := nx1) (S := S1) (N0 := C1.N) (fx := fx) (st := ar) (B := nx1)
    ⟨fun n m m' h1 h2 => by rw [← (hfx _ _ h1).1, ← (hfx _ _ h2).1], fun n n' m h1 h2 => by rw [(hfx _ _ h1).1, (hfx _ _ h2).1], fun n m h => by have := hfx _ _ h; omega, fun n m h => .inl h, Nat.le_refl _, fun _ h => h⟩
    (fun n m h => ⟨by have := hfx _ _ h; omega, by rw [(hfx _ _ h).1]⟩) (fun _ _ h => h) h2.hr h3 h1
  refine ⟨ws, hp2, nx2, ⟨C1.J, N⟩, T1, k1, ⟨k2, fun b hb => h2.lt b ((k5 b).2 (.inl hb)), fun p b hj => ⟨(h2.jlt p b hj).1, fun hb => (h2.jlt p b hj).2 ((k5 b).2 (.inl hb))⟩, h2.jj⟩, k3,
    h4.trans ⟨Nat.le_refl _, fun _ _ _ => rfl, fun b hb => .inl ((k5 b).2 (.inl hb)), fun _ _ h => h, fun _ _ h => .inl h, fun n hn => k8 n hn, rfl, rfl, rfl⟩, k7⟩

/-- a function's contract, out of its body's; results that stand in variables are loaded -/
theorem contractC {f : FuncId} {fn : Func} {c : Code} (hT : TabOk P tab) (hm : P.follows .mixedOrders = true) (hf : P.funcs[f]? = some fn) (hb : fn.body = some c) (hc : ∀ args w, (callFunc f args).run P w = .ok (.enter f args) w)
    (keep : List Nat) (fs : List Fix) (rs : List Rs) (hres : ∀ tmps w vals, ResRun P tmps w rs vals → (results fn tmps).run P w = .ok (packC vals) w) {args : List V} {hp : Hp} {k : Nat} {K : Post} {n : Nat} (hn : fn.ntmps = n) (hle : Nat.ble args.length n = true)
    (h : initK 0 args fun tm => awp P tab n k c (exitC tab k keep fs rs K) tm hp k) : CallOb P f args hp k K := by
  constructor
  intro C S w cargs hs hv
  subst hn
  rw [initK_eq] at h
  have hle' : args.length ≤ fn.ntmps := Nat.le_of_ble_eq_true hle
  unfold CallSem
  rw [hc]
  simp only
  have hvo : LRo w.heap C k args cargs.toList := ⟨by simpa using hv.1, fun i x v hx hv' => hv.2 i x v hx (by simpa using hv')⟩
  have hsz : cargs.size ≤ fn.ntmps := by rw [← hv.1]; exact hle'
  refine calls_of_wp hf hb (wp_mono (awp_good hT hm (nt := fn.ntmps) (ar := k) c _ _ _ _ h C S w _ rfl (Nat.le_refl _) hs ⟨by simp; omega, ?_, ?_⟩ (noW_init hvo)) ?_)
  · intro t ht
    have hget : ∃ v, (cargs ++ Array.replicate (fn.ntmps - cargs.size) undef)[t]? = some v ∧ VR w.heap C k (lk t (initT 0 args)) v := by
      rw [lk_init]
      simp only [Nat.zero_le, if_true, Nat.sub_zero]
      by_cases hta : t < cargs.size
      · have hta' : t < args.length := by rw [hv.1]; exact hta
        refine ⟨cargs[t], by simp [Array.getElem?_append, hta], ?_⟩
        rw [List.getElem?_eq_getElem hta']
        exact hv.2 t _ _ (List.getElem?_eq_getElem hta') (Array.getElem?_eq_getElem hta)
      · refine ⟨undef, ?_, ?_⟩
        · rw [Array.getElem?_append, if_neg hta, Array.getElem?_replicate, if_pos (by omega)]
        · rw [List.getElem?_eq_none (by rw [hv.1]; omega)]
          exact .junk _
    cases hl : lk t (initT 0 args) <;> rw [hl] at hget <;> first | exact hget | (obtain ⟨v, _, hv⟩ := hget; exact absurd hv VR.notW)
  · intro t ht
    rw [lk_init]
    simp only [Nat.zero_le, if_true, Nat.sub_zero]
    rw [List.getElem?_eq_none (by omega)]
    rfl
  · rintro e a' w' ⟨hd, tm, hp', nx', C', S', hq, hs', ht', he', hle', hw'⟩
    have fin : (resK tab hp' rs tm fun vs => formV k keep fs vs hp' nx' fun vs hp nx => ∃ v' hp' nx', leT (packV vs) v' ∧ leH hp hp' ∧ nx ≤ nx' ∧ K v' hp' nx') →
        a'.defers = [] ∧ ∃ v, (results fn a'.tmps).run P w' = .ok v w' ∧ ∃ v', (Ending.returned v) = .returned v' ∧ ∃ vv hp2 nx2 C2 S2, K vv hp2 nx2 ∧ HSat hp2 nx2 C2 S2 w' ∧ VR w'.heap C2 nx2 vv v' ∧ Ext k C C2 S S2 w w' ∧ k ≤ nx2 := by
      intro hf
      obtain ⟨vs0, vals, hf, hrun, hlr⟩ := resK_ok hT hs' ht' hw' hf
      obtain ⟨vs, hp2, nx2, C2, S2, ⟨v', hp3, nx3, l1, l2, l3, hK⟩, g2, g3, g4, g5⟩ := formV_ok hle' hs' hlr hf
      refine ⟨hd, _, hres _ _ _ hrun, _, rfl, v', hp3, nx3, C2, S2, hK, ?_, ?_, he'.trans g4, by omega⟩
      · exact ⟨(HR.le g2.jj l2 g2.hr).bound l3, g2.lt, g2.jlt, g2.jj⟩
      · have hv1 : VR w'.heap C2 nx2 (packV vs) (packC vals) := by
          have hlen : vs.length = vals.length := by simpa using g3.1
          match vs, vals, hlen, g3 with
          | [v], [x], _, g3 => exact g3.2 0 v x rfl rfl
          | [], [], _, g3 => exact .tup [] _ (by simp) (fun i x v h => by simp at h)
          | a :: b :: r, x :: y :: s, _, g3 => exact .tup _ _ g3.1 g3.2
        have := (VR.leT g2.jj l1 hv1).mono (C' := C2) (B' := nx3) (fun p b h => ⟨h, rfl⟩) (fun _ _ => rfl) l3
        exact this
    cases e with
    | normal => exact fin hq
    | ret => exact fin hq
    | _ => cases hq

variable {fn : Func}

theorem load_var {ty : TypeId} {v val : Value} {w : World} (h : (Instr.loadAt ty v).run P w = .ok val w) : (do loadVar ty (← asAddr v)).run P w = .ok val w := by
  cases v with
  | pointer a =>
    cases a with
    | none => simp [Instr.loadAt, Instr.sureAddr] at h
    | some a => simpa [Instr.loadAt, Instr.sureAddr, asAddr] using h
  | _ => simp [Instr.loadAt, Instr.sureAddr] at h

theorem resC1 {a : Nat} {ty : TypeId} (h : fn.results = #[.cell a ty]) : ∀ tmps w vals, ResRun P tmps w [.cell a ty] vals → (results fn tmps).run P w = .ok (packC vals) w := by
  intro tmps w vals hr
  match vals, hr with
  | [v], ⟨h1, _⟩ =>
    have := load_var h1
    simp [Result.andThen] at this
    simp [results, h, packC, Result.andThen, this]

theorem resC2 {a u : Nat} {ty : TypeId} (h : fn.results = #[.cell a ty, .tmp u]) : ∀ tmps w vals, ResRun P tmps w [.cell a ty, .tmp u] vals → (results fn tmps).run P w = .ok (packC vals) w := by
  intro tmps w vals hr
  match vals, hr with
  | [v, x], ⟨h1, h2, _⟩ =>
    have := load_var h1
    subst h2
    simp [Result.andThen] at this
    simp [results, h, packC, Result.andThen]
    cases e1 : Sem.run P (asAddr (tmps[a]?.getD undef)) w with
    | halt _ _ => simp [e1] at this
    | ok b w1 =>
      simp [e1] at this ⊢
      rw [this]

theorem resC3 {a u u' : Nat} {ty : TypeId} (h : fn.results = #[.cell a ty, .tmp u, .tmp u']) : ∀ tmps w vals, ResRun P tmps w [.cell a ty, .tmp u, .tmp u'] vals → (results fn tmps).run P w = .ok (packC vals) w := by
  intro tmps w vals hr
  match vals, hr with
  | [v, x, y], ⟨h1, h2, h3, _⟩ =>
    have := load_var h1
    subst h2; subst h3
    simp [Result.andThen] at this
    simp [results, h, packC, Result.andThen]
    cases e1 : Sem.run P (asAddr (tmps[a]?.getD undef)) w with
    | halt _ _ => simp [e1] at this
    | ok b w1 =>
      simp [e1] at this ⊢
      rw [this]

end
end Go.Sx
end

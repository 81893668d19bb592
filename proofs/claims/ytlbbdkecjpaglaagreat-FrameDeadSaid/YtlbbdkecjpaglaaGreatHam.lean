/- lodestarref06.Put (printed by genput.py); no condition. -/
import Derived.Test.YtlbbdkecjpaglaaGreatHal

set_option linter.all false

section
open Go.Proofs
namespace Go.Sx
set_option linter.unusedVariables false

def rPutF (m : Msg) (s : WS) (nm : List UInt8) : WS := if nm = n_req then (s.1 ++ vput m.req, s.2) else if nm = n_caps then (s.1 ++ vput m.caps, s.2) else if nm = n_token then (s.1 ++ vput m.token, s.2) else if nm = n_code then (s.1 ++ vput m.code, s.2) else if nm = n_n then (s.1 ++ vput m.n, s.2) else if nm = n_name then wText s m.name else if nm = n_conf then wConf s m.conf else if nm = n_changes then wList wChg m.changes s else if nm = n_id then (s.1 ++ vput m.id, s.2) else if nm = n_vec then wList wVecOne m.vec s else if nm = n_k then (s.1 ++ vput m.k, s.2) else if nm = n_width then (s.1 ++ vput m.width, s.2) else if nm = n_filter then wList wText m.fnone (wList wText m.fany (wList wText m.fall s)) else if nm = n_num then (s.1 ++ vput m.num, s.2) else if nm = n_page then (s.1 ++ vput m.page, s.2) else if nm = n_bytes then wText s m.bytes else if nm = n_version then (s.1 ++ vput m.version, s.2) else if nm = n_names then wList wText m.names s else if nm = n_items then wList wItem m.items s else if nm = n_hits then wList wHit m.hits s else s

def rRun (m : Msg) (l : List (List UInt8)) (s : WS) : WS := l.foldl (rPutF m) s

theorem rPutF_len (m : Msg) (hm : m.Ok) (s : WS) (nm : List UInt8) : (rPutF m s nm).1.length ≤ s.1.length + 70000000 := by
  have v1 := vput_len10 (n := m.req) (by have := hm.req; omega)
  have v2 := vput_len10 (n := m.caps) (by have := hm.caps; omega)
  have v3 := vput_len10 (n := m.token) (by have := hm.token; omega)
  have v4 := vput_len10 (n := m.code) (by have := hm.code; omega)
  have v5 := vput_len10 (n := m.n) (by have := hm.n; omega)
  have v6 := vput_len10 (n := m.id) (by have := hm.id; omega)
  have v7 := vput_len10 (n := m.k) (by have := hm.k; omega)
  have v8 := vput_len10 (n := m.width) (by have := hm.width; omega)
  have v9 := vput_len10 (n := m.num) (by have := hm.num; omega)
  have v10 := wText_len s m.name
  have v11 := wConf_len s hm.conf
  have v12 := wList_len (f := wChg) (c := 530010) (xs := m.changes) (fun s t h => wChg_len s (hm.changes.1 t h)) s
  have v13 := wVecs_len hm.vec.1 s
  have v14 := tlen m.fall s
  have v15 := tlen m.fany (wList wText m.fall s)
  have v16 := tlen m.fnone (wList wText m.fany (wList wText m.fall s))
  have w1 := vput_len10 (n := m.page) (by have := hm.page; omega)
  have w2 := vput_len10 (n := m.version) (by have := hm.version; omega)
  have w3 := wText_len s m.bytes
  have w4 := tlen m.names s
  have w5 := wList_len (f := wItem) (c := 530000) (xs := m.items) (fun s t h => wItem_len s (hm.items.1 t h)) s
  have w6 := wList_len (f := wHit) (c := 20) (xs := m.hits) (fun s t h => wHit_len s (hm.hits.1 t h)) s
  unfold rPutF
  repeat' refine iteP (fun x : WS => x.1.length ≤ s.1.length + 70000000) (by first | (simp only [List.length_append]; omega) | omega) ?_
  omega

theorem rRun_len (m : Msg) (hm : m.Ok) : ∀ (l : List (List UInt8)) (s : WS), (rRun m l s).1.length ≤ s.1.length + 70000000 * l.length
  | [], s => by simp [rRun]
  | b :: l, s => by
    have h1 := rPutF_len m hm s b
    have h2 := rRun_len m hm l (rPutF m s b)
    refine Nat.le_trans h2 ?_
    simp only [List.length_cons]
    omega

theorem wConf_st2 (s : WS) (c : Conf) (h : s.2 = true) : (wConf s c).2 = true := by simp [wConf, wText, h]

theorem rPutF_st2 (m : Msg) (s : WS) (nm : List UInt8) (h : s.2 = true) : (rPutF m s nm).2 = true := by
  unfold rPutF
  repeat' refine iteP (fun x : WS => x.2 = true) (by first | exact h | exact wText_st2 _ _ h | exact wConf_st2 _ _ h | exact wList_st2 _ _ h | exact wList_st2 _ _ (wList_st2 _ _ (wList_st2 _ _ h))) ?_
  exact h

open Classical in
/-- a message written, as the document has it -/
noncomputable def rPut (m : Msg) : Option (List UInt8) :=
  if (rForm m.kind).2 = true ∧ m = rOnly m ∧ (rRun m (rForm m.kind).1 ([], false)).2 = false then some (rRun m (rForm m.kind).1 ([], false)).1 else none

theorem rForm_len (k : Nat) : (rForm k).1.length ≤ 7 := by
  unfold rForm
  repeat' refine iteP (fun x : List (List UInt8) × Bool => x.1.length ≤ 7) (by decide) ?_
  decide

abbrev PutT (m : Msg) : Type := { x : Nat × List UInt8 // x.1 ≤ (rForm m.kind).1.length ∧ rRun m ((rForm m.kind).1.take x.1) ([], false) = (x.2, false) } ⊕ ({ x : Nat × List UInt8 // (rRun m (rForm m.kind).1 ([], false)).2 = true } ⊕ { i : Nat // (rRun m (rForm m.kind).1 ([], false)).2 = true })

def putI (m : Msg) : PutT m → List V
  | .inl x => [.ptr 0 0, .isl true 1 encStr (rForm m.kind).1, .bool true, .vec 1, .int .i64 (x.1.1 : Int)]
  | .inr (.inl x) => [.ptr 0 0, .isl true 1 encStr (rForm m.kind).1, .bool false, .vec 1, .int .i64 (x.1.1 : Int)]
  | .inr (.inr x) => [.ptr 0 0, .isl true 1 encStr (rForm m.kind).1, .bool false, .junk, .int .i64 (x.1 : Int)]

def putH (m : Msg) : PutT m → Hp
  | .inl x => [(0, .cells 37 m.cells), (1, .row 5 1 encB x.1.2)]
  | .inr (.inl x) => [(0, .cells 37 m.cells), (1, .row 5 1 encB x.1.2)]
  | .inr (.inr x) => [(0, .cells 37 m.cells)]

def putM (m : Msg) : PutT m → Nat
  | .inl x => (rForm m.kind).1.length - x.1.1 + 1
  | .inr _ => 0

open Classical in
set_option maxHeartbeats 4000000 in
set_option maxRecDepth 8000 in
theorem rput_ob (m : Msg) (hm : m.Ok) (K : Post) (hK1 : rPut m = none → K (.tup [.nils, .bool false]) [] 0) (hK2 : ∀ bs, rPut m = some bs → bs.length ≤ 2 ^ 34 → K (.tup [.isl true 1 encB bs, .bool true]) [] 0) :
    CallOb Tryz.prog 15 [.agg m.cells] [] 0 K := by
  refine contract TryztabOk Tryz.checked.mixed Tryz.func15 rfl Tryz.call15 [] [.frz 0] [2, 3] (res2 Tryz.results15) Tryz.ntmps15 rfl ?_
  conv => whnf
  refine call_rule [] ?_
  conv => whnf
  refine rform_ob m.kind _ ?_
  have hlen := rForm_len m.kind
  by_cases hok : (rForm m.kind).2 = true
  case neg =>
    have hok' : (rForm m.kind).2 = false := by simpa using hok
    rw [hok']
    have hn : rPut m = none := by simp only [rPut]; rw [if_neg (fun h => hok h.1)]
    conv => whnf
    repeat' first
      | exact ⟨_, _, _, leT_refl _, leH_refl _, Nat.le_refl _, hK1 hn⟩
      | (refine ⟨?_, trivial⟩; conv => whnf)
      | (refine ⟨?_, ?_, trivial⟩ <;> conv => whnf)
      | fail
  rw [hok]
  conv => whnf
  repeat' first
    | (refine ⟨?_, trivial⟩; conv => whnf)
    | (refine ⟨?_, ?_, trivial⟩ <;> conv => whnf)
    | (refine call_rule [] ?_
       conv => whnf
       refine ronly_ob m _ ?_
       conv => whnf)
    | (refine call_rule [] ?_
       conv => whnf
       refine same_ob m (rOnly m) hm _ (fun b hb => ?_)
       cases b <;> conv => whnf)
    | (refine ⟨_, _, _, leT_refl _, leH_refl _, Nat.le_refl _, hK1 ?_⟩
       simp only [rPut]
       rw [if_neg (fun h => by have := hb.2 h.2.1; cases this)])
    | fail
  all_goals
    have hsame := hb.1 rfl
    refine loop_rule TryztabOk Tryz.checked.mixed [1, 4, 5, 6, 7] [] [.slot 3 5 1 encB] (T := PutT m) (putI m) (putH m) 2 (putM m) (.inl ⟨(0, []), by simp, rfl⟩) rfl rfl ?_ ?_
    · conv => whnf
      exact ⟨leTs_refl _, leH_refl _, Nat.le_refl _⟩
  all_goals
    rintro (⟨⟨i, bs⟩, hi, hrun⟩ | ⟨⟨i, bs⟩, hbad⟩ | ⟨i, hbad⟩)
    rotate_left
    · conv => whnf
      refine br_intro (fun hlt => ?_) (fun hlt => ?_)
      · simp at hlt
      · conv => whnf
        refine ⟨_, _, _, leT_refl _, leH_refl _, Nat.le_refl _, hK1 ?_⟩
        simp only [rPut]
        rw [if_neg (fun h => by rw [hbad] at h; cases h.2.2)]
    · conv => whnf
      refine br_intro (fun hlt => ?_) (fun hlt => ?_)
      · simp at hlt
      · conv => whnf
        refine ⟨_, _, _, leT_refl _, leH_refl _, Nat.le_refl _, hK1 ?_⟩
        simp only [rPut]
        rw [if_neg (fun h => by rw [hbad] at h; cases h.2.2)]
    simp only at hi hrun
    have hbl : bs.length ≤ 2 ^ 34 := by
      have := rRun_len m hm ((rForm m.kind).1.take i) ([], false)
      rw [hrun] at this
      simp only [List.length_take, List.length_nil] at this
      omega
    conv => whnf
    refine br_intro (fun hlt => ?_) (fun hlt => ?_)
    rotate_left
    · have hlt : ¬ i < (rForm m.kind).1.length := by
        rw [pickAnd] at hlt
        simp at hlt
        omega
      rw [List.take_of_length_le (by omega)] at hrun
      conv => whnf
      refine ⟨_, _, _, leT_refl _, leH_refl _, Nat.le_refl _, hK2 bs ?_ hbl⟩
      simp only [rPut]
      rw [if_pos ⟨hok, hsame, by rw [hrun]⟩, hrun]
    have hlt : i < (rForm m.kind).1.length := by
      rw [pickAnd] at hlt
      simp at hlt
      omega
    have hsu : ∀ x, (rForm m.kind).1[i]? = some x → rRun m ((rForm m.kind).1.take (i + 1)) ([], false) = rPutF m (bs, false) x := fun x hx => by
      have := foldl_take_succ (rPutF m) ([], false) hx
      unfold rRun at hrun ⊢
      rw [this, hrun]
    have hst : ∀ x, (rForm m.kind).1[i]? = some x → (rPutF m (bs, false) x).2 = true → (rRun m (rForm m.kind).1 ([], false)).2 = true := fun x hx hb => by
      refine fold_stop2 (rPutF_st2 m) (rForm m.kind).1 (i + 1) ([], false) ?_
      have := hsu x hx
      unfold rRun at this
      rw [this]
      exact hb
    have fok : ∀ x, (rForm m.kind).1[i]? = some x → ∀ cs, rPutF m (bs, false) x = (cs, false) → ∃ t' : PutT m, putM m t' < (rForm m.kind).1.length - i + 1 ∧
        leTs [.ptr 0 0, .isl true 1 encStr (rForm m.kind).1, .bool true, .vec 1, .int .i64 (IntKind.i64.wrap ((i : Int) + 1))] (putI m t') ∧ leH [(0, .cells 37 m.cells), (1, .row 5 1 encB cs)] (putH m t') ∧ 2 ≤ 2 := by
      intro x hx cs hcs
      refine ⟨.inl ⟨(i + 1, cs), hlt, (hsu x hx).trans hcs⟩, ?_, ⟨leT_refl _, leT_refl _, leT_refl _, leT_refl _, ⟨rfl, wrapI64' (m := i + 1) (by omega)⟩, trivial⟩, leH_refl _, Nat.le_refl _⟩
      show (rForm m.kind).1.length - (i + 1) + 1 < (rForm m.kind).1.length - i + 1
      omega
    have fbad : ∀ x, (rForm m.kind).1[i]? = some x → (rPutF m (bs, false) x).2 = true → ∀ cs, ∃ t' : PutT m, putM m t' < (rForm m.kind).1.length - i + 1 ∧
        leTs [.ptr 0 0, .isl true 1 encStr (rForm m.kind).1, .bool false, .vec 1, .int .i64 (IntKind.i64.wrap ((i : Int) + 1))] (putI m t') ∧ leH [(0, .cells 37 m.cells), (1, .row 5 1 encB cs)] (putH m t') ∧ 2 ≤ 2 := by
      intro x hx hb cs
      exact ⟨.inr (.inl ⟨(i + 1, cs), hst x hx hb⟩), Nat.succ_pos _, ⟨leT_refl _, leT_refl _, leT_refl _, leT_refl _, ⟨rfl, wrapI64' (m := i + 1) (by omega)⟩, trivial⟩, leH_refl _, Nat.le_refl _⟩
    have fjunk : ∀ x, (rForm m.kind).1[i]? = some x → (rPutF m (bs, false) x).2 = true → ∃ t' : PutT m, putM m t' < (rForm m.kind).1.length - i + 1 ∧
        leTs [.ptr 0 0, .isl true 1 encStr (rForm m.kind).1, .bool false, .junk, .int .i64 (IntKind.i64.wrap ((i : Int) + 1))] (putI m t') ∧ leH [(0, .cells 37 m.cells)] (putH m t') ∧ 1 ≤ 2 := by
      intro x hx hb
      exact ⟨.inr (.inr ⟨i + 1, hst x hx hb⟩), Nat.succ_pos _, ⟨leT_refl _, leT_refl _, leT_refl _, leT_refl _, ⟨rfl, wrapI64' (m := i + 1) (by omega)⟩, trivial⟩, leH_refl _, by omega⟩
    conv => whnf
    refine ⟨⟨by simp only; omega, by simp only; omega⟩, ?_⟩
    intro x hxi
    have hxi' : (rForm m.kind).1[i]? = some x := by simpa using hxi
    have fok := fok x hxi'
    have fbad := fbad x hxi'
    have fjunk := fjunk x hxi'
    unfold rPutF at fok fbad fjunk
    conv => whnf
    refine br_intro (fun h0 => ?_) (fun h0 => ?_)
    · have h0 : x = n_req := by simpa using h0
      rw [if_pos h0] at fok fbad fjunk
      have hn := hm.req
      have hv := vput_len10 (n := m.req) (by omega)
      conv => whnf
      refine call_rule [] ?_
      conv => whnf
      rw [wrapI64' (by omega)]
      refine rnum_ob m.req (by omega) _ ?_
      conv => whnf
      refine ⟨vput m.req, rfl, ?_, ?_⟩
      · show (bs.length + (vput m.req).length) * 1 ≤ _; first | omega | (simp only [List.length_append]; omega)
      conv => whnf
      exact fok _ rfl
    have h0 : ¬ x = n_req := by simpa using h0
    conv => whnf
    refine br_intro (fun h1 => ?_) (fun h1 => ?_)
    · have h1 : x = n_caps := by simpa using h1
      rw [if_neg h0, if_pos h1] at fok fbad fjunk
      have hn := hm.caps
      have hv := vput_len10 (n := m.caps) (by omega)
      conv => whnf
      refine call_rule [] ?_
      conv => whnf
      rw [wrapI64' (by omega)]
      refine rnum_ob m.caps (by omega) _ ?_
      conv => whnf
      refine ⟨vput m.caps, rfl, ?_, ?_⟩
      · show (bs.length + (vput m.caps).length) * 1 ≤ _; first | omega | (simp only [List.length_append]; omega)
      conv => whnf
      exact fok _ rfl
    have h1 : ¬ x = n_caps := by simpa using h1
    conv => whnf
    refine br_intro (fun h2 => ?_) (fun h2 => ?_)
    · have h2 : x = n_token := by simpa using h2
      rw [if_neg h0, if_neg h1, if_pos h2] at fok fbad fjunk
      have hn := hm.token
      have hv := vput_len10 (n := m.token) (by omega)
      conv => whnf
      refine call_rule [] ?_
      conv => whnf
      refine put4_ob m.token (by omega) _ ?_
      conv => whnf
      refine ⟨vput m.token, rfl, ?_, ?_⟩
      · show (bs.length + (vput m.token).length) * 1 ≤ _; omega
      conv => whnf
      exact fok _ rfl
    have h2 : ¬ x = n_token := by simpa using h2
    conv => whnf
    refine br_intro (fun h3 => ?_) (fun h3 => ?_)
    · have h3 : x = n_code := by simpa using h3
      rw [if_neg h0, if_neg h1, if_neg h2, if_pos h3] at fok fbad fjunk
      have hn := hm.code
      have hv := vput_len10 (n := m.code) (by omega)
      conv => whnf
      refine call_rule [] ?_
      conv => whnf
      rw [wrapI64' (by omega)]
      refine rnum_ob m.code (by omega) _ ?_
      conv => whnf
      refine ⟨vput m.code, rfl, ?_, ?_⟩
      · show (bs.length + (vput m.code).length) * 1 ≤ _; first | omega | (simp only [List.length_append]; omega)
      conv => whnf
      exact fok _ rfl
    have h3 : ¬ x = n_code := by simpa using h3
    conv => whnf
    refine br_intro (fun h4 => ?_) (fun h4 => ?_)
    · have h4 : x = n_n := by simpa using h4
      rw [if_neg h0, if_neg h1, if_neg h2, if_neg h3, if_pos h4] at fok fbad fjunk
      have hn := hm.n
      have hv := vput_len10 (n := m.n) (by omega)
      conv => whnf
      refine call_rule [] ?_
      conv => whnf
      rw [wrapI64' (by omega)]
      refine rnum_ob m.n (by omega) _ ?_
      conv => whnf
      refine ⟨vput m.n, rfl, ?_, ?_⟩
      · show (bs.length + (vput m.n).length) * 1 ≤ _; first | omega | (simp only [List.length_append]; omega)
      conv => whnf
      exact fok _ rfl
    have h4 : ¬ x = n_n := by simpa using h4
    conv => whnf
    refine br_intro (fun h5 => ?_) (fun h5 => ?_)
    · have h5 : x = n_name := by simpa using h5
      rw [if_neg h0, if_neg h1, if_neg h2, if_neg h3, if_neg h4, if_pos h5] at fok fbad fjunk
      conv => whnf
      refine call_rule [] ?_
      conv => whnf
      refine rtext_ob m.name bs (by omega) _ ?_
      generalize hw : wText (bs, false) m.name = t
      rw [hw] at fok fbad
      obtain ⟨cs, bad⟩ := t
      cases bad
      · conv => whnf
        exact fok cs rfl
      · conv => whnf
        exact fbad rfl cs
    have h5 : ¬ x = n_name := by simpa using h5
    conv => whnf
    refine br_intro (fun h6 => ?_) (fun h6 => ?_)
    · have h6 : x = n_conf := by simpa using h6
      rw [if_neg h0, if_neg h1, if_neg h2, if_neg h3, if_neg h4, if_neg h5, if_pos h6] at fok fbad fjunk
      have cn := hm.conf
      have cd := cn.dim
      have cm := cn.metric
      have cl := cn.links
      have cw := cn.width
      have t1 := wText_len (bs, false) m.conf.name
      have d1 := vput_len10 (n := m.conf.dim) (by omega)
      have d2 := vput_len10 (n := m.conf.metric) (by omega)
      have d3 := vput_len10 (n := m.conf.graph.toNat) (by cases m.conf.graph <;> decide)
      have d4 := vput_len10 (n := m.conf.links) (by omega)
      have d5 := vput_len10 (n := m.conf.width) (by omega)
      conv => whnf
      refine call_rule [] ?_
      conv => whnf
      refine rtext_ob m.conf.name bs (by omega) _ ?_
      generalize hw : wText (bs, false) m.conf.name = t at t1
      obtain ⟨c1, bad⟩ := t
      simp only at t1
      cases bad
      · conv => whnf
        refine call_rule [] ?_
        conv => whnf
        rw [wrapI64' (by omega)]
        refine rnum_ob m.conf.dim (by omega) _ ?_
        conv => whnf
        refine ⟨vput m.conf.dim, rfl, ?_, ?_⟩
        · show (c1.length + (vput m.conf.dim).length) * 1 ≤ _; first | omega | (simp only [List.length_append]; omega)
        conv => whnf
        refine call_rule [] ?_
        conv => whnf
        rw [wrapI64' (by omega)]
        refine rnum_ob m.conf.metric (by omega) _ ?_
        conv => whnf
        refine ⟨vput m.conf.metric, rfl, ?_, ?_⟩
        · show ((c1 ++ vput m.conf.dim).length + (vput m.conf.metric).length) * 1 ≤ _; first | omega | (simp only [List.length_append]; omega)
        conv => whnf
        refine call_rule [] ?_
        conv => whnf
        refine rflag_ob m.conf.graph _ ?_
        conv => whnf
        refine ⟨vput m.conf.graph.toNat, rfl, ?_, ?_⟩
        · show (((c1 ++ vput m.conf.dim) ++ vput m.conf.metric).length + (vput m.conf.graph.toNat).length) * 1 ≤ _; first | omega | (simp only [List.length_append]; omega)
        conv => whnf
        refine call_rule [] ?_
        conv => whnf
        rw [wrapI64' (by omega)]
        refine rnum_ob m.conf.links (by omega) _ ?_
        conv => whnf
        refine ⟨vput m.conf.links, rfl, ?_, ?_⟩
        · show ((((c1 ++ vput m.conf.dim) ++ vput m.conf.metric) ++ vput m.conf.graph.toNat).length + (vput m.conf.links).length) * 1 ≤ _; first | omega | (simp only [List.length_append]; omega)
        conv => whnf
        refine call_rule [] ?_
        conv => whnf
        rw [wrapI64' (by omega)]
        refine rnum_ob m.conf.width (by omega) _ ?_
        conv => whnf
        refine ⟨vput m.conf.width, rfl, ?_, ?_⟩
        · show (((((c1 ++ vput m.conf.dim) ++ vput m.conf.metric) ++ vput m.conf.graph.toNat) ++ vput m.conf.links).length + (vput m.conf.width).length) * 1 ≤ _; first | omega | (simp only [List.length_append]; omega)
        conv => whnf
        by_cases hmet : m.conf.metric < 2
        · rw [decide_eq_true (by omega : (m.conf.metric : Int) < 2)]
          exact fok _ (by simp only [wConf, decide_eq_false (by omega : ¬ 1 < m.conf.metric), Bool.or_false, hw])
        · rw [decide_eq_false (by omega : ¬ (m.conf.metric : Int) < 2)]
          exact fbad (by simp [wConf, wText, decide_eq_true (by omega : 1 < m.conf.metric)]) _
      · conv => whnf
        refine call_rule [] ?_
        conv => whnf
        rw [wrapI64' (by omega)]
        refine rnum_ob m.conf.dim (by omega) _ ?_
        conv => whnf
        refine ⟨vput m.conf.dim, rfl, ?_, ?_⟩
        · show (c1.length + (vput m.conf.dim).length) * 1 ≤ _; first | omega | (simp only [List.length_append]; omega)
        conv => whnf
        refine call_rule [] ?_
        conv => whnf
        rw [wrapI64' (by omega)]
        refine rnum_ob m.conf.metric (by omega) _ ?_
        conv => whnf
        refine ⟨vput m.conf.metric, rfl, ?_, ?_⟩
        · show ((c1 ++ vput m.conf.dim).length + (vput m.conf.metric).length) * 1 ≤ _; first | omega | (simp only [List.length_append]; omega)
        conv => whnf
        refine call_rule [] ?_
        conv => whnf
        refine rflag_ob m.conf.graph _ ?_
        conv => whnf
        refine ⟨vput m.conf.graph.toNat, rfl, ?_, ?_⟩
        · show (((c1 ++ vput m.conf.dim) ++ vput m.conf.metric).length + (vput m.conf.graph.toNat).length) * 1 ≤ _; first | omega | (simp only [List.length_append]; omega)
        conv => whnf
        refine call_rule [] ?_
        conv => whnf
        rw [wrapI64' (by omega)]
        refine rnum_ob m.conf.links (by omega) _ ?_
        conv => whnf
        refine ⟨vput m.conf.links, rfl, ?_, ?_⟩
        · show ((((c1 ++ vput m.conf.dim) ++ vput m.conf.metric) ++ vput m.conf.graph.toNat).length + (vput m.conf.links).length) * 1 ≤ _; first | omega | (simp only [List.length_append]; omega)
        conv => whnf
        refine call_rule [] ?_
        conv => whnf
        rw [wrapI64' (by omega)]
        refine rnum_ob m.conf.width (by omega) _ ?_
        conv => whnf
        refine ⟨vput m.conf.width, rfl, ?_, ?_⟩
        · show (((((c1 ++ vput m.conf.dim) ++ vput m.conf.metric) ++ vput m.conf.graph.toNat) ++ vput m.conf.links).length + (vput m.conf.width).length) * 1 ≤ _; first | omega | (simp only [List.length_append]; omega)
        conv => whnf
        exact fbad (by
          have hw2 := congrArg Prod.snd hw
          simp only [wText, Bool.false_or] at hw2
          simp [wConf, wText, hw2]) _
    have h6 : ¬ x = n_conf := by simpa using h6
    conv => whnf
    refine br_intro (fun h7 => ?_) (fun h7 => ?_)
    · have h7 : x = n_changes := by simpa using h7
      rw [if_neg h0, if_neg h1, if_neg h2, if_neg h3, if_neg h4, if_neg h5, if_neg h6, if_pos h7] at fok fbad fjunk
      conv => whnf
      refine call_rule [] ?_
      conv => whnf
      refine rchanges_ob true m.changes hm.changes.1 hm.changes.2 bs (by omega) _ (fun hbd => ?_) (fun cs hbd => ?_) (fun hgd => ?_)
      · conv => whnf
        exact fjunk hbd
      · conv => whnf
        exact fbad hbd cs
      · conv => whnf
        exact fok _ (Prod.ext rfl hgd)
    have h7 : ¬ x = n_changes := by simpa using h7
    conv => whnf
    refine br_intro (fun h8 => ?_) (fun h8 => ?_)
    · have h8 : x = n_id := by simpa using h8
      rw [if_neg h0, if_neg h1, if_neg h2, if_neg h3, if_neg h4, if_neg h5, if_neg h6, if_neg h7, if_pos h8] at fok fbad fjunk
      have hn := hm.id
      have hv := vput_len10 (n := m.id) (by omega)
      conv => whnf
      refine call_rule [] ?_
      conv => whnf
      rw [wrapI64' (by omega)]
      refine rnum_ob m.id (by omega) _ ?_
      conv => whnf
      refine ⟨vput m.id, rfl, ?_, ?_⟩
      · show (bs.length + (vput m.id).length) * 1 ≤ _; first | omega | (simp only [List.length_append]; omega)
      conv => whnf
      exact fok _ rfl
    have h8 : ¬ x = n_id := by simpa using h8
    conv => whnf
    refine br_intro (fun h9 => ?_) (fun h9 => ?_)
    · have h9 : x = n_vec := by simpa using h9
      rw [if_neg h0, if_neg h1, if_neg h2, if_neg h3, if_neg h4, if_neg h5, if_neg h6, if_neg h7, if_neg h8, if_pos h9] at fok fbad fjunk
      conv => whnf
      refine call_rule [] ?_
      conv => whnf
      refine rvec_ob true m.vec hm.vec.1 hm.vec.2 bs (by omega) _ ?_
      generalize hw : wList wVecOne m.vec (bs, false) = t
      rw [hw] at fok fbad
      obtain ⟨cs, bad⟩ := t
      cases bad
      · conv => whnf
        exact fok cs rfl
      · conv => whnf
        exact fbad rfl cs
    have h9 : ¬ x = n_vec := by simpa using h9
    conv => whnf
    refine br_intro (fun h10 => ?_) (fun h10 => ?_)
    · have h10 : x = n_k := by simpa using h10
      rw [if_neg h0, if_neg h1, if_neg h2, if_neg h3, if_neg h4, if_neg h5, if_neg h6, if_neg h7, if_neg h8, if_neg h9, if_pos h10] at fok fbad fjunk
      have hn := hm.k
      have hv := vput_len10 (n := m.k) (by omega)
      conv => whnf
      refine call_rule [] ?_
      conv => whnf
      rw [wrapI64' (by omega)]
      refine rnum_ob m.k (by omega) _ ?_
      conv => whnf
      refine ⟨vput m.k, rfl, ?_, ?_⟩
      · show (bs.length + (vput m.k).length) * 1 ≤ _; first | omega | (simp only [List.length_append]; omega)
      conv => whnf
      exact fok _ rfl
    have h10 : ¬ x = n_k := by simpa using h10
    conv => whnf
    refine br_intro (fun h11 => ?_) (fun h11 => ?_)
    · have h11 : x = n_width := by simpa using h11
      rw [if_neg h0, if_neg h1, if_neg h2, if_neg h3, if_neg h4, if_neg h5, if_neg h6, if_neg h7, if_neg h8, if_neg h9, if_neg h10, if_pos h11] at fok fbad fjunk
      have hn := hm.width
      have hv := vput_len10 (n := m.width) (by omega)
      conv => whnf
      refine call_rule [] ?_
      conv => whnf
      rw [wrapI64' (by omega)]
      refine rnum_ob m.width (by omega) _ ?_
      conv => whnf
      refine ⟨vput m.width, rfl, ?_, ?_⟩
      · show (bs.length + (vput m.width).length) * 1 ≤ _; first | omega | (simp only [List.length_append]; omega)
      conv => whnf
      exact fok _ rfl
    have h11 : ¬ x = n_width := by simpa using h11
    conv => whnf
    refine br_intro (fun h12 => ?_) (fun h12 => ?_)
    · have h12 : x = n_filter := by simpa using h12
      rw [if_neg h0, if_neg h1, if_neg h2, if_neg h3, if_neg h4, if_neg h5, if_neg h6, if_neg h7, if_neg h8, if_neg h9, if_neg h10, if_neg h11, if_pos h12] at fok fbad fjunk
      have t1 := tlen m.fall (bs, false)
      conv => whnf
      refine call_rule [] ?_
      conv => whnf
      refine rtexts_ob true m.fall hm.fall.2 bs (by omega) _ ?_
      generalize hw1 : wList wText m.fall (bs, false) = t at t1
      rw [hw1] at fok fbad
      obtain ⟨c1, bad⟩ := t
      simp only at t1
      cases bad
      · have t2 := tlen m.fany (c1, false)
        conv => whnf
        refine call_rule [] ?_
        conv => whnf
        refine rtexts_ob true m.fany hm.fany.2 c1 (by omega) _ ?_
        generalize hw2 : wList wText m.fany (c1, false) = t at t2
        rw [hw2] at fok fbad
        obtain ⟨c2, bad⟩ := t
        simp only at t2
        cases bad
        · conv => whnf
          refine call_rule [] ?_
          conv => whnf
          refine rtexts_ob true m.fnone hm.fnone.2 c2 (by omega) _ ?_
          generalize hw3 : wList wText m.fnone (c2, false) = t
          rw [hw3] at fok fbad
          obtain ⟨c3, bad⟩ := t
          cases bad
          · conv => whnf
            exact fok c3 rfl
          · conv => whnf
            exact fbad rfl c3
        · conv => whnf
          exact fbad (wList_st2 _ _ rfl) c2
      · conv => whnf
        exact fbad (wList_st2 _ _ (wList_st2 _ _ rfl)) c1
    have h12 : ¬ x = n_filter := by simpa using h12
    conv => whnf
    refine br_intro (fun h13 => ?_) (fun h13 => ?_)
    · have h13 : x = n_num := by simpa using h13
      rw [if_neg h0, if_neg h1, if_neg h2, if_neg h3, if_neg h4, if_neg h5, if_neg h6, if_neg h7, if_neg h8, if_neg h9, if_neg h10, if_neg h11, if_neg h12, if_pos h13] at fok fbad fjunk
      have hn := hm.num
      have hv := vput_len10 (n := m.num) (by omega)
      conv => whnf
      refine call_rule [] ?_
      conv => whnf
      rw [wrapI64' (by omega)]
      refine rnum_ob m.num (by omega) _ ?_
      conv => whnf
      refine ⟨vput m.num, rfl, ?_, ?_⟩
      · show (bs.length + (vput m.num).length) * 1 ≤ _; first | omega | (simp only [List.length_append]; omega)
      conv => whnf
      exact fok _ rfl
    have h13 : ¬ x = n_num := by simpa using h13
    conv => whnf
    refine br_intro (fun h14 => ?_) (fun h14 => ?_)
    · have h14 : x = n_page := by simpa using h14
      rw [if_neg h0, if_neg h1, if_neg h2, if_neg h3, if_neg h4, if_neg h5, if_neg h6, if_neg h7, if_neg h8, if_neg h9, if_neg h10, if_neg h11, if_neg h12, if_neg h13, if_pos h14] at fok fbad fjunk
      have hn := hm.page
      have hv := vput_len10 (n := m.page) (by omega)
      conv => whnf
      refine call_rule [] ?_
      conv => whnf
      rw [wrapI64' (by omega)]
      refine rnum_ob m.page (by omega) _ ?_
      conv => whnf
      refine ⟨vput m.page, rfl, ?_, ?_⟩
      · show (bs.length + (vput m.page).length) * 1 ≤ _; first | omega | (simp only [List.length_append]; omega)
      conv => whnf
      exact fok _ rfl
    have h14 : ¬ x = n_page := by simpa using h14
    conv => whnf
    refine br_intro (fun h15 => ?_) (fun h15 => ?_)
    · have h15 : x = n_bytes := by simpa using h15
      rw [if_neg h0, if_neg h1, if_neg h2, if_neg h3, if_neg h4, if_neg h5, if_neg h6, if_neg h7, if_neg h8, if_neg h9, if_neg h10, if_neg h11, if_neg h12, if_neg h13, if_neg h14, if_pos h15] at fok fbad fjunk
      conv => whnf
      refine ⟨m.bytes, rfl, ?_⟩
      conv => whnf
      refine call_rule [] ?_
      conv => whnf
      refine rtext_ob m.bytes bs (by omega) _ ?_
      generalize hw : wText (bs, false) m.bytes = t
      rw [hw] at fok fbad
      obtain ⟨cs, bad⟩ := t
      cases bad
      · conv => whnf
        exact fok cs rfl
      · conv => whnf
        exact fbad rfl cs
    have h15 : ¬ x = n_bytes := by simpa using h15
    conv => whnf
    refine br_intro (fun h16 => ?_) (fun h16 => ?_)
    · have h16 : x = n_version := by simpa using h16
      rw [if_neg h0, if_neg h1, if_neg h2, if_neg h3, if_neg h4, if_neg h5, if_neg h6, if_neg h7, if_neg h8, if_neg h9, if_neg h10, if_neg h11, if_neg h12, if_neg h13, if_neg h14, if_neg h15, if_pos h16] at fok fbad fjunk
      have hn := hm.version
      have hv := vput_len10 (n := m.version) (by omega)
      conv => whnf
      refine call_rule [] ?_
      conv => whnf
      refine put4_ob m.version (by omega) _ ?_
      conv => whnf
      refine ⟨vput m.version, rfl, ?_, ?_⟩
      · show (bs.length + (vput m.version).length) * 1 ≤ _; omega
      conv => whnf
      exact fok _ rfl
    have h16 : ¬ x = n_version := by simpa using h16
    conv => whnf
    refine br_intro (fun h17 => ?_) (fun h17 => ?_)
    · have h17 : x = n_names := by simpa using h17
      rw [if_neg h0, if_neg h1, if_neg h2, if_neg h3, if_neg h4, if_neg h5, if_neg h6, if_neg h7, if_neg h8, if_neg h9, if_neg h10, if_neg h11, if_neg h12, if_neg h13, if_neg h14, if_neg h15, if_neg h16, if_pos h17] at fok fbad fjunk
      conv => whnf
      refine call_rule [] ?_
      conv => whnf
      refine rtexts_ob true m.names hm.names.2 bs (by omega) _ ?_
      generalize hw : wList wText m.names (bs, false) = t
      rw [hw] at fok fbad
      obtain ⟨cs, bad⟩ := t
      cases bad
      · conv => whnf
        exact fok cs rfl
      · conv => whnf
        exact fbad rfl cs
    have h17 : ¬ x = n_names := by simpa using h17
    conv => whnf
    refine br_intro (fun h18 => ?_) (fun h18 => ?_)
    · have h18 : x = n_items := by simpa using h18
      rw [if_neg h0, if_neg h1, if_neg h2, if_neg h3, if_neg h4, if_neg h5, if_neg h6, if_neg h7, if_neg h8, if_neg h9, if_neg h10, if_neg h11, if_neg h12, if_neg h13, if_neg h14, if_neg h15, if_neg h16, if_neg h17, if_pos h18] at fok fbad fjunk
      conv => whnf
      refine call_rule [] ?_
      conv => whnf
      refine ritems_ob true m.items hm.items.1 hm.items.2 bs (by omega) _ (fun cs hbd => ?_) (fun hgd => ?_)
      · conv => whnf
        exact fbad hbd cs
      · conv => whnf
        exact fok _ (Prod.ext rfl hgd)
    have h18 : ¬ x = n_items := by simpa using h18
    conv => whnf
    refine br_intro (fun h19 => ?_) (fun h19 => ?_)
    · have h19 : x = n_hits := by simpa using h19
      rw [if_neg h0, if_neg h1, if_neg h2, if_neg h3, if_neg h4, if_neg h5, if_neg h6, if_neg h7, if_neg h8, if_neg h9, if_neg h10, if_neg h11, if_neg h12, if_neg h13, if_neg h14, if_neg h15, if_neg h16, if_neg h17, if_neg h18, if_pos h19] at fok fbad fjunk
      conv => whnf
      refine call_rule [] ?_
      conv => whnf
      refine rhits_ob true m.hits hm.hits.1 hm.hits.2 bs (by omega) _ ?_
      generalize hw : wList wHit m.hits (bs, false) = t
      rw [hw] at fok fbad
      obtain ⟨cs, bad⟩ := t
      cases bad
      · conv => whnf
        exact fok cs rfl
      · conv => whnf
        exact fbad rfl cs
    have h19 : ¬ x = n_hits := by simpa using h19
    conv => whnf
    rw [if_neg h0, if_neg h1, if_neg h2, if_neg h3, if_neg h4, if_neg h5, if_neg h6, if_neg h7, if_neg h8, if_neg h9, if_neg h10, if_neg h11, if_neg h12, if_neg h13, if_neg h14, if_neg h15, if_neg h16, if_neg h17, if_neg h18, if_neg h19] at fok
    exact fok _ rfl

end Go.Sx
end

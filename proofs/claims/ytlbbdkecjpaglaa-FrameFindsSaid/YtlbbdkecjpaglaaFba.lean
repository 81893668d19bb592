/- What is written as a message is read as that message: the plain law; no condition. A frame's beginning is told to be one; a frame is found: the plain law; no condition. -/
import Derived.Test.YtlbbdkecjpaglaaFaz

set_option linter.all false

section
namespace Go.Sx
set_option linter.unusedVariables false

def Cod {α : Type} (f : WS → α → WS) (one : RS → α × RS) (x : α) : Prop :=
  ∀ b b' : List UInt8, f (b, false) x = (b', false) → ∃ e, b' = b ++ e ∧ ∀ rest, one (e ++ rest, 0) = (x, (rest, 0))

theorem num_cod (most n : Nat) (h1 : n ≤ most) (h2 : n < 2 ^ 64) (rest : List UInt8) : rdNum most (vput n ++ rest, 0) = (n, (rest, 0)) := by
  unfold rdNum
  rw [vget_vput n h2]
  simp only [if_true]
  rw [if_neg (by omega), List.drop_left]

theorem zag_zig (n : Int) : zag (zig n) = n := by
  unfold zag zig
  by_cases h : 0 ≤ n
  · rw [if_pos h, if_pos (by omega)]
    omega
  · rw [if_neg h, if_neg (by omega)]
    omega

theorem whole_cod (lo hi n : Int) (h1 : lo ≤ n) (h2 : n ≤ hi) (h3 : -9223372036854775808 ≤ n) (h4 : n < 9223372036854775808) (rest : List UInt8) : rdWhole lo hi (vput (zig n) ++ rest, 0) = (n, (rest, 0)) := by
  unfold rdWhole
  rw [vget_vput (zig n) (zig_lt h3 h4)]
  simp only [if_true, zag_zig]
  rw [if_neg (by omega), List.drop_left]

theorem text_cod (t : List UInt8) : Cod wText rdCut t := by
  intro b b' h
  simp only [wText, Bool.false_or, Prod.mk.injEq, decide_eq_false_iff_not] at h
  obtain ⟨h1, h2⟩ := h
  rw [if_neg (by simpa using h2)] at h1
  refine ⟨vput t.length ++ t, by rw [← h1, List.append_assoc], fun rest => ?_⟩
  unfold rdCut
  rw [List.append_assoc, num_cod 4096 t.length (by omega) (by omega)]
  simp only
  rw [if_neg (by simp), List.take_left, List.drop_left]

theorem vec_cod (n : Int) (h1 : -2147483648 ≤ n) (h2 : n < 2147483648) : Cod wVecOne rdI32 n := by
  intro b b' h
  simp only [wVecOne, Prod.mk.injEq, and_true] at h
  exact ⟨vput (zig n), h.symm, fun rest => whole_cod _ _ n (by omega) (by omega) (by omega) (by omega) rest⟩

theorem fold_bad {α : Type} {f : WS → α → WS} (hf : ∀ s x, s.2 = true → (f s x).2 = true) : ∀ (xs : List α) (s : WS), s.2 = true → (xs.foldl f s).2 = true
  | [], _, h => h
  | x :: xs, s, h => fold_bad hf xs _ (hf s x h)

theorem rep_cod {α : Type} {f : WS → α → WS} {one : RS → α × RS} (hf : ∀ s x, s.2 = true → (f s x).2 = true) : ∀ (xs : List α), (∀ x ∈ xs, Cod f one x) → ∀ b b' : List UInt8, xs.foldl f (b, false) = (b', false) → ∃ e, b' = b ++ e ∧ ∀ rest, rdRep one xs.length (e ++ rest, 0) = (xs, (rest, 0))
  | [], _, b, b', h => by
    simp only [List.foldl_nil, Prod.mk.injEq, and_true] at h
    exact ⟨[], by simp [h], fun rest => rfl⟩
  | x :: xs, hc, b, b', h => by
    simp only [List.foldl_cons] at h
    have hx : (f (b, false) x).2 = false := by
      cases hq : (f (b, false) x).2
      · rfl
      · have := fold_bad hf xs _ hq
        rw [h] at this
        cases this
    obtain ⟨e1, h1, h2⟩ := hc x (by simp) b (f (b, false) x).1 (Prod.ext rfl hx)
    have hs : f (b, false) x = (b ++ e1, false) := Prod.ext h1 hx
    rw [hs] at h
    obtain ⟨e2, h3, h4⟩ := rep_cod hf xs (fun y hy => hc y (by simp [hy])) _ _ h
    refine ⟨e1 ++ e2, by rw [h3, List.append_assoc], fun rest => ?_⟩
    simp only [List.length_cons, rdRep, if_true, List.append_assoc, h2, h4]

theorem list_cod {α : Type} {f : WS → α → WS} {one : RS → α × RS} (hf : ∀ s x, s.2 = true → (f s x).2 = true) (xs : List α) (hc : ∀ x ∈ xs, Cod f one x) : Cod (fun s xs => wList f xs s) (rdList one) xs := by
  intro b b' h
  simp only [wList, Bool.false_or] at h
  by_cases hl : 128 < xs.length
  · rw [if_pos (by simpa using hl)] at h
    cases h
  · rw [if_neg (by simpa using hl)] at h
    obtain ⟨e, h1, h2⟩ := rep_cod hf xs hc _ _ h
    refine ⟨vput xs.length ++ e, by rw [h1, List.append_assoc], fun rest => ?_⟩
    unfold rdList
    rw [List.append_assoc, num_cod 128 xs.length (by omega) (by omega)]
    exact h2 rest

theorem texts_cod (l : List (List UInt8)) : Cod (fun s xs => wList wText xs s) (rdList rdCut) l := list_cod wText_st2 l (fun x _ => text_cod x)
theorem vecs_cod (l : List Int) (h : ∀ n ∈ l, -2147483648 ≤ n ∧ n < 2147483648) : Cod (fun s xs => wList wVecOne xs s) (rdList rdI32) l := list_cod wVec_st2 l (fun x hx => vec_cod x (h x hx).1 (h x hx).2)

theorem wList_ok {α : Type} {f : WS → α → WS} {xs : List α} {s : WS} (h : (wList f xs s).2 = false) : s.2 = false := by
  cases hs : s.2
  · rfl
  · rw [wList_st2 xs s hs] at h
    cases h

theorem item_cod (x : Item) (hx : x.Ok) : Cod wItem rdItem x := by
  intro b b' h
  simp only [wItem] at h
  have h2 : (wList wVecOne x.vec (b ++ vput x.id, false)).2 = false := wList_ok (by rw [h])
  obtain ⟨e1, p1, p2⟩ := vecs_cod x.vec hx.vec (b ++ vput x.id) _ (Prod.ext rfl h2)
  have hs : wList wVecOne x.vec (b ++ vput x.id, false) = (b ++ vput x.id ++ e1, false) := Prod.ext p1 h2
  rw [hs] at h
  obtain ⟨e2, q1, q2⟩ := texts_cod x.tags _ _ h
  have hid := hx.id
  refine ⟨vput x.id ++ (e1 ++ e2), by rw [q1]; simp, fun rest => ?_⟩
  unfold rdItem
  simp only [List.append_assoc, num_cod 4294967295 x.id (by omega) (by omega), p2, q2]

theorem chg_cod (c : Chg) (hc : c.item.Ok) : Cod wChg rdChg c := by
  intro b b' h
  obtain ⟨gone, x⟩ := c
  have hid := hc.id
  simp only at hc hid
  cases gone with
  | true =>
    simp only [wChg, if_true, Bool.false_or, Prod.mk.injEq, Bool.or_eq_false_iff, decide_eq_false_iff_not] at h
    obtain ⟨h1, h2, h3⟩ := h
    have hv : x.vec = [] := List.eq_nil_of_length_eq_zero (by omega)
    have ht : x.tags = [] := List.eq_nil_of_length_eq_zero (by omega)
    refine ⟨vput 1 ++ vput x.id, by rw [← h1]; simp, fun rest => ?_⟩
    unfold rdChg
    rw [List.append_assoc, num_cod 1 1 (by omega) (by omega)]
    simp only [if_true, num_cod 4294967295 x.id (by omega) (by omega)]
    rw [← hv, ← ht]
  | false =>
    simp only [wChg, Bool.false_eq_true, if_false] at h
    obtain ⟨e, h1, h2⟩ := item_cod x hc _ _ h
    refine ⟨vput 0 ++ e, by rw [h1]; simp, fun rest => ?_⟩
    unfold rdChg
    rw [List.append_assoc, num_cod 1 0 (by omega) (by omega)]
    simp only [h2]
    rw [if_neg (by decide)]

theorem hit_cod (x : Hit) (hx : x.Ok) : Cod wHit rdHit x := by
  intro b b' h
  simp only [wHit, Prod.mk.injEq, and_true] at h
  have h1 := hx.id
  have h2 := hx.d1
  have h3 := hx.d2
  refine ⟨vput (zig x.dist) ++ vput x.id, by rw [← h]; simp, fun rest => ?_⟩
  unfold rdHit
  simp only [List.append_assoc, whole_cod (-9223372036854775808) 9223372036854775807 x.dist (by omega) (by omega) (by omega) (by omega), num_cod 4294967295 x.id (by omega) (by omega)]

theorem conf_cod (c : Conf) (hc : c.Ok) : Cod wConf rdConf c := by
  intro b b' h
  simp only [wConf, Bool.false_or, Prod.mk.injEq] at h
  obtain ⟨h1, h2⟩ := h
  have hm : ¬ 1 < c.metric := by
    intro hm
    rw [wText_st2 _ _ (by simpa using hm)] at h2
    cases h2
  rw [show decide (1 < c.metric) = false by simpa using hm] at h1 h2
  obtain ⟨e, p1, p2⟩ := text_cod c.name b (wText (b, false) c.name).1 (Prod.ext rfl h2)
  rw [p1] at h1
  have d1 := hc.dim
  have d2 := hc.links
  have d3 := hc.width
  refine ⟨e ++ (vput c.dim ++ (vput c.metric ++ (vput c.graph.toNat ++ (vput c.links ++ vput c.width)))), by rw [← h1]; simp, fun rest => ?_⟩
  have hg : c.graph.toNat ≤ 1 := by cases c.graph <;> simp
  simp only [rdConf, List.append_assoc, p2, num_cod 255 c.dim (by omega) (by omega), num_cod 1 c.metric (by omega) (by omega), num_cod 1 c.graph.toNat hg (by omega), num_cod 255 c.links (by omega) (by omega), num_cod 65535 c.width (by omega) (by omega)]
  congr 1
  cases c
  simp only [Conf.mk.injEq, true_and, and_true]
  rename_i g _ _
  cases g <;> rfl

/-- a field -/
def FCod (m : Msg) (nm : List UInt8) : Prop :=
  ∀ b b' : List UInt8, rPutF m (b, false) nm = (b', false) → ∃ e, b' = b ++ e ∧ ∀ rest m0, gField (nmCh nm) (e ++ rest, 0) m0 = (rTake m m0 nm, (rest, 0))

theorem fcod_num {m : Msg} {nm : List UInt8} {n most : Nat} {up : Nat → Msg → Msg} (h1 : ∀ s, rPutF m s nm = (s.1 ++ vput n, s.2)) (h2 : ∀ s m0, gField (nmCh nm) s m0 = (up (rdNum most s).1 m0, (rdNum most s).2)) (h3 : ∀ m0, rTake m m0 nm = up n m0) (hn : n ≤ most) (hn2 : n < 2 ^ 64) : FCod m nm := by
  intro b b' h
  rw [h1] at h
  simp only [Prod.mk.injEq, and_true] at h
  exact ⟨vput n, h.symm, fun rest m0 => by rw [h2, h3, num_cod most n hn hn2]⟩

theorem fcod_cod {m : Msg} {nm : List UInt8} {α : Type} {f : WS → α → WS} {one : RS → α × RS} {x : α} {up : α → Msg → Msg} (hc : Cod f one x) (h1 : ∀ s, rPutF m s nm = f s x) (h2 : ∀ s m0, gField (nmCh nm) s m0 = (up (one s).1 m0, (one s).2)) (h3 : ∀ m0, rTake m m0 nm = up x m0) : FCod m nm := by
  intro b b' h
  rw [h1] at h
  obtain ⟨e, p1, p2⟩ := hc b b' h
  exact ⟨e, p1, fun rest m0 => by rw [h2, h3, p2]⟩

theorem fcod_filter (m : Msg) : FCod m n_filter := by
  intro b b' h
  have h : wList wText m.fnone (wList wText m.fany (wList wText m.fall (b, false))) = (b', false) := h
  have h2 : (wList wText m.fany (wList wText m.fall (b, false))).2 = false := wList_ok (by rw [h])
  have h1 : (wList wText m.fall (b, false)).2 = false := wList_ok h2
  obtain ⟨e1, p1, p2⟩ := texts_cod m.fall b _ (Prod.ext rfl h1)
  have s1 : wList wText m.fall (b, false) = (b ++ e1, false) := Prod.ext p1 h1
  rw [s1] at h h2
  obtain ⟨e2, q1, q2⟩ := texts_cod m.fany (b ++ e1) _ (Prod.ext rfl h2)
  have s2 : wList wText m.fany (b ++ e1, false) = (b ++ e1 ++ e2, false) := Prod.ext q1 h2
  rw [s2] at h
  obtain ⟨e3, r1, r2⟩ := texts_cod m.fnone _ _ h
  refine ⟨e1 ++ (e2 ++ e3), by rw [r1]; simp, fun rest m0 => ?_⟩
  have hg : gField (nmCh n_filter) (e1 ++ (e2 ++ e3) ++ rest, 0) m0 = ({ m0 with fall := (rdList rdCut (e1 ++ (e2 ++ e3) ++ rest, 0)).1, fany := (rdList rdCut (rdList rdCut (e1 ++ (e2 ++ e3) ++ rest, 0)).2).1, fnone := (rdList rdCut (rdList rdCut (rdList rdCut (e1 ++ (e2 ++ e3) ++ rest, 0)).2).2).1 }, (rdList rdCut (rdList rdCut (rdList rdCut (e1 ++ (e2 ++ e3) ++ rest, 0)).2).2).2) := rfl
  rw [hg]
  simp only [List.append_assoc, p2, q2, r2]
  rfl

theorem fcod (m : Msg) (hm : m.Ok) (nm : List UInt8) : FCod m nm := by
  have c1 := hm.req; have c2 := hm.caps; have c3 := hm.token; have c4 := hm.code; have c5 := hm.n; have c6 := hm.id; have c7 := hm.k; have c8 := hm.width; have c9 := hm.num; have c10 := hm.page; have c11 := hm.version
  by_cases h : nm = n_req; · subst h; exact fcod_num (n := m.req) (up := fun v y => { y with req := v }) (fun _ => rfl) (fun _ _ => rfl) (fun _ => rfl) (by omega) (by omega)
  by_cases h : nm = n_caps; · subst h; exact fcod_num (n := m.caps) (up := fun v y => { y with caps := v }) (fun _ => rfl) (fun _ _ => rfl) (fun _ => rfl) (by omega) (by omega)
  by_cases h : nm = n_token; · subst h; exact fcod_num (n := m.token) (up := fun v y => { y with token := v }) (fun _ => rfl) (fun _ _ => rfl) (fun _ => rfl) (by omega) (by omega)
  by_cases h : nm = n_code; · subst h; exact fcod_num (n := m.code) (up := fun v y => { y with code := v }) (fun _ => rfl) (fun _ _ => rfl) (fun _ => rfl) (by omega) (by omega)
  by_cases h : nm = n_n; · subst h; exact fcod_num (n := m.n) (up := fun v y => { y with n := v }) (fun _ => rfl) (fun _ _ => rfl) (fun _ => rfl) (by omega) (by omega)
  by_cases h : nm = n_name; · subst h; exact fcod_cod (x := m.name) (up := fun v y => { y with name := v }) (text_cod _) (fun _ => rfl) (fun _ _ => rfl) (fun _ => rfl)
  by_cases h : nm = n_conf; · subst h; exact fcod_cod (x := m.conf) (up := fun v y => { y with conf := v }) (conf_cod _ hm.conf) (fun _ => rfl) (fun _ _ => rfl) (fun _ => rfl)
  by_cases h : nm = n_changes; · subst h; exact fcod_cod (x := m.changes) (up := fun v y => { y with changes := v }) (list_cod wChg_st2 _ (fun x hx => chg_cod x (hm.changes.1 x hx))) (fun _ => rfl) (fun _ _ => rfl) (fun _ => rfl)
  by_cases h : nm = n_id; · subst h; exact fcod_num (n := m.id) (up := fun v y => { y with id := v }) (fun _ => rfl) (fun _ _ => rfl) (fun _ => rfl) (by omega) (by omega)
  by_cases h : nm = n_vec; · subst h; exact fcod_cod (x := m.vec) (up := fun v y => { y with vec := v }) (vecs_cod _ hm.vec.1) (fun _ => rfl) (fun _ _ => rfl) (fun _ => rfl)
  by_cases h : nm = n_k; · subst h; exact fcod_num (n := m.k) (up := fun v y => { y with k := v }) (fun _ => rfl) (fun _ _ => rfl) (fun _ => rfl) (by omega) (by omega)
  by_cases h : nm = n_width; · subst h; exact fcod_num (n := m.width) (up := fun v y => { y with width := v }) (fun _ => rfl) (fun _ _ => rfl) (fun _ => rfl) (by omega) (by omega)
  by_cases h : nm = n_filter; · subst h; exact fcod_filter m
  by_cases h : nm = n_num; · subst h; exact fcod_num (n := m.num) (up := fun v y => { y with num := v }) (fun _ => rfl) (fun _ _ => rfl) (fun _ => rfl) (by omega) (by omega)
  by_cases h : nm = n_page; · subst h; exact fcod_num (n := m.page) (up := fun v y => { y with page := v }) (fun _ => rfl) (fun _ _ => rfl) (fun _ => rfl) (by omega) (by omega)
  by_cases h : nm = n_bytes; · subst h; exact fcod_cod (x := m.bytes) (up := fun v y => { y with bytes := v }) (text_cod _) (fun _ => rfl) (fun _ _ => rfl) (fun _ => rfl)
  by_cases h : nm = n_version; · subst h; exact fcod_num (n := m.version) (up := fun v y => { y with version := v }) (fun _ => rfl) (fun _ _ => rfl) (fun _ => rfl) (by omega) (by omega)
  by_cases h : nm = n_names; · subst h; exact fcod_cod (x := m.names) (up := fun v y => { y with names := v }) (texts_cod _) (fun _ => rfl) (fun _ _ => rfl) (fun _ => rfl)
  by_cases h : nm = n_items; · subst h; exact fcod_cod (x := m.items) (up := fun v y => { y with items := v }) (list_cod wItem_st2 _ (fun x hx => item_cod x (hm.items.1 x hx))) (fun _ => rfl) (fun _ _ => rfl) (fun _ => rfl)
  by_cases h : nm = n_hits; · subst h; exact fcod_cod (x := m.hits) (up := fun v y => { y with hits := v }) (list_cod wHit_st2 _ (fun x hx => hit_cod x (hm.hits.1 x hx))) (fun _ => rfl) (fun _ _ => rfl) (fun _ => rfl)
  intro b b' hb
  rename_i g1 g2 g3 g4 g5 g6 g7 g8 g9 g10 g11 g12 g13 g14 g15 g16 g17 g18 g19
  have e1 : rPutF m (b, false) nm = (b, false) := by unfold rPutF; rw [if_neg g1, if_neg g2, if_neg g3, if_neg g4, if_neg g5, if_neg g6, if_neg g7, if_neg g8, if_neg g9, if_neg g10, if_neg g11, if_neg g12, if_neg g13, if_neg g14, if_neg g15, if_neg g16, if_neg g17, if_neg g18, if_neg g19, if_neg h]
  have e2 : nmCh nm = 0 := by unfold nmCh; rw [if_neg g1, if_neg g2, if_neg g3, if_neg g4, if_neg g5, if_neg g6, if_neg g7, if_neg g8, if_neg g9, if_neg g10, if_neg g11, if_neg g12, if_neg g13, if_neg g14, if_neg g15, if_neg g16, if_neg g17, if_neg g18, if_neg g19, if_neg h]
  have e3 : ∀ m0, rTake m m0 nm = m0 := fun m0 => by unfold rTake; rw [if_neg g1, if_neg g2, if_neg g3, if_neg g4, if_neg g5, if_neg g6, if_neg g7, if_neg g8, if_neg g9, if_neg g10, if_neg g11, if_neg g12, if_neg g13, if_neg g14, if_neg g15, if_neg g16, if_neg g17, if_neg g18, if_neg g19, if_neg h]
  rw [e1] at hb
  simp only [Prod.mk.injEq, and_true] at hb
  refine ⟨[], by simp [hb], fun rest m0 => ?_⟩
  rw [e2, e3]
  rfl

theorem run_cod (m : Msg) (hm : m.Ok) : ∀ (N : List (List UInt8)) (b b' : List UInt8), rRun m N (b, false) = (b', false) → ∃ e, b' = b ++ e ∧ ∀ rest m0, dRun N (m0, (e ++ rest, 0)) = (N.foldl (rTake m) m0, (rest, 0))
  | [], b, b', h => by
    have h : (b, false) = (b', false) := h
    simp only [Prod.mk.injEq, and_true] at h
    exact ⟨[], by simp [h], fun rest m0 => rfl⟩
  | nm :: N, b, b', h => by
    have h : rRun m N (rPutF m (b, false) nm) = (b', false) := h
    have hx : (rPutF m (b, false) nm).2 = false := by
      cases hq : (rPutF m (b, false) nm).2
      · rfl
      · have := fold_bad (f := rPutF m) (fun s x hs => rPutF_st2 m s x hs) N _ hq
        unfold rRun at h
        rw [h] at this
        cases this
    obtain ⟨e1, p1, p2⟩ := fcod m hm nm b _ (Prod.ext rfl hx)
    have hs : rPutF m (b, false) nm = (b ++ e1, false) := Prod.ext p1 hx
    rw [hs] at h
    obtain ⟨e2, q1, q2⟩ := run_cod m hm N _ _ h
    refine ⟨e1 ++ e2, by rw [q1, List.append_assoc], fun rest m0 => ?_⟩
    show dRun N (gField (nmCh nm) (e1 ++ e2 ++ rest, 0) m0) = _
    rw [List.append_assoc, p2]
    exact q2 rest _

/-- what is written is read -/
theorem mget_mput (m : Msg) (hm : m.Ok) (bs : List UInt8) (h : mPut m = some bs) : mGet m.kind bs = (m, 0) := by
  rw [← rPut_eq] at h
  unfold rPut at h
  split at h
  · rename_i hc
    obtain ⟨h1, h2, h3⟩ := hc
    have h : (rRun m (rForm m.kind).1 ([], false)).1 = bs := Option.some.inj h
    obtain ⟨e, p1, p2⟩ := run_cod m hm (rForm m.kind).1 [] bs (Prod.ext h h3)
    have p1 : bs = e := by simpa using p1
    subst p1
    have hr := p2 [] (Msg.zero m.kind)
    rw [List.append_nil] at hr
    have e2 : rOnly m = (rForm m.kind).1.foldl (rTake m) (Msg.zero m.kind) := rfl
    rw [← e2, ← h2, dRun_eq] at hr
    unfold mGet
    rw [if_pos (by rw [← (form_eq m.kind).2]; exact h1), hr]
    rfl
  · cases h

end Go.Sx
end

section
namespace Go.Sx
set_option linter.unusedVariables false

theorem fields_kind {k : Nat} (h : (mFields k).2 = true) : 1 ≤ k ∧ k ≤ 24 := by
  rcases Nat.lt_or_ge k 25 with h1 | h1
  · have : ∀ k, k < 25 → (mFields k).2 = true → 1 ≤ k ∧ k ≤ 24 := by decide +kernel
    exact this k h1 h
  · rw [(form_great k h1).2] at h
    cases h

theorem mput_kind {m : Msg} {bs : List UInt8} (h : mPut m = some bs) : 1 ≤ m.kind ∧ m.kind ≤ 24 := by
  apply fields_kind
  unfold mPut at h
  split at h
  · assumption
  · cases h

/-- a header's reading, of bytes of that form -/
theorem hdr_form (k : Nat) (h1 : 1 ≤ k) (h2 : k ≤ 24) (r : List UInt8) : hdrF ([76, 68, 1, UInt8.ofNat k] ++ r) 4 0 = 0 := by
  have e : (UInt8.ofNat k).toNat = k := by simp; omega
  have e3 : hdrE 3 k = 0 := by unfold hdrE; rw [if_neg (by omega), if_neg (by omega), if_neg (by omega)]
  simp only [List.cons_append, List.nil_append, hdrF, List.getElem?_cons_zero, List.getElem?_cons_succ, e, e3]
  rfl

theorem frBytes_form (k : Nat) (M : List UInt8) : frBytes k M = [76, 68, 1, UInt8.ofNat k] ++ (vput M.length ++ (M ++ (be32 (crcMore 0 (frHead k M)) ++ []))) := by simp [frBytes, frHead]

/-- a frame that bytes begin with is found -/
theorem first_found (m : Msg) (hm : m.Ok) (M : List UInt8) (hM : mPut m = some M) (hl : M.length ≤ 4096) (rest : List UInt8) : first (frBytes m.kind M ++ rest) = (m, (frBytes m.kind M).length, 0) := by
  obtain ⟨k1, k2⟩ := mput_kind hM
  have hA : ([76, 68, 1, UInt8.ofNat m.kind] : List UInt8).length = 4 := rfl
  have hS := be32_len (crcMore 0 (frHead m.kind M))
  have hF : frBytes m.kind M ++ rest = [76, 68, 1, UInt8.ofNat m.kind] ++ (vput M.length ++ (M ++ (be32 (crcMore 0 (frHead m.kind M)) ++ rest))) := by rw [frBytes_form]; simp
  have hh : frHead m.kind M = [76, 68, 1, UInt8.ofNat m.kind] ++ (vput M.length ++ M) := by simp [frHead]
  have hlen : (frBytes m.kind M).length = (frHead m.kind M).length + 4 := by simp [frBytes, be32_len]
  generalize hSe : be32 (crcMore 0 (frHead m.kind M)) = S at hS hF
  obtain ⟨f1, f2, f3, f4⟩ := form_find [76, 68, 1, UInt8.ofNat m.kind] M S hA hl hS rest
  have hto : frTo (frBytes m.kind M ++ rest) = (frHead m.kind M).length := by rw [hF, f2, hh]
  have hTl : (frBytes m.kind M ++ rest).take (frHead m.kind M).length = frHead m.kind M := by rw [hF, hh]; exact f3
  have hTd : ((frBytes m.kind M ++ rest).drop (frHead m.kind M).length).take 4 = S := by rw [hF, hh]; exact f4
  have hfv : frV (frBytes m.kind M ++ rest) = (M.length, (vput M.length).length, 0) := by rw [hF]; exact f1
  have hE : nextE (frBytes m.kind M ++ rest) = 0 := by
    have hd : hdrF (frBytes m.kind M ++ rest) 4 0 = 0 := by rw [hF]; exact hdr_form m.kind k1 k2 _
    unfold nextE
    rw [hto, hd, hfv, hTl, hTd, hSe]
    rw [if_neg (by simp), if_neg (by simp), if_neg (by simp), if_neg (by simp only; omega), if_neg (by simp only [List.length_append, hlen]; omega), if_pos rfl]
  have hG : frGet (frBytes m.kind M ++ rest) = (m, 0) := by
    unfold frGet
    rw [hto, hTl, hfv]
    have e1 : ((frBytes m.kind M ++ rest).getD 3 0).toNat = m.kind := by
      rw [hF]
      simp
      omega
    rw [e1, hh]
    have e2 : ([76, 68, 1, UInt8.ofNat m.kind] ++ (vput M.length ++ M)).drop (4 + (vput M.length).length) = M := by
      rw [← List.append_assoc]
      exact List.drop_left' (by simp; omega)
    show mGet m.kind (([76, 68, 1, UInt8.ofNat m.kind] ++ (vput M.length ++ M)).drop (4 + (vput M.length).length)) = _
    rw [e2]
    exact mget_mput m hm M hM
  unfold first
  rw [hE, hG, hto, hlen]
  simp

/-- of a frame's beginning it is told that more bytes are needed -/
theorem first_more (m : Msg) (M : List UInt8) (hM : mPut m = some M) (hl : M.length ≤ 4096) (j : Nat) (hj : j < (frBytes m.kind M).length) : first ((frBytes m.kind M).take j) = (Msg.zero 0, 0, 40) := by
  obtain ⟨k1, k2⟩ := mput_kind hM
  apply first_e ?_ (by decide)
  have hlen : (frBytes m.kind M).length = 4 + ((vput M.length).length + (M.length + 4)) := by rw [frBytes_form]; simp [be32_len]; omega
  have hL := vput_len 1 M.length (by omega)
  have hL1 := vput_pos M.length
  have hF := frBytes_form m.kind M
  have hS := be32_len (crcMore 0 (frHead m.kind M))
  generalize be32 (crcMore 0 (frHead m.kind M)) = S at hF hS
  rw [List.append_nil] at hF
  by_cases h4 : j < 4
  · have hh : hdrF ((frBytes m.kind M).take j) 4 0 = 40 := by
      rw [hF, List.take_append_of_le_length (by simp; omega)]
      have hs : j = 0 ∨ j = 1 ∨ j = 2 ∨ j = 3 := by omega
      rcases hs with rfl | rfl | rfl | rfl <;> rfl
    unfold nextE
    rw [hh]
    rfl
  have eT : (frBytes m.kind M).take j = [76, 68, 1, UInt8.ofNat m.kind] ++ (vput M.length ++ (M ++ S)).take (j - 4) := by
    rw [hF, List.take_append]
    have e4 : ([76, 68, 1, UInt8.ofNat m.kind] : List UInt8).take j = [76, 68, 1, UInt8.ofNat m.kind] := List.take_of_length_le (by simp; omega)
    rw [e4]
    rfl
  have hlT : ((frBytes m.kind M).take j).length = j := by simp; omega
  have hV : frV ((frBytes m.kind M).take j) = vget ((vput M.length ++ (M ++ S)).take (j - 4)) := by
    rw [eT]
    rfl
  unfold nextE
  rw [show hdrF ((frBytes m.kind M).take j) 4 0 = 0 by rw [eT]; exact hdr_form m.kind k1 k2 _]
  rw [if_neg (by simp)]
  by_cases hv : j - 4 < (vput M.length).length
  · have e : vget ((vput M.length ++ (M ++ S)).take (j - 4)) = (0, 0, 40) := by
      rw [List.take_append_of_le_length (by omega)]
      by_cases j0 : j - 4 = 0
      · rw [j0]; rfl
      · have j1 : j - 4 = 1 := by omega
        rw [j1]
        have hb : ¬ M.length < 128 := by
          intro h
          rw [vput_lt h] at hv
          simp at hv
          omega
        rw [vput_ge hb]
        have hm : M.length % 128 < 128 := Nat.mod_lt _ (by decide)
        have e2 : (UInt8.ofNat (M.length % 128 + 128)).toNat = M.length % 128 + 128 := by simp; omega
        simp only [List.take_succ_cons, List.take_zero, vget, vgetL, e2]
        rw [if_neg (by omega), if_neg (by omega)]
    rw [hV, e]
    rfl
  · have e : vget ((vput M.length ++ (M ++ S)).take (j - 4)) = (M.length, (vput M.length).length, 0) := by
      rw [List.take_append, List.take_of_length_le (by omega)]
      exact vget_vput _ (by omega) _
    have hto : frTo ((frBytes m.kind M).take j) = 4 + (vput M.length).length + M.length := by
      unfold frTo
      rw [hV, e]
    rw [hto, hV, e, hlT]
    rw [if_neg (by simp), if_neg (by simp), if_neg (by simp only; omega), if_pos (by omega)]

theorem first_nil : first [] = (Msg.zero 0, 0, 40) := first_e (by decide) (by decide)

/-- a message that can be written, as a frame -/
def FrOk (m : Msg) : Prop := m.Ok ∧ ∃ M, mPut m = some M ∧ M.length ≤ 4096

open Classical in
noncomputable def frOf (m : Msg) : List UInt8 := match mPut m with
  | some M => frBytes m.kind M
  | none => []

theorem frOf_eq {m : Msg} {M : List UInt8} (h : mPut m = some M) : frOf m = frBytes m.kind M := by
  unfold frOf
  rw [h]

noncomputable def frAll (l : List Msg) : List UInt8 := (l.map frOf).flatten

/-- one step of a reader in the midst of frames -/
theorem find_step (l : List Msg) (hl : ∀ m ∈ l, FrOk m) (cs rest : List UInt8) (h : cs ++ rest = frAll l) :
    ((first cs).2.2 = 40 ∧ (∀ m, l.head? = some m → cs.length < (frOf m).length) ∧ (l = [] → cs = [])) ∨
      (∃ m l', l = m :: l' ∧ first cs = (m, (frOf m).length, 0) ∧ cs.drop (frOf m).length ++ rest = frAll l' ∧ (frOf m).length ≤ cs.length) := by
  cases l with
  | nil =>
    have h : cs ++ rest = [] := h
    have hc : cs = [] := (List.append_eq_nil_iff.1 h).1
    subst hc
    exact .inl ⟨by rw [first_nil], fun m hm => by simp at hm, fun _ => rfl⟩
  | cons m l' =>
    obtain ⟨hm, M, hM, hML⟩ := hl m (by simp)
    have hf := frOf_eq hM
    have h : cs ++ rest = frOf m ++ frAll l' := by rw [h]; simp [frAll]
    by_cases hlen : cs.length < (frOf m).length
    · refine .inl ⟨?_, fun m' hm' => by simp at hm'; subst hm'; exact hlen, fun hh => by cases hh⟩
      have e : cs = (frOf m).take cs.length := by
        have := congrArg (List.take cs.length) h
        rw [List.take_left, List.take_append_of_le_length (by omega)] at this
        exact this
      rw [e, hf, first_more m M hM hML _ (by rw [← hf]; exact hlen)]
    · refine .inr ⟨m, l', rfl, ?_, ?_, by omega⟩
      · have e : cs = frOf m ++ cs.drop (frOf m).length := by
          have := congrArg (List.take (frOf m).length) h
          rw [List.take_left, List.take_append_of_le_length (by omega)] at this
          conv => lhs; rw [← List.take_append_drop (frOf m).length cs, this]
        rw [e, hf, first_found m hm M hM hML]
      · have := congrArg (List.drop (frOf m).length) h
        rw [List.drop_left, List.drop_append_of_le_length (by omega)] at this
        exact this

theorem frOf_len {m : Msg} (h : FrOk m) : 8 ≤ (frOf m).length ∧ (frOf m).length ≤ 5000 := by
  obtain ⟨hm, M, hM, hML⟩ := h
  rw [frOf_eq hM]
  have hlen : (frBytes m.kind M).length = 4 + ((vput M.length).length + (M.length + 4)) := by rw [frBytes_form]; simp [be32_len]; omega
  have hL := vput_len 1 M.length (by omega)
  omega

end Go.Sx
end

/- lodestarref06.Read (printed by gendread.py); no condition. -/
import Derived.Test.YtlbbdkecjpaglaaGreatHas

set_option linter.all false

section
open Go.Proofs
namespace Go.Sx
set_option linter.unusedVariables false

/-- a field's letter, by its name -/
def nmCh (nm : List UInt8) : Nat := if nm = n_req then 114 else if nm = n_caps then 99 else if nm = n_token then 116 else if nm = n_code then 101 else if nm = n_n then 110 else if nm = n_name then 78 else if nm = n_conf then 67 else if nm = n_changes then 76 else if nm = n_id then 105 else if nm = n_vec then 118 else if nm = n_k then 107 else if nm = n_width then 119 else if nm = n_filter then 102 else if nm = n_num then 117 else if nm = n_page then 112 else if nm = n_bytes then 98 else if nm = n_version then 86 else if nm = n_names then 83 else if nm = n_items then 73 else if nm = n_hits then 72 else 0

def dRun (l : List (List UInt8)) (x : Msg × RS) : Msg × RS := l.foldl (fun x nm => gField (nmCh nm) x.2 x.1) x

theorem form_small : ∀ k, k < 25 → (rForm k).1.map nmCh = (mFields k).1.map (·.toNat) ∧ (rForm k).2 = (mFields k).2 ∧ (∀ i, i < 7 → ((rForm k).1[i]? = some n_items → (rForm k).1.drop (i + 1) = [n_hits]) ∧ ((rForm k).1[i]? = some n_hits → (rForm k).1.drop (i + 1) = [])) := by decide +kernel

theorem form_great (k : Nat) (h : 25 ≤ k) : rForm k = ([], false) ∧ mFields k = ([], false) := by
  constructor
  · unfold rForm
    repeat rw [if_neg (by omega)]
  · unfold mFields
    repeat rw [if_neg (by omega)]

theorem form_eq (k : Nat) : (rForm k).1.map nmCh = (mFields k).1.map (·.toNat) ∧ (rForm k).2 = (mFields k).2 := by
  rcases Nat.lt_or_ge k 25 with h | h
  · exact ⟨(form_small k h).1, (form_small k h).2.1⟩
  · rw [(form_great k h).1, (form_great k h).2]
    exact ⟨rfl, rfl⟩

theorem form_rest (k i : Nat) : ((rForm k).1[i]? = some n_items → (rForm k).1.drop (i + 1) = [n_hits]) ∧ ((rForm k).1[i]? = some n_hits → (rForm k).1.drop (i + 1) = []) := by
  rcases Nat.lt_or_ge k 25 with h | h
  · by_cases hi : i < 7
    · exact (form_small k h).2.2 i hi
    · have := rForm_len k
      rw [List.getElem?_eq_none (by omega)]
      constructor <;> intro h <;> cases h
  · rw [(form_great k h).1]
    constructor <;> intro h <;> simp at h

theorem dRun_eq (k : Nat) (x : Msg × RS) : dRun (rForm k).1 x = gRun (mFields k).1 x := by
  have e1 : dRun (rForm k).1 x = ((rForm k).1.map nmCh).foldl (fun x c => gField c x.2 x.1) x := by rw [List.foldl_map]; rfl
  have e2 : gRun (mFields k).1 x = ((mFields k).1.map (·.toNat)).foldl (fun x c => gField c x.2 x.1) x := by rw [List.foldl_map]; rfl
  rw [e1, e2, (form_eq k).1]

/-- a message's cells, of which the last two are given -/
def Msg.cellsIH (m : Msg) (a b : V) : List V := [.int .u8 m.kind, .int .u32 m.req, .int .u32 m.caps, .int .u64 m.token, .int .u8 m.code, .int .u32 m.n, .str m.name, .str m.conf.name, .int .u8 m.conf.dim, .int .u8 m.conf.metric, .bool m.conf.graph, .int .u8 m.conf.links, .int .u16 m.conf.width,
  .isl true 4 encChg m.changes, .int .u32 m.id, .isl true 1 encI32 m.vec, .int .u16 m.k, .int .u16 m.width, .isl true 1 encStr m.fall, .isl true 1 encStr m.fany, .isl true 1 encStr m.fnone, .int .u32 m.num, .int .u32 m.page, .isl true 1 encB m.bytes, .int .u64 m.version,
  .isl true 1 encStr m.names, a, b]

theorem Msg.cells_nn (m : Msg) (h1 : m.items = []) (h2 : m.hits = []) : leFs (m.cellsIH .nils .nils) m.cells := by
  unfold Msg.cellsIH Msg.cells
  rw [h1, h2]
  repeat' first
    | exact trivial
    | exact leF_refl _
    | exact rfl
    | refine And.intro ?_ ?_

theorem zleIH (k : Nat) : leFs [.int .u8 k, .int .u32 0, .int .u32 0, .int .u64 0, .int .u8 0, .int .u32 0, .str [], .str [], .int .u8 0, .int .u8 0, .bool false, .int .u8 0, .int .u16 0, .nils, .int .u32 0, .nils, .int .u16 0, .int .u16 0, .nils, .nils, .nils, .int .u32 0, .int .u32 0, .nils, .int .u64 0, .nils, .nils, .nils] ((Msg.zero k).cellsIH .nils .nils) := by
  repeat' first
    | exact trivial
    | exact leF_refl _
    | exact rfl
    | refine And.intro ?_ ?_

abbrev RdT (k : Nat) (tot : Msg × RS) : Type := { x : Nat × Msg × RS // x.1 ≤ (rForm k).1.length ∧ x.2.2.1.length ≤ 2 ^ 40 ∧ dRun ((rForm k).1.drop x.1) x.2 = tot ∧ x.2.1.items = [] ∧ x.2.1.hits = [] } ⊕
  ({ x : Nat × Msg × RS // (rForm k).1.drop x.1 = [n_hits] ∧ x.2.2.1.length ≤ 2 ^ 40 ∧ dRun [n_hits] x.2 = tot } ⊕ { x : Nat × Msg × RS // (rForm k).1.drop x.1 = [] ∧ x.2.2.1.length ≤ 2 ^ 40 ∧ x.2 = tot ∧ x.1 ≤ (rForm k).1.length })

def rdTI (k : Nat) (tot : Msg × RS) : RdT k tot → List V
  | .inl x => [.ptr 0 0, .isl true 1 encStr (rForm k).1, .ptr 1 0, .ptr 2 0, .int .i64 (x.1.1 : Int)]
  | .inr (.inl x) => [.ptr 0 0, .isl true 1 encStr (rForm k).1, .ptr 1 0, .ptr 2 0, .int .i64 (x.1.1 : Int)]
  | .inr (.inr x) => [.ptr 0 0, .isl true 1 encStr (rForm k).1, .ptr 1 0, .ptr 2 0, .int .i64 (x.1.1 : Int)]

def rdTH (p : Bool) (k : Nat) (tot : Msg × RS) : RdT k tot → Hp
  | .inl x => [(0, .cells 37 (Msg.zero 0).cells), (1, .cells 129 [.isl p 1 encB x.1.2.2.1, .int .i64 (x.1.2.2.2 : Int)]), (2, .cells 37 (x.1.2.1.cellsIH .nils .nils))]
  | .inr (.inl x) => [(0, .cells 37 (Msg.zero 0).cells), (1, .cells 129 [.isl p 1 encB x.1.2.2.1, .int .i64 (x.1.2.2.2 : Int)]), (2, .cells 37 (x.1.2.1.cellsIH (.isl true 3 encItem x.1.2.1.items) .nils))]
  | .inr (.inr x) => [(0, .cells 37 (Msg.zero 0).cells), (1, .cells 129 [.isl p 1 encB x.1.2.2.1, .int .i64 (x.1.2.2.2 : Int)]), (2, .cells 37 x.1.2.1.cells)]

def rdTM (k : Nat) (tot : Msg × RS) : RdT k tot → Nat
  | .inl x => (rForm k).1.length - x.1.1
  | .inr (.inl x) => (rForm k).1.length - x.1.1
  | .inr (.inr x) => (rForm k).1.length - x.1.1


set_option maxHeartbeats 8000000 in
set_option maxRecDepth 8000 in
theorem dread_ob (p : Bool) (k : Nat) (bs : List UInt8) (hb : bs.length ≤ 2 ^ 40) (K : Post) (hK : K (.tup [.agg (mGet k bs).1.cells, .int .i64 ((mGet k bs).2 : Int)]) [] 0) : CallOb Tryz.prog 32 [.int .u8 (k : Int), .isl p 1 encB bs] [] 0 K := by
  refine contractC TryztabOk Tryz.checked.mixed Tryz.func32 rfl Tryz.call32 [] [] [.cell 4 37, .tmp 5] (resC2 Tryz.results32) Tryz.ntmps32 rfl ?_
  conv => whnf
  refine call_rule [] ?_
  conv => whnf
  refine rform_ob k _ ?_
  unfold mGet at hK
  rw [← (form_eq k).2, ← dRun_eq] at hK
  by_cases hok : (rForm k).2 = true
  case neg =>
    have hok' : (rForm k).2 = false := by simpa using hok
    rw [hok'] at hK ⊢
    rw [if_neg (by decide)] at hK
    conv => whnf
    refine ⟨_, _, _, ?_, leH_refl _, Nat.le_refl _, hK⟩
    exact ⟨zle0, ⟨rfl, rfl⟩, trivial⟩
  rw [hok] at hK ⊢
  rw [if_pos rfl] at hK
  have hfl := rForm_len k
  generalize ht : dRun (rForm k).1 (Msg.zero k, (bs, 0)) = tot at hK
  conv => whnf
  refine loop_rule TryztabOk Tryz.checked.mixed [4, 6, 8, 9, 10] [] [.fcz 2 23, .fcz 2 26, .fcz 2 27] (T := RdT k tot) (rdTI k tot) (rdTH p k tot) 3 (rdTM k tot) (.inl ⟨(0, Msg.zero k, (bs, 0)), by simp, by simp only; omega, by simpa using ht, rfl, rfl⟩) rfl rfl ?_ ?_
  · conv => whnf
    exact ⟨leTs_refl _, ⟨rfl, ⟨rfl, zle0⟩, rfl, leO_refl _, rfl, ⟨rfl, zleIH k⟩, trivial⟩, Nat.le_refl _⟩
  have fin : ∀ (m' : Msg) (s' : RS), (m', s') = tot → K (.tup [.agg (if mGetE (m', s') = 0 then m' else Msg.zero 0).cells, .int .i64 (mGetE (m', s') : Int)]) [] 0 := by
    intro m' s' h
    subst h
    by_cases h0 : mGetE (m', s') = 0
    · rw [if_pos h0] at hK ⊢
      rw [h0]
      exact hK
    · rw [if_neg h0] at hK ⊢
      exact hK
  rintro (⟨⟨i, m, s⟩, h1, h2, h3, hi, hh⟩ | ⟨⟨i, m, s⟩, h1, h2, h3⟩ | ⟨⟨i, m, s⟩, h1, h2, h3, h4⟩)
  · simp only at h1 h2 h3 hi hh
    conv => whnf
    refine br_dec (fun hlt => ?_) (fun hlt => ?_)
    rotate_left
    · have hlt : ¬ i < (rForm k).1.length := by simp only at hlt; omega
      rw [List.drop_of_length_le (by omega)] at h3
      have hfin := fin m s h3
      conv => whnf
      refine call_rule [] ?_
      conv => whnf
      refine dend_ob p s.1 s.2 _ ?_
      have he : (if 0 < s.1.length ∧ s.2 = 0 then 60 else s.2) = mGetE (m, s) := rfl
      simp only [he]
      conv => whnf
      refine br_intro (fun h0 => ?_) (fun h0 => ?_)
      · have h0 : ¬ mGetE (m, s) = 0 := by simp at h0; omega
        rw [if_neg h0] at hfin
        conv => whnf
        refine ⟨_, _, _, ?_, leH_refl _, Nat.le_refl _, hfin⟩
        exact ⟨zle0, ⟨rfl, rfl⟩, trivial⟩
      · have h0 : mGetE (m, s) = 0 := by simp at h0; omega
        rw [if_pos h0, h0] at hfin
        conv => whnf
        refine ⟨_, _, _, ?_, leH_refl _, Nat.le_refl _, hfin⟩
        exact ⟨m.cells_nn hi hh, ⟨rfl, rfl⟩, trivial⟩
    have hlt : i < (rForm k).1.length := by simp only at hlt; omega
    conv => whnf
    refine ⟨⟨by simp only; omega, by simp only; omega⟩, ?_⟩
    intro x hxi
    have hxi' : (rForm k).1[i]? = some x := by simpa using hxi
    have hrun : dRun ((rForm k).1.drop (i + 1)) (gField (nmCh x) s m) = tot := by
      rw [← h3, drop_at hxi']
      rfl
    have hgl0 := gField_len (nmCh x) s m
    have fA : ∀ (m' : Msg) (s' : RS) (cs : List V), gField (nmCh x) s m = (m', s') → leFs cs (m'.cellsIH .nils .nils) → m'.items = [] → m'.hits = [] →
        ∃ t' : RdT k tot, rdTM k tot t' < (rForm k).1.length - i ∧ leTs [.ptr 0 0, .isl true 1 encStr (rForm k).1, .ptr 1 0, .ptr 2 0, .int .i64 (IntKind.i64.wrap ((i : Int) + 1))] (rdTI k tot t') ∧
          leH [(0, .cells 37 (Msg.zero 0).cells), (1, .cells 129 [.isl p 1 encB s'.1, .int .i64 (s'.2 : Int)]), (2, .cells 37 cs)] (rdTH p k tot t') ∧ 3 ≤ 3 := by
      intro m' s' cs hg hc hi' hh'
      rw [hg] at hrun hgl0
      refine ⟨.inl ⟨(i + 1, m', s'), hlt, by simp only at hgl0 ⊢; omega, hrun, hi', hh'⟩, ?_, ⟨leT_refl _, leT_refl _, leT_refl _, leT_refl _, ⟨rfl, wrapI64' (m := i + 1) (by omega)⟩, trivial⟩, ⟨rfl, leO_refl _, rfl, leO_refl _, rfl, ⟨rfl, hc⟩, trivial⟩, Nat.le_refl _⟩
      show (rForm k).1.length - (i + 1) < (rForm k).1.length - i
      omega
    conv => whnf
    refine br_intro (fun g0 => ?_) (fun g0 => ?_)
    · have g0 : x = n_req := by simpa using g0
      subst g0
      conv => whnf
      have hm := rdNum_le 4294967295 s
      refine call_rule [] ?_
      conv => whnf
      refine dnum_ob p 4294967295 s h2 _ ?_
      conv => whnf
      exact fA { m with req := (rdNum 4294967295 s).1 } (rdNum 4294967295 s).2 _ rfl (by (repeat' first | exact trivial | exact leF_refl _ | exact ⟨rfl, wrapU32' (by omega)⟩ | exact ⟨rfl, wrapU16' (by omega)⟩ | exact ⟨rfl, wrapU8' (by omega)⟩ | exact (show _ = _ from by congr 1; apply propext; omega) | refine And.intro ?_ ?_)) hi hh
    have g0 : ¬ x = n_req := by simpa using g0
    conv => whnf
    refine br_intro (fun g1 => ?_) (fun g1 => ?_)
    · have g1 : x = n_caps := by simpa using g1
      subst g1
      conv => whnf
      have hm := rdNum_le 4294967295 s
      refine call_rule [] ?_
      conv => whnf
      refine dnum_ob p 4294967295 s h2 _ ?_
      conv => whnf
      exact fA { m with caps := (rdNum 4294967295 s).1 } (rdNum 4294967295 s).2 _ rfl (by (repeat' first | exact trivial | exact leF_refl _ | exact ⟨rfl, wrapU32' (by omega)⟩ | exact ⟨rfl, wrapU16' (by omega)⟩ | exact ⟨rfl, wrapU8' (by omega)⟩ | exact (show _ = _ from by congr 1; apply propext; omega) | refine And.intro ?_ ?_)) hi hh
    have g1 : ¬ x = n_caps := by simpa using g1
    conv => whnf
    refine br_intro (fun g2 => ?_) (fun g2 => ?_)
    · have g2 : x = n_token := by simpa using g2
      subst g2
      conv => whnf
      have hm := rdNum_le 18446744073709551615 s
      refine call_rule [] ?_
      conv => whnf
      refine dnum_ob p 18446744073709551615 s h2 _ ?_
      conv => whnf
      exact fA { m with token := (rdNum 18446744073709551615 s).1 } (rdNum 18446744073709551615 s).2 _ rfl (by (repeat' first | exact trivial | exact leF_refl _ | exact ⟨rfl, wrapU32' (by omega)⟩ | exact ⟨rfl, wrapU16' (by omega)⟩ | exact ⟨rfl, wrapU8' (by omega)⟩ | exact (show _ = _ from by congr 1; apply propext; omega) | refine And.intro ?_ ?_)) hi hh
    have g2 : ¬ x = n_token := by simpa using g2
    conv => whnf
    refine br_intro (fun g3 => ?_) (fun g3 => ?_)
    · have g3 : x = n_code := by simpa using g3
      subst g3
      conv => whnf
      have hm := rdNum_le 255 s
      refine call_rule [] ?_
      conv => whnf
      refine dnum_ob p 255 s h2 _ ?_
      conv => whnf
      exact fA { m with code := (rdNum 255 s).1 } (rdNum 255 s).2 _ rfl (by (repeat' first | exact trivial | exact leF_refl _ | exact ⟨rfl, wrapU32' (by omega)⟩ | exact ⟨rfl, wrapU16' (by omega)⟩ | exact ⟨rfl, wrapU8' (by omega)⟩ | exact (show _ = _ from by congr 1; apply propext; omega) | refine And.intro ?_ ?_)) hi hh
    have g3 : ¬ x = n_code := by simpa using g3
    conv => whnf
    refine br_intro (fun g4 => ?_) (fun g4 => ?_)
    · have g4 : x = n_n := by simpa using g4
      subst g4
      conv => whnf
      have hm := rdNum_le 4294967295 s
      refine call_rule [] ?_
      conv => whnf
      refine dnum_ob p 4294967295 s h2 _ ?_
      conv => whnf
      exact fA { m with n := (rdNum 4294967295 s).1 } (rdNum 4294967295 s).2 _ rfl (by (repeat' first | exact trivial | exact leF_refl _ | exact ⟨rfl, wrapU32' (by omega)⟩ | exact ⟨rfl, wrapU16' (by omega)⟩ | exact ⟨rfl, wrapU8' (by omega)⟩ | exact (show _ = _ from by congr 1; apply propext; omega) | refine And.intro ?_ ?_)) hi hh
    have g4 : ¬ x = n_n := by simpa using g4
    conv => whnf
    refine br_intro (fun g5 => ?_) (fun g5 => ?_)
    · have g5 : x = n_name := by simpa using g5
      subst g5
      conv => whnf
      refine call_rule [] ?_
      conv => whnf
      refine dtext_ob p s h2 _ ?_
      conv => whnf
      exact fA { m with name := (rdCut s).1 } (rdCut s).2 _ rfl (by (repeat' first | exact trivial | exact leF_refl _ | exact ⟨rfl, wrapU32' (by omega)⟩ | exact ⟨rfl, wrapU16' (by omega)⟩ | exact ⟨rfl, wrapU8' (by omega)⟩ | exact (show _ = _ from by congr 1; apply propext; omega) | refine And.intro ?_ ?_)) hi hh
    have g5 : ¬ x = n_name := by simpa using g5
    conv => whnf
    refine br_intro (fun g6 => ?_) (fun g6 => ?_)
    · have g6 : x = n_conf := by simpa using g6
      subst g6
      conv => whnf
      refine call_rule [] ?_
      conv => whnf
      refine dtext_ob p s h2 _ ?_
      have b0 := rdCut_len s
      generalize c0 : rdCut s = r at b0
      obtain ⟨x0, s0⟩ := r
      simp only at b0
      conv => whnf
      refine call_rule [] ?_
      conv => whnf
      refine dnum_ob p 255 s0 (by omega) _ ?_
      have b1 := rdNum_len 255 s0
      have l1 := rdNum_le 255 s0
      generalize c1 : rdNum 255 s0 = r at b1 l1
      obtain ⟨x1, s1⟩ := r
      simp only at b1 l1
      conv => whnf
      refine call_rule [] ?_
      conv => whnf
      refine dnum_ob p 1 s1 (by omega) _ ?_
      have b2 := rdNum_len 1 s1
      have l2 := rdNum_le 1 s1
      generalize c2 : rdNum 1 s1 = r at b2 l2
      obtain ⟨x2, s2⟩ := r
      simp only at b2 l2
      conv => whnf
      refine call_rule [] ?_
      conv => whnf
      refine dnum_ob p 1 s2 (by omega) _ ?_
      have b3 := rdNum_len 1 s2
      have l3 := rdNum_le 1 s2
      generalize c3 : rdNum 1 s2 = r at b3 l3
      obtain ⟨x3, s3⟩ := r
      simp only at b3 l3
      conv => whnf
      refine call_rule [] ?_
      conv => whnf
      refine dnum_ob p 255 s3 (by omega) _ ?_
      have b4 := rdNum_len 255 s3
      have l4 := rdNum_le 255 s3
      generalize c4 : rdNum 255 s3 = r at b4 l4
      obtain ⟨x4, s4⟩ := r
      simp only at b4 l4
      conv => whnf
      refine call_rule [] ?_
      conv => whnf
      refine dnum_ob p 65535 s4 (by omega) _ ?_
      have b5 := rdNum_len 65535 s4
      have l5 := rdNum_le 65535 s4
      generalize c5 : rdNum 65535 s4 = r at b5 l5
      obtain ⟨x5, s5⟩ := r
      simp only at b5 l5
      conv => whnf
      have hc : rdConf s = (⟨x0, x1, x2, decide (x3 = 1), x4, x5⟩, s5) := by simp only [rdConf, c0, c1, c2, c3, c4, c5]
      exact fA { m with conf := ⟨x0, x1, x2, decide (x3 = 1), x4, x5⟩ } s5 _ (by show ({ m with conf := (rdConf s).1 }, (rdConf s).2) = _; rw [hc]) (by (repeat' first | exact trivial | exact leF_refl _ | exact ⟨rfl, wrapU32' (by omega)⟩ | exact ⟨rfl, wrapU16' (by omega)⟩ | exact ⟨rfl, wrapU8' (by omega)⟩ | exact (show _ = _ from by congr 1; apply propext; omega) | refine And.intro ?_ ?_)) hi hh
    have g6 : ¬ x = n_conf := by simpa using g6
    conv => whnf
    refine br_intro (fun g7 => ?_) (fun g7 => ?_)
    · have g7 : x = n_changes := by simpa using g7
      subst g7
      conv => whnf
      refine call_rule [] ?_
      conv => whnf
      refine dchanges_ob p s h2 _ ?_
      conv => whnf
      exact fA { m with changes := (rdList rdChg s).1 } (rdList rdChg s).2 _ rfl (by (repeat' first | exact trivial | exact leF_refl _ | exact ⟨rfl, wrapU32' (by omega)⟩ | exact ⟨rfl, wrapU16' (by omega)⟩ | exact ⟨rfl, wrapU8' (by omega)⟩ | exact (show _ = _ from by congr 1; apply propext; omega) | refine And.intro ?_ ?_)) hi hh
    have g7 : ¬ x = n_changes := by simpa using g7
    conv => whnf
    refine br_intro (fun g8 => ?_) (fun g8 => ?_)
    · have g8 : x = n_id := by simpa using g8
      subst g8
      conv => whnf
      have hm := rdNum_le 4294967295 s
      refine call_rule [] ?_
      conv => whnf
      refine dnum_ob p 4294967295 s h2 _ ?_
      conv => whnf
      exact fA { m with id := (rdNum 4294967295 s).1 } (rdNum 4294967295 s).2 _ rfl (by (repeat' first | exact trivial | exact leF_refl _ | exact ⟨rfl, wrapU32' (by omega)⟩ | exact ⟨rfl, wrapU16' (by omega)⟩ | exact ⟨rfl, wrapU8' (by omega)⟩ | exact (show _ = _ from by congr 1; apply propext; omega) | refine And.intro ?_ ?_)) hi hh
    have g8 : ¬ x = n_id := by simpa using g8
    conv => whnf
    refine br_intro (fun g9 => ?_) (fun g9 => ?_)
    · have g9 : x = n_vec := by simpa using g9
      subst g9
      conv => whnf
      refine call_rule [] ?_
      conv => whnf
      refine dvec_ob p s h2 _ ?_
      conv => whnf
      exact fA { m with vec := (rdList rdI32 s).1 } (rdList rdI32 s).2 _ rfl (by (repeat' first | exact trivial | exact leF_refl _ | exact ⟨rfl, wrapU32' (by omega)⟩ | exact ⟨rfl, wrapU16' (by omega)⟩ | exact ⟨rfl, wrapU8' (by omega)⟩ | exact (show _ = _ from by congr 1; apply propext; omega) | refine And.intro ?_ ?_)) hi hh
    have g9 : ¬ x = n_vec := by simpa using g9
    conv => whnf
    refine br_intro (fun g10 => ?_) (fun g10 => ?_)
    · have g10 : x = n_k := by simpa using g10
      subst g10
      conv => whnf
      have hm := rdNum_le 65535 s
      refine call_rule [] ?_
      conv => whnf
      refine dnum_ob p 65535 s h2 _ ?_
      conv => whnf
      exact fA { m with k := (rdNum 65535 s).1 } (rdNum 65535 s).2 _ rfl (by (repeat' first | exact trivial | exact leF_refl _ | exact ⟨rfl, wrapU32' (by omega)⟩ | exact ⟨rfl, wrapU16' (by omega)⟩ | exact ⟨rfl, wrapU8' (by omega)⟩ | exact (show _ = _ from by congr 1; apply propext; omega) | refine And.intro ?_ ?_)) hi hh
    have g10 : ¬ x = n_k := by simpa using g10
    conv => whnf
    refine br_intro (fun g11 => ?_) (fun g11 => ?_)
    · have g11 : x = n_width := by simpa using g11
      subst g11
      conv => whnf
      have hm := rdNum_le 65535 s
      refine call_rule [] ?_
      conv => whnf
      refine dnum_ob p 65535 s h2 _ ?_
      conv => whnf
      exact fA { m with width := (rdNum 65535 s).1 } (rdNum 65535 s).2 _ rfl (by (repeat' first | exact trivial | exact leF_refl _ | exact ⟨rfl, wrapU32' (by omega)⟩ | exact ⟨rfl, wrapU16' (by omega)⟩ | exact ⟨rfl, wrapU8' (by omega)⟩ | exact (show _ = _ from by congr 1; apply propext; omega) | refine And.intro ?_ ?_)) hi hh
    have g11 : ¬ x = n_width := by simpa using g11
    conv => whnf
    refine br_intro (fun g12 => ?_) (fun g12 => ?_)
    · have g12 : x = n_filter := by simpa using g12
      subst g12
      conv => whnf
      refine call_rule [] ?_
      conv => whnf
      refine dtexts_ob p s (by first | omega | exact Nat.le_trans (rdList_len rdCut_len _) (by omega) | exact Nat.le_trans (rdList_len rdCut_len _) (Nat.le_trans (rdList_len rdCut_len _) (by omega))) _ ?_
      conv => whnf
      refine call_rule [] ?_
      conv => whnf
      refine dtexts_ob p _ (by first | omega | exact Nat.le_trans (rdList_len rdCut_len _) (by omega) | exact Nat.le_trans (rdList_len rdCut_len _) (Nat.le_trans (rdList_len rdCut_len _) (by omega))) _ ?_
      conv => whnf
      refine call_rule [] ?_
      conv => whnf
      refine dtexts_ob p _ (by first | omega | exact Nat.le_trans (rdList_len rdCut_len _) (by omega) | exact Nat.le_trans (rdList_len rdCut_len _) (Nat.le_trans (rdList_len rdCut_len _) (by omega))) _ ?_
      conv => whnf
      exact fA { m with fall := (rdList rdCut s).1, fany := (rdList rdCut (rdList rdCut s).2).1, fnone := (rdList rdCut (rdList rdCut (rdList rdCut s).2).2).1 } (rdList rdCut (rdList rdCut (rdList rdCut s).2).2).2 _ rfl (by (repeat' first | exact trivial | exact leF_refl _ | exact ⟨rfl, wrapU32' (by omega)⟩ | exact ⟨rfl, wrapU16' (by omega)⟩ | exact ⟨rfl, wrapU8' (by omega)⟩ | exact (show _ = _ from by congr 1; apply propext; omega) | refine And.intro ?_ ?_)) hi hh
    have g12 : ¬ x = n_filter := by simpa using g12
    conv => whnf
    refine br_intro (fun g13 => ?_) (fun g13 => ?_)
    · have g13 : x = n_num := by simpa using g13
      subst g13
      conv => whnf
      have hm := rdNum_le 4294967295 s
      refine call_rule [] ?_
      conv => whnf
      refine dnum_ob p 4294967295 s h2 _ ?_
      conv => whnf
      exact fA { m with num := (rdNum 4294967295 s).1 } (rdNum 4294967295 s).2 _ rfl (by (repeat' first | exact trivial | exact leF_refl _ | exact ⟨rfl, wrapU32' (by omega)⟩ | exact ⟨rfl, wrapU16' (by omega)⟩ | exact ⟨rfl, wrapU8' (by omega)⟩ | exact (show _ = _ from by congr 1; apply propext; omega) | refine And.intro ?_ ?_)) hi hh
    have g13 : ¬ x = n_num := by simpa using g13
    conv => whnf
    refine br_intro (fun g14 => ?_) (fun g14 => ?_)
    · have g14 : x = n_page := by simpa using g14
      subst g14
      conv => whnf
      have hm := rdNum_le 4294967295 s
      refine call_rule [] ?_
      conv => whnf
      refine dnum_ob p 4294967295 s h2 _ ?_
      conv => whnf
      exact fA { m with page := (rdNum 4294967295 s).1 } (rdNum 4294967295 s).2 _ rfl (by (repeat' first | exact trivial | exact leF_refl _ | exact ⟨rfl, wrapU32' (by omega)⟩ | exact ⟨rfl, wrapU16' (by omega)⟩ | exact ⟨rfl, wrapU8' (by omega)⟩ | exact (show _ = _ from by congr 1; apply propext; omega) | refine And.intro ?_ ?_)) hi hh
    have g14 : ¬ x = n_page := by simpa using g14
    conv => whnf
    refine br_intro (fun g15 => ?_) (fun g15 => ?_)
    · have g15 : x = n_bytes := by simpa using g15
      subst g15
      conv => whnf
      refine call_rule [] ?_
      conv => whnf
      refine dtext_ob p s h2 _ ?_
      conv => whnf
      exact fA { m with bytes := (rdCut s).1 } (rdCut s).2 _ rfl (by (repeat' first | exact trivial | exact leF_refl _ | exact ⟨rfl, wrapU32' (by omega)⟩ | exact ⟨rfl, wrapU16' (by omega)⟩ | exact ⟨rfl, wrapU8' (by omega)⟩ | exact (show _ = _ from by congr 1; apply propext; omega) | refine And.intro ?_ ?_)) hi hh
    have g15 : ¬ x = n_bytes := by simpa using g15
    conv => whnf
    refine br_intro (fun g16 => ?_) (fun g16 => ?_)
    · have g16 : x = n_version := by simpa using g16
      subst g16
      conv => whnf
      have hm := rdNum_le 18446744073709551615 s
      refine call_rule [] ?_
      conv => whnf
      refine dnum_ob p 18446744073709551615 s h2 _ ?_
      conv => whnf
      exact fA { m with version := (rdNum 18446744073709551615 s).1 } (rdNum 18446744073709551615 s).2 _ rfl (by (repeat' first | exact trivial | exact leF_refl _ | exact ⟨rfl, wrapU32' (by omega)⟩ | exact ⟨rfl, wrapU16' (by omega)⟩ | exact ⟨rfl, wrapU8' (by omega)⟩ | exact (show _ = _ from by congr 1; apply propext; omega) | refine And.intro ?_ ?_)) hi hh
    have g16 : ¬ x = n_version := by simpa using g16
    conv => whnf
    refine br_intro (fun g17 => ?_) (fun g17 => ?_)
    · have g17 : x = n_names := by simpa using g17
      subst g17
      conv => whnf
      refine call_rule [] ?_
      conv => whnf
      refine dtexts_ob p s h2 _ ?_
      conv => whnf
      exact fA { m with names := (rdList rdCut s).1 } (rdList rdCut s).2 _ rfl (by (repeat' first | exact trivial | exact leF_refl _ | exact ⟨rfl, wrapU32' (by omega)⟩ | exact ⟨rfl, wrapU16' (by omega)⟩ | exact ⟨rfl, wrapU8' (by omega)⟩ | exact (show _ = _ from by congr 1; apply propext; omega) | refine And.intro ?_ ?_)) hi hh
    have g17 : ¬ x = n_names := by simpa using g17
    conv => whnf
    refine br_intro (fun g18 => ?_) (fun g18 => ?_)
    · have g18 : x = n_items := by simpa using g18
      subst g18
      conv => whnf
      have hrest := (form_rest k i).1 hxi'
      refine call_rule [] ?_
      conv => whnf
      refine dnum_ob p 128 s h2 _ ?_
      have hg : gField (nmCh n_items) s m = ({ m with items := (rdList rdItem s).1 }, (rdList rdItem s).2) := rfl
      have hgl := gField_len (nmCh n_items) s m
      rw [hg] at hrun hgl
      unfold rdList at hrun hgl
      have hnl := rdNum_len 128 s
      have hnm := rdNum_le 128 s
      generalize rdNum 128 s = g at hrun hgl hnl hnm
      obtain ⟨n0, s0⟩ := g
      simp only at hrun hgl hnl hnm
      have hw0 : IntKind.i64.wrap (n0 : Int) = (n0 : Int) := wrapI64' (by omega)
      generalize ht : rdRep rdItem n0 s0 = tt at hrun hgl
      obtain ⟨tl, tb, tw⟩ := tt
      simp only at hrun hgl
      conv => whnf
      refine loop_rule TryztabOk Tryz.checked.mixed [4, 6, 8, 9, 10, 11, 12] [] [.cell 2 26 64 3 encItem] (T := { x : Nat × Nat × List Item × RS // x.1 + x.2.1 = n0 ∧ x.2.2.1.length + x.2.1 ≤ 128 ∧ x.2.2.2.1.length ≤ 2 ^ 40 ∧ x.2.2.1 ++ (rdRep rdItem x.2.1 x.2.2.2).1 = tl ∧ (rdRep rdItem x.2.1 x.2.2.2).2 = (tb, tw) })
        (fun x => [.ptr 0 0, .isl true 1 encStr (rForm k).1, .ptr 1 0, .ptr 2 0, .int .i64 (i : Int), .int .i64 (n0 : Int), .int .i64 (x.1.1 : Int)])
        (fun x => [(0, .cells 37 (Msg.zero 0).cells), (1, .cells 129 [.isl p 1 encB x.1.2.2.2.1, .int .i64 (x.1.2.2.2.2 : Int)]), (2, .cells 37 (m.cellsIH (.vec 3) .nils)), (3, .row 64 3 encItem x.1.2.2.1)]) 4 (fun x => x.1.2.1) ⟨(0, n0, [], s0), by simp, by simp; omega, by simp only; omega, by simp [ht], by simp only [ht]⟩ rfl rfl ?_ ?_
      · conv => whnf
        exact ⟨⟨leT_refl _, leT_refl _, leT_refl _, leT_refl _, leT_refl _, ⟨rfl, hw0⟩, leT_refl _, trivial⟩, leH_refl _, Nat.le_refl _⟩
      · rintro ⟨⟨j, n, l, bs', why⟩, q0, q1, q2, q3, q4⟩
        simp only at q0 q1 q2 q3 q4
        conv => whnf
        refine br_intro (fun h => ?_) (fun h => ?_)
        · have h' : 0 < n ∧ why = 0 := by
            revert h
            simp only
            by_cases a : (j : Int) < (n0 : Int) <;> by_cases b : why = 0 <;> simp [a, b] <;> omega
          rw [rdRep_s _ _ _ (by simpa using h')] at q3 q4
          simp only at q3 q4
          have hol := rdItem_len (bs', why)
          conv => whnf
          generalize hy : rdItem (bs', why) = r at q3 q4 hol
          obtain ⟨y, s'⟩ := r
          simp only at q3 q4 hol
          repeat' first
            | (refine call_rule [] ?_
               conv => whnf
               refine ditem_ob p (bs', why) (by simp only; omega) _ ?_
               rw [hy]
               conv => whnf)
            | (refine ⟨Item, encItem, [y], rfl, build1 y rfl rfl rfl rfl rfl, ?_⟩; conv => whnf)
            | (refine ⟨[y], rfl, (by show (l.length + 1) * 56 ≤ _; omega), ?_⟩; conv => whnf)
            | (refine ⟨?_, trivial⟩; conv => whnf)
            | (refine ⟨?_, ?_, trivial⟩ <;> conv => whnf)
            | fail
          all_goals
            refine ⟨⟨(j + 1, n - 1, l ++ [y], s'), by simp only; omega, by simp; omega, by simp only; omega, by simp; exact q3, q4⟩, ?_, ⟨leT_refl _, leT_refl _, leT_refl _, leT_refl _, leT_refl _, leT_refl _, ⟨rfl, wrapSucc j n (by omega)⟩, trivial⟩, leH_refl _, Nat.le_refl _⟩
            show n - 1 < n
            omega
        · have h' : ¬ (0 < n ∧ why = 0) := by
            revert h
            simp only
            by_cases a : (j : Int) < (n0 : Int) <;> by_cases b : why = 0 <;> simp [a, b] <;> omega
          rw [rdRep_n _ _ _ (by simpa using h')] at q3 q4
          simp only [List.append_nil] at q3 q4
          subst q3
          cases q4
          conv => whnf
          refine ⟨.inr (.inl ⟨(i + 1, { m with items := l }, (tb, tw)), hrest, by simp only; omega, by rw [← hrest]; exact hrun⟩), ?_, ⟨leT_refl _, leT_refl _, leT_refl _, leT_refl _, ⟨rfl, wrapI64' (m := i + 1) (by omega)⟩, trivial⟩, leH_refl _, Nat.le_refl _⟩
          show (rForm k).1.length - (i + 1) < (rForm k).1.length - i
          omega
    have g18 : ¬ x = n_items := by simpa using g18
    conv => whnf
    refine br_intro (fun g19 => ?_) (fun g19 => ?_)
    · have g19 : x = n_hits := by simpa using g19
      subst g19
      conv => whnf
      have hrest := (form_rest k i).2 hxi'
      have hcn : ∀ l, leFs (m.cellsIH .nils (.isl true 2 encHit l)) ({ m with hits := l } : Msg).cells := by
        intro l
        unfold Msg.cellsIH Msg.cells
        rw [hi]
        repeat' first
          | exact trivial
          | exact leF_refl _
          | exact rfl
          | refine And.intro ?_ ?_
      refine call_rule [] ?_
      conv => whnf
      refine dnum_ob p 128 s h2 _ ?_
      have hg : gField (nmCh n_hits) s m = ({ m with hits := (rdList rdHit s).1 }, (rdList rdHit s).2) := rfl
      have hgl := gField_len (nmCh n_hits) s m
      rw [hg] at hrun hgl
      unfold rdList at hrun hgl
      have hnl := rdNum_len 128 s
      have hnm := rdNum_le 128 s
      generalize rdNum 128 s = g at hrun hgl hnl hnm
      obtain ⟨n0, s0⟩ := g
      simp only at hrun hgl hnl hnm
      have hw0 : IntKind.i64.wrap (n0 : Int) = (n0 : Int) := wrapI64' (by omega)
      generalize ht : rdRep rdHit n0 s0 = tt at hrun hgl
      obtain ⟨tl, tb, tw⟩ := tt
      simp only at hrun hgl
      conv => whnf
      refine loop_rule TryztabOk Tryz.checked.mixed [4, 6, 8, 9, 10, 13, 14] [] [.cell 2 27 138 2 encHit] (T := { x : Nat × Nat × List Hit × RS // x.1 + x.2.1 = n0 ∧ x.2.2.1.length + x.2.1 ≤ 128 ∧ x.2.2.2.1.length ≤ 2 ^ 40 ∧ x.2.2.1 ++ (rdRep rdHit x.2.1 x.2.2.2).1 = tl ∧ (rdRep rdHit x.2.1 x.2.2.2).2 = (tb, tw) })
        (fun x => [.ptr 0 0, .isl true 1 encStr (rForm k).1, .ptr 1 0, .ptr 2 0, .int .i64 (i : Int), .int .i64 (n0 : Int), .int .i64 (x.1.1 : Int)])
        (fun x => [(0, .cells 37 (Msg.zero 0).cells), (1, .cells 129 [.isl p 1 encB x.1.2.2.2.1, .int .i64 (x.1.2.2.2.2 : Int)]), (2, .cells 37 (m.cellsIH .nils (.vec 3))), (3, .row 138 2 encHit x.1.2.2.1)]) 4 (fun x => x.1.2.1) ⟨(0, n0, [], s0), by simp, by simp; omega, by simp only; omega, by simp [ht], by simp only [ht]⟩ rfl rfl ?_ ?_
      · conv => whnf
        exact ⟨⟨leT_refl _, leT_refl _, leT_refl _, leT_refl _, leT_refl _, ⟨rfl, hw0⟩, leT_refl _, trivial⟩, leH_refl _, Nat.le_refl _⟩
      · rintro ⟨⟨j, n, l, bs', why⟩, q0, q1, q2, q3, q4⟩
        simp only at q0 q1 q2 q3 q4
        conv => whnf
        refine br_intro (fun h => ?_) (fun h => ?_)
        · have h' : 0 < n ∧ why = 0 := by
            revert h
            simp only
            by_cases a : (j : Int) < (n0 : Int) <;> by_cases b : why = 0 <;> simp [a, b] <;> omega
          rw [rdRep_s _ _ _ (by simpa using h')] at q3 q4
          simp only at q3 q4
          have hol := rdHit_len (bs', why)
          conv => whnf
          refine call_rule [] ?_
          conv => whnf
          refine dwhole_ob p (-9223372036854775808) 9223372036854775807 (bs', why) (by simp only; omega) _ ?_
          unfold rdHit at q3 q4 hol
          have hol2 := rdWhole_len (-9223372036854775808) 9223372036854775807 (bs', why)
          generalize rdWhole (-9223372036854775808) 9223372036854775807 (bs', why) = r at q3 q4 hol hol2
          obtain ⟨d, s1⟩ := r
          simp only at q3 q4 hol hol2
          conv => whnf
          refine call_rule [] ?_
          conv => whnf
          refine dnum_ob p 4294967295 s1 (by omega) _ ?_
          have hm2 := rdNum_le 4294967295 s1
          generalize rdNum 4294967295 s1 = r at q3 q4 hol hm2
          obtain ⟨e, s'⟩ := r
          simp only at q3 q4 hol hm2
          generalize hy : (⟨d, e⟩ : Hit) = y at q3
          conv => whnf
          refine ⟨Hit, encHit, [y], rfl, build1_le y rfl rfl rfl rfl (by subst hy; exact ⟨leF_refl _, ⟨rfl, wrapU32' (by omega)⟩, trivial⟩), ?_⟩
          conv => whnf
          refine ⟨[y], rfl, (by show (l.length + 1) * 16 ≤ _; omega), ?_⟩
          conv => whnf
          refine ⟨⟨(j + 1, n - 1, l ++ [y], s'), by simp only; omega, by simp; omega, by simp only; omega, by simp; exact q3, q4⟩, ?_, ⟨leT_refl _, leT_refl _, leT_refl _, leT_refl _, leT_refl _, leT_refl _, ⟨rfl, wrapSucc j n (by omega)⟩, trivial⟩, leH_refl _, Nat.le_refl _⟩
          show n - 1 < n
          omega
        · have h' : ¬ (0 < n ∧ why = 0) := by
            revert h
            simp only
            by_cases a : (j : Int) < (n0 : Int) <;> by_cases b : why = 0 <;> simp [a, b] <;> omega
          rw [rdRep_n _ _ _ (by simpa using h')] at q3 q4
          simp only [List.append_nil] at q3 q4
          subst q3
          cases q4
          conv => whnf
          refine ⟨.inr (.inr ⟨(i + 1, { m with hits := l }, (tb, tw)), hrest, by simp only; omega, by rw [hrest] at hrun; exact hrun, by simp only; omega⟩), ?_, ⟨leT_refl _, leT_refl _, leT_refl _, leT_refl _, ⟨rfl, wrapI64' (m := i + 1) (by omega)⟩, trivial⟩, ⟨rfl, leO_refl _, rfl, leO_refl _, rfl, ⟨rfl, hcn l⟩, trivial⟩, Nat.le_refl _⟩
          show (rForm k).1.length - (i + 1) < (rForm k).1.length - i
          omega
    have g19 : ¬ x = n_hits := by simpa using g19
    conv => whnf
    exact fA m s _ (by unfold nmCh; rw [if_neg g0, if_neg g1, if_neg g2, if_neg g3, if_neg g4, if_neg g5, if_neg g6, if_neg g7, if_neg g8, if_neg g9, if_neg g10, if_neg g11, if_neg g12, if_neg g13, if_neg g14, if_neg g15, if_neg g16, if_neg g17, if_neg g18, if_neg g19]; rfl) (leFs_refl _) hi hh
  · simp only at h1 h2 h3
    have hlt : i < (rForm k).1.length := by
      have := congrArg List.length h1
      simp at this
      omega
    have hxi' : (rForm k).1[i]? = some n_hits := by
      have := congrArg (fun l => l[0]?) h1
      simpa using this
    have hrest := (form_rest k i).2 hxi'
    have hrun : dRun ((rForm k).1.drop (i + 1)) (gField (nmCh n_hits) s m) = tot := by
      rw [hrest, ← h3]
      rfl
    conv => whnf
    refine br_dec (fun hlt' => ?_) (fun hlt' => ?_)
    rotate_left
    · simp only at hlt'; omega
    conv => whnf
    refine ⟨⟨by simp only; omega, by simp only; omega⟩, ?_⟩
    intro x hxi
    have hxi2 : (rForm k).1[i]? = some x := by simpa using hxi
    rw [hxi'] at hxi2
    cases hxi2
    conv => whnf
    refine call_rule [] ?_
    conv => whnf
    refine dnum_ob p 128 s h2 _ ?_
    have hg : gField (nmCh n_hits) s m = ({ m with hits := (rdList rdHit s).1 }, (rdList rdHit s).2) := rfl
    have hgl := gField_len (nmCh n_hits) s m
    rw [hg] at hrun hgl
    unfold rdList at hrun hgl
    have hnl := rdNum_len 128 s
    have hnm := rdNum_le 128 s
    generalize rdNum 128 s = g at hrun hgl hnl hnm
    obtain ⟨n0, s0⟩ := g
    simp only at hrun hgl hnl hnm
    have hw0 : IntKind.i64.wrap (n0 : Int) = (n0 : Int) := wrapI64' (by omega)
    generalize ht : rdRep rdHit n0 s0 = tt at hrun hgl
    obtain ⟨tl, tb, tw⟩ := tt
    simp only at hrun hgl
    conv => whnf
    refine loop_rule TryztabOk Tryz.checked.mixed [4, 6, 8, 9, 10, 13, 14] [] [.cell 2 27 138 2 encHit] (T := { x : Nat × Nat × List Hit × RS // x.1 + x.2.1 = n0 ∧ x.2.2.1.length + x.2.1 ≤ 128 ∧ x.2.2.2.1.length ≤ 2 ^ 40 ∧ x.2.2.1 ++ (rdRep rdHit x.2.1 x.2.2.2).1 = tl ∧ (rdRep rdHit x.2.1 x.2.2.2).2 = (tb, tw) })
      (fun x => [.ptr 0 0, .isl true 1 encStr (rForm k).1, .ptr 1 0, .ptr 2 0, .int .i64 (i : Int), .int .i64 (n0 : Int), .int .i64 (x.1.1 : Int)])
      (fun x => [(0, .cells 37 (Msg.zero 0).cells), (1, .cells 129 [.isl p 1 encB x.1.2.2.2.1, .int .i64 (x.1.2.2.2.2 : Int)]), (2, .cells 37 (m.cellsIH (.isl true 3 encItem m.items) (.vec 3))), (3, .row 138 2 encHit x.1.2.2.1)]) 4 (fun x => x.1.2.1) ⟨(0, n0, [], s0), by simp, by simp; omega, by simp only; omega, by simp [ht], by simp only [ht]⟩ rfl rfl ?_ ?_
    · conv => whnf
      exact ⟨⟨leT_refl _, leT_refl _, leT_refl _, leT_refl _, leT_refl _, ⟨rfl, hw0⟩, leT_refl _, trivial⟩, leH_refl _, Nat.le_refl _⟩
    · rintro ⟨⟨j, n, l, bs', why⟩, q0, q1, q2, q3, q4⟩
      simp only at q0 q1 q2 q3 q4
      conv => whnf
      refine br_intro (fun h => ?_) (fun h => ?_)
      · have h' : 0 < n ∧ why = 0 := by
          revert h
          simp only
          by_cases a : (j : Int) < (n0 : Int) <;> by_cases b : why = 0 <;> simp [a, b] <;> omega
        rw [rdRep_s _ _ _ (by simpa using h')] at q3 q4
        simp only at q3 q4
        have hol := rdHit_len (bs', why)
        conv => whnf
        refine call_rule [] ?_
        conv => whnf
        refine dwhole_ob p (-9223372036854775808) 9223372036854775807 (bs', why) (by simp only; omega) _ ?_
        unfold rdHit at q3 q4 hol
        have hol2 := rdWhole_len (-9223372036854775808) 9223372036854775807 (bs', why)
        generalize rdWhole (-9223372036854775808) 9223372036854775807 (bs', why) = r at q3 q4 hol hol2
        obtain ⟨d, s1⟩ := r
        simp only at q3 q4 hol hol2
        conv => whnf
        refine call_rule [] ?_
        conv => whnf
        refine dnum_ob p 4294967295 s1 (by omega) _ ?_
        have hm2 := rdNum_le 4294967295 s1
        generalize rdNum 4294967295 s1 = r at q3 q4 hol hm2
        obtain ⟨e, s'⟩ := r
        simp only at q3 q4 hol hm2
        generalize hy : (⟨d, e⟩ : Hit) = y at q3
        conv => whnf
        refine ⟨Hit, encHit, [y], rfl, build1_le y rfl rfl rfl rfl (by subst hy; exact ⟨leF_refl _, ⟨rfl, wrapU32' (by omega)⟩, trivial⟩), ?_⟩
        conv => whnf
        refine ⟨[y], rfl, (by show (l.length + 1) * 16 ≤ _; omega), ?_⟩
        conv => whnf
        refine ⟨⟨(j + 1, n - 1, l ++ [y], s'), by simp only; omega, by simp; omega, by simp only; omega, by simp; exact q3, q4⟩, ?_, ⟨leT_refl _, leT_refl _, leT_refl _, leT_refl _, leT_refl _, leT_refl _, ⟨rfl, wrapSucc j n (by omega)⟩, trivial⟩, leH_refl _, Nat.le_refl _⟩
        show n - 1 < n
        omega
      · have h' : ¬ (0 < n ∧ why = 0) := by
          revert h
          simp only
          by_cases a : (j : Int) < (n0 : Int) <;> by_cases b : why = 0 <;> simp [a, b] <;> omega
        rw [rdRep_n _ _ _ (by simpa using h')] at q3 q4
        simp only [List.append_nil] at q3 q4
        subst q3
        cases q4
        conv => whnf
        refine ⟨.inr (.inr ⟨(i + 1, { m with hits := l }, (tb, tw)), hrest, by simp only; omega, by rw [hrest] at hrun; exact hrun, by simp only; omega⟩), ?_, ⟨leT_refl _, leT_refl _, leT_refl _, leT_refl _, ⟨rfl, wrapI64' (m := i + 1) (by omega)⟩, trivial⟩, leH_refl _, Nat.le_refl _⟩
        show (rForm k).1.length - (i + 1) < (rForm k).1.length - i
        omega
  · simp only at h1 h2 h3 h4
    have hlt : ¬ i < (rForm k).1.length := by
      have := congrArg List.length h1
      simp at this
      omega
    have hfin := fin m s h3
    conv => whnf
    refine br_dec (fun hlt' => ?_) (fun hlt' => ?_)
    · simp only at hlt'; omega
    conv => whnf
    refine call_rule [] ?_
    conv => whnf
    refine dend_ob p s.1 s.2 _ ?_
    have he : (if 0 < s.1.length ∧ s.2 = 0 then 60 else s.2) = mGetE (m, s) := rfl
    simp only [he]
    conv => whnf
    refine br_intro (fun h0 => ?_) (fun h0 => ?_)
    · have h0 : ¬ mGetE (m, s) = 0 := by simp at h0; omega
      rw [if_neg h0] at hfin
      conv => whnf
      refine ⟨_, _, _, ?_, leH_refl _, Nat.le_refl _, hfin⟩
      exact ⟨zle0, ⟨rfl, rfl⟩, trivial⟩
    · have h0 : mGetE (m, s) = 0 := by simp at h0; omega
      rw [if_pos h0, h0] at hfin
      conv => whnf
      exact ⟨_, _, _, leT_refl _, leH_refl _, Nat.le_refl _, hfin⟩

end Go.Sx
end

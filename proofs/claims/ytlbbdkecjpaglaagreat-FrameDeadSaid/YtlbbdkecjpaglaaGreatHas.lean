/- lodestarref06.Bytes: the document's reader (printed by gendoc.py); no condition. -/
import Derived.Test.YtlbbdkecjpaglaaGreatHar

set_option linter.all false

section
open Go.Proofs
namespace Go.Sx
set_option linter.unusedVariables false

/-- the document's reader: its bytes, its error -/
abbrev drH (p : Bool) (bs : List UInt8) (why : Nat) : Hp := [(0, .cells 129 [.isl p 1 encB bs, .int .i64 (why : Int)])]

theorem dnum_ob (p : Bool) (most : Nat) (s : RS) (hb : s.1.length ≤ 2 ^ 40) (K : Post) (hK : K (.int .u64 ((rdNum most s).1 : Int)) (drH p (rdNum most s).2.1 (rdNum most s).2.2) 1) :
    CallOb Tryz.prog 56 [.ptr 0 0, .int .u64 (most : Int)] (drH p s.1 s.2) 1 K := by
  refine contract TryztabOk Tryz.checked.mixed Tryz.func56 rfl Tryz.call56 [0] [] [4] (res1 Tryz.results56) Tryz.ntmps56 rfl ?_
  obtain ⟨bs, why⟩ := s
  simp only at hb
  unfold rdNum at hK
  simp only at hK
  conv => whnf
  refine br_intro (fun h => ?_) (fun h => ?_)
  · have h : ¬ why = 0 := by simp at h; omega
    simp only [if_neg h] at hK
    conv => whnf
    exact ⟨_, _, _, leT_refl _, leH_refl _, Nat.le_refl _, hK⟩
  · have h : why = 0 := by simp at h; omega
    simp only [if_pos h] at hK
    subst h
    have hv := vget_lt bs
    conv => whnf
    refine call_rule [] ?_
    conv => whnf
    refine dget_ob p bs hb _ ?_
    generalize vget bs = g at hK hv
    obtain ⟨n, used, e⟩ := g
    simp only at hK hv
    conv => whnf
    refine br_intro (fun h2 => ?_) (fun h2 => ?_)
    · rw [pickAnd] at h2
      simp only [Bool.and_eq_true, decide_eq_true_eq] at h2
      have e0 : e = 0 := by omega
      have en : most < n := by omega
      rw [if_pos e0, if_pos en] at hK
      conv => whnf
      exact ⟨_, _, _, leT_refl _, leH_refl _, Nat.le_refl _, hK⟩
    · rw [pickAnd] at h2
      simp only [Bool.and_eq_false_iff, decide_eq_false_iff_not] at h2
      conv => whnf
      refine br_intro (fun h3 => ?_) (fun h3 => ?_)
      · have e0 : ¬ e = 0 := by simp at h3; omega
        rw [if_neg e0] at hK
        conv => whnf
        exact ⟨_, _, _, leT_refl _, leH_refl _, Nat.le_refl _, hK⟩
      · have e0 : e = 0 := by simp at h3; omega
        have en : ¬ most < n := by rcases h2 with h2 | h2 <;> omega
        rw [if_pos e0, if_neg en] at hK
        subst e0
        conv => whnf
        refine ⟨⟨by simp only; omega, by simp only; omega, by simp only; omega, by simp only; omega⟩, ?_⟩
        conv => whnf
        refine ⟨_, _, _, leT_refl _, ?_, Nat.le_refl _, hK⟩
        exact ⟨rfl, ⟨rfl, ⟨id, rfl, by show (bs.drop ((used : Int).toNat)).map encB = _; simp⟩, ⟨rfl, rfl⟩, trivial⟩, trivial⟩

theorem rdCut_eq (s : RS) : rdCut s = (if (rdNum 4096 s).2.2 = 0 then (if (rdNum 4096 s).2.1.length < (rdNum 4096 s).1 then ([], ((rdNum 4096 s).2.1, 40)) else ((rdNum 4096 s).2.1.take (rdNum 4096 s).1, ((rdNum 4096 s).2.1.drop (rdNum 4096 s).1, 0))) else ([], (rdNum 4096 s).2)) := by
  have h0 : ¬ (rdNum 4096 s).2.2 = 0 → (rdNum 4096 s).1 = 0 := by
    unfold rdNum
    repeat' split
    all_goals simp
    all_goals omega
  unfold rdCut
  generalize rdNum 4096 s = g at h0 ⊢
  obtain ⟨n, bs, e⟩ := g
  simp only at h0 ⊢
  by_cases he : e = 0
  · simp only [he, if_true]
  · simp only [he, if_false, h0 he, Nat.not_lt_zero, List.take_zero, List.drop_zero]

theorem dtext_ob (p : Bool) (s : RS) (hb : s.1.length ≤ 2 ^ 40) (K : Post) (hK : K (encStr (rdCut s).1) (drH p (rdCut s).2.1 (rdCut s).2.2) 1) :
    CallOb Tryz.prog 57 [.ptr 0 0] (drH p s.1 s.2) 1 K := by
  refine contract TryztabOk Tryz.checked.mixed Tryz.func57 rfl Tryz.call57 [0] [] [2] (res1 Tryz.results57) Tryz.ntmps57 rfl ?_
  have hl := rdNum_len 4096 s
  have hm := rdNum_le 4096 s
  rw [rdCut_eq] at hK
  conv => whnf
  refine call_rule [] ?_
  conv => whnf
  refine dnum_ob p 4096 s hb _ ?_
  generalize rdNum 4096 s = g at hK hl hm
  obtain ⟨n, bs, why⟩ := g
  simp only at hK hl hm
  have hw : IntKind.i64.wrap (n : Int) = (n : Int) := wrapI64' (by omega)
  conv => whnf
  refine br_intro (fun h => ?_) (fun h => ?_)
  · have h' : why = 0 ∧ bs.length < n := by
      revert h
      simp only [hw]
      by_cases a : why = 0 <;> by_cases b : bs.length < n <;> simp [a, b] <;> omega
    rw [if_pos h'.1, if_pos h'.2] at hK
    conv => whnf
    exact ⟨_, _, _, leT_refl _, leH_refl _, Nat.le_refl _, hK⟩
  · have h' : ¬ (why = 0 ∧ bs.length < n) := by
      revert h
      simp only [hw]
      by_cases a : why = 0 <;> by_cases b : bs.length < n <;> simp [a, b] <;> omega
    conv => whnf
    refine br_intro (fun h2 => ?_) (fun h2 => ?_)
    · have h2 : ¬ why = 0 := by simp at h2; omega
      rw [if_neg h2] at hK
      conv => whnf
      exact ⟨_, _, _, leT_refl _, leH_refl _, Nat.le_refl _, hK⟩
    · have h2 : why = 0 := by simp at h2; omega
      rw [if_pos h2, if_neg (fun h => h' ⟨h2, h⟩)] at hK
      have hn : ¬ bs.length < n := fun h => h' ⟨h2, h⟩
      subst h2
      conv => whnf
      simp only [hw]
      refine ⟨⟨by omega, by omega, by omega, by omega⟩, ?_⟩
      conv => whnf
      refine ⟨bs.take n, rfl, ?_⟩
      conv => whnf
      refine ⟨⟨by omega, by omega, by omega, by omega⟩, ?_⟩
      conv => whnf
      exact ⟨_, _, _, leT_refl _, leH_refl _, Nat.le_refl _, hK⟩

theorem dwhole_ob (p : Bool) (lo hi : Int) (s : RS) (hb : s.1.length ≤ 2 ^ 40) (K : Post) (hK : K (.int .i64 (rdWhole lo hi s).1) (drH p (rdWhole lo hi s).2.1 (rdWhole lo hi s).2.2) 1) :
    CallOb Tryz.prog 62 [.ptr 0 0, .int .i64 lo, .int .i64 hi] (drH p s.1 s.2) 1 K := by
  refine contract TryztabOk Tryz.checked.mixed Tryz.func62 rfl Tryz.call62 [0] [] [6] (res1 Tryz.results62) Tryz.ntmps62 rfl ?_
  obtain ⟨bs, why⟩ := s
  simp only at hb
  unfold rdWhole at hK
  simp only at hK
  conv => whnf
  refine br_intro (fun h => ?_) (fun h => ?_)
  · have h : ¬ why = 0 := by simp at h; omega
    simp only [if_neg h] at hK
    conv => whnf
    exact ⟨_, _, _, leT_refl _, leH_refl _, Nat.le_refl _, hK⟩
  · have h : why = 0 := by simp at h; omega
    simp only [if_pos h] at hK
    subst h
    have hv := vget_lt bs
    conv => whnf
    refine call_rule [] ?_
    conv => whnf
    refine dgetInt_ob p bs hb _ ?_
    generalize vget bs = g at hK hv
    obtain ⟨n, used, e⟩ := g
    simp only at hK hv
    generalize zag n = z at hK
    conv => whnf
    refine br_intro (fun h2 => ?_) (fun h2 => ?_)
    · have h2' : e = 0 ∧ (z < lo ∨ hi < z) := by
        revert h2
        by_cases e0 : e = 0 <;> by_cases z0 : z < lo <;> by_cases z1 : hi < z <;> simp [e0, z0, z1]
      rw [if_pos h2'.1, if_pos h2'.2] at hK
      conv => whnf
      exact ⟨_, _, _, leT_refl _, leH_refl _, Nat.le_refl _, hK⟩
    · have h2' : ¬ (e = 0 ∧ (z < lo ∨ hi < z)) := by
        revert h2
        by_cases e0 : e = 0 <;> by_cases z0 : z < lo <;> by_cases z1 : hi < z <;> simp [e0, z0, z1]
      conv => whnf
      refine br_intro (fun h3 => ?_) (fun h3 => ?_)
      · have e0 : ¬ e = 0 := by simp at h3; omega
        rw [if_neg e0] at hK
        conv => whnf
        exact ⟨_, _, _, leT_refl _, leH_refl _, Nat.le_refl _, hK⟩
      · have e0 : e = 0 := by simp at h3; omega
        rw [if_pos e0, if_neg (fun h => h2' ⟨e0, h⟩)] at hK
        subst e0
        conv => whnf
        refine ⟨⟨by simp only; omega, by simp only; omega, by simp only; omega, by simp only; omega⟩, ?_⟩
        conv => whnf
        refine ⟨_, _, _, leT_refl _, ?_, Nat.le_refl _, hK⟩
        exact ⟨rfl, ⟨rfl, ⟨id, rfl, by show (bs.drop ((used : Int).toNat)).map encB = _; simp⟩, ⟨rfl, rfl⟩, trivial⟩, trivial⟩

theorem dend_ob (p : Bool) (bs : List UInt8) (why : Nat) (K : Post) (hK : K (.int .i64 ((if 0 < bs.length ∧ why = 0 then 60 else why : Nat) : Int)) (drH p bs (if 0 < bs.length ∧ why = 0 then 60 else why)) 1) : CallOb Tryz.prog 63 [.ptr 0 0] (drH p bs why) 1 K := by
  refine contract TryztabOk Tryz.checked.mixed Tryz.func63 rfl Tryz.call63 [0] [] [2] (res1 Tryz.results63) Tryz.ntmps63 rfl ?_
  conv => whnf
  refine br_intro (fun h => ?_) (fun h => ?_)
  · have h : 0 < bs.length ∧ why = 0 := by
      revert h
      by_cases a : why = 0 <;> by_cases b : 0 < bs.length <;> simp [a, b] <;> omega
    rw [if_pos h] at hK
    conv => whnf
    exact ⟨_, _, _, leT_refl _, leH_refl _, Nat.le_refl _, hK⟩
  · have h : ¬ (0 < bs.length ∧ why = 0) := by
      revert h
      by_cases a : why = 0 <;> by_cases b : 0 < bs.length <;> simp [a, b] <;> omega
    rw [if_neg h] at hK
    conv => whnf
    exact ⟨_, _, _, leT_refl _, leH_refl _, Nat.le_refl _, hK⟩

theorem wrapSucc (i n : Nat) (h : i + n ≤ 128) : IntKind.i64.wrap ((i : Int) + 1) = ((i + 1 : Nat) : Int) := wrapI64' (m := i + 1) (by omega)


set_option maxHeartbeats 1000000 in
set_option maxRecDepth 4000 in
theorem dtexts_ob (p : Bool) (s : RS) (hb : s.1.length ≤ 2 ^ 40) (K : Post) (hK : K (.isl true 1 encStr (rdList rdCut s).1) (drH p (rdList rdCut s).2.1 (rdList rdCut s).2.2) 1) :
    CallOb Tryz.prog 60 [.ptr 0 0] (drH p s.1 s.2) 1 K := by
  refine contract TryztabOk Tryz.checked.mixed Tryz.func60 rfl Tryz.call60 [0] [.slot 0 9 1 encStr, .frz 0] [2] (res1 Tryz.results60) Tryz.ntmps60 rfl ?_
  have hl := rdNum_len 128 s
  have hm := rdNum_le 128 s
  conv => whnf
  refine call_rule [] ?_
  conv => whnf
  refine dnum_ob p 128 s hb _ ?_
  unfold rdList at hK
  generalize rdNum 128 s = g at hK hl hm
  obtain ⟨n0, s0⟩ := g
  simp only at hK hl hm
  have hw0 : IntKind.i64.wrap (n0 : Int) = (n0 : Int) := wrapI64' (by omega)
  conv => whnf
  generalize ht : rdRep rdCut n0 s0 = tot at hK
  obtain ⟨tl, tb, tw⟩ := tot
  simp only at hK
  refine loop_rule TryztabOk Tryz.checked.mixed [0, 3, 4, 5] [0] [.slot 1 9 1 encStr] (T := { x : Nat × Nat × List (List UInt8) × RS // x.1 + x.2.1 = n0 ∧ x.2.2.1.length + x.2.1 ≤ 128 ∧ x.2.2.2.1.length ≤ 2 ^ 40 ∧ x.2.2.1 ++ (rdRep rdCut x.2.1 x.2.2.2).1 = tl ∧ (rdRep rdCut x.2.1 x.2.2.2).2 = (tb, tw) })
    (fun x => [.ptr 0 0, .vec 1, .int .i64 (n0 : Int), .int .i64 (x.1.1 : Int)]) (fun x => [(0, .cells 129 [.isl p 1 encB x.1.2.2.2.1, .int .i64 (x.1.2.2.2.2 : Int)]), (1, .row 9 1 encStr x.1.2.2.1)]) 2 (fun x => x.1.2.1) ⟨(0, n0, [], s0), by simp, by simp; omega, by simp only; omega, by simp [ht], by simp only [ht]⟩ rfl rfl ?_ ?_
  · conv => whnf
    exact ⟨⟨leT_refl _, leT_refl _, ⟨rfl, hw0⟩, leT_refl _, trivial⟩, leH_refl _, Nat.le_refl _⟩
  · rintro ⟨⟨i, n, l, bs, why⟩, h0, h1, h2, h3, h4⟩
    simp only at h0 h1 h2 h3 h4
    conv => whnf
    refine br_intro (fun h => ?_) (fun h => ?_)
    · have h' : 0 < n ∧ why = 0 := by
        revert h
        simp only
        by_cases a : (i : Int) < (n0 : Int) <;> by_cases b : why = 0 <;> simp [a, b] <;> omega
      rw [rdRep_s _ _ _ (by simpa using h')] at h3 h4
      simp only at h3 h4
      conv => whnf
      refine call_rule [] ?_
      conv => whnf
      refine dtext_ob p (bs, why) (by simp only; omega) _ ?_
      have hol := rdCut_len (bs, why)
      generalize rdCut (bs, why) = r at h3 h4 hol
      obtain ⟨y, s'⟩ := r
      simp only at h3 h4 hol
      conv => whnf
      refine ⟨(List UInt8), encStr, [y], rfl, build1 y rfl rfl rfl rfl rfl, ?_⟩
      conv => whnf
      refine ⟨[y], rfl, ?_, ?_⟩
      · show (l.length + 1) * 16 ≤ _; omega
      conv => whnf
      refine ⟨⟨(i + 1, n - 1, l ++ [y], s'), by simp only; omega, by simp; omega, by simp only; omega, by simp; exact h3, h4⟩, ?_, ⟨leT_refl _, leT_refl _, leT_refl _, ⟨rfl, wrapSucc i n (by omega)⟩, trivial⟩, leH_refl _, Nat.le_refl _⟩
      show n - 1 < n
      omega
    · have h' : ¬ (0 < n ∧ why = 0) := by
        revert h
        simp only
        by_cases a : (i : Int) < (n0 : Int) <;> by_cases b : why = 0 <;> simp [a, b] <;> omega
      rw [rdRep_n _ _ _ (by simpa using h')] at h3 h4
      simp only [List.append_nil] at h3 h4
      subst h3
      cases h4
      conv => whnf
      exact ⟨_, _, _, leT_refl _, leH_refl _, Nat.le_refl _, hK⟩


set_option maxHeartbeats 1000000 in
set_option maxRecDepth 4000 in
theorem dvec_ob (p : Bool) (s : RS) (hb : s.1.length ≤ 2 ^ 40) (K : Post) (hK : K (.isl true 1 encI32 (rdList rdI32 s).1) (drH p (rdList rdI32 s).2.1 (rdList rdI32 s).2.2) 1) :
    CallOb Tryz.prog 59 [.ptr 0 0] (drH p s.1 s.2) 1 K := by
  refine contract TryztabOk Tryz.checked.mixed Tryz.func59 rfl Tryz.call59 [0] [.slot 0 21 1 encI32, .frz 0] [2] (res1 Tryz.results59) Tryz.ntmps59 rfl ?_
  have hl := rdNum_len 128 s
  have hm := rdNum_le 128 s
  conv => whnf
  refine call_rule [] ?_
  conv => whnf
  refine dnum_ob p 128 s hb _ ?_
  unfold rdList at hK
  generalize rdNum 128 s = g at hK hl hm
  obtain ⟨n0, s0⟩ := g
  simp only at hK hl hm
  have hw0 : IntKind.i64.wrap (n0 : Int) = (n0 : Int) := wrapI64' (by omega)
  conv => whnf
  generalize ht : rdRep rdI32 n0 s0 = tot at hK
  obtain ⟨tl, tb, tw⟩ := tot
  simp only at hK
  refine loop_rule TryztabOk Tryz.checked.mixed [0, 3, 4, 5] [0] [.slot 1 21 1 encI32] (T := { x : Nat × Nat × List Int × RS // x.1 + x.2.1 = n0 ∧ x.2.2.1.length + x.2.1 ≤ 128 ∧ x.2.2.2.1.length ≤ 2 ^ 40 ∧ x.2.2.1 ++ (rdRep rdI32 x.2.1 x.2.2.2).1 = tl ∧ (rdRep rdI32 x.2.1 x.2.2.2).2 = (tb, tw) })
    (fun x => [.ptr 0 0, .vec 1, .int .i64 (n0 : Int), .int .i64 (x.1.1 : Int)]) (fun x => [(0, .cells 129 [.isl p 1 encB x.1.2.2.2.1, .int .i64 (x.1.2.2.2.2 : Int)]), (1, .row 21 1 encI32 x.1.2.2.1)]) 2 (fun x => x.1.2.1) ⟨(0, n0, [], s0), by simp, by simp; omega, by simp only; omega, by simp [ht], by simp only [ht]⟩ rfl rfl ?_ ?_
  · conv => whnf
    exact ⟨⟨leT_refl _, leT_refl _, ⟨rfl, hw0⟩, leT_refl _, trivial⟩, leH_refl _, Nat.le_refl _⟩
  · rintro ⟨⟨i, n, l, bs, why⟩, h0, h1, h2, h3, h4⟩
    simp only at h0 h1 h2 h3 h4
    conv => whnf
    refine br_intro (fun h => ?_) (fun h => ?_)
    · have h' : 0 < n ∧ why = 0 := by
        revert h
        simp only
        by_cases a : (i : Int) < (n0 : Int) <;> by_cases b : why = 0 <;> simp [a, b] <;> omega
      rw [rdRep_s _ _ _ (by simpa using h')] at h3 h4
      simp only at h3 h4
      conv => whnf
      refine call_rule [] ?_
      conv => whnf
      refine dwhole_ob p (-2147483648) 2147483647 (bs, why) (by simp only; omega) _ ?_
      have hol := rdI32_len (bs, why)
      have hr := rdWhole_rng (-2147483648) 2147483647 (by omega) (bs, why)
      change -2147483648 ≤ (rdI32 (bs, why)).1 ∧ (rdI32 (bs, why)).1 ≤ 2147483647 at hr
      rw [show rdWhole (-2147483648) 2147483647 (bs, why) = rdI32 (bs, why) from rfl]
      generalize rdI32 (bs, why) = r at h3 h4 hol hr
      obtain ⟨y, s'⟩ := r
      simp only at h3 h4 hol hr
      conv => whnf
      refine ⟨Int, encI32, [y], rfl, build1 y rfl rfl rfl rfl (by show V.int .i32 (IntKind.i32.wrap y) = V.int .i32 y; rw [wrapI32 _ (by omega) (by omega)]), ?_⟩
      conv => whnf
      refine ⟨[y], rfl, ?_, ?_⟩
      · show (l.length + 1) * 4 ≤ _; omega
      conv => whnf
      refine ⟨⟨(i + 1, n - 1, l ++ [y], s'), by simp only; omega, by simp; omega, by simp only; omega, by simp; exact h3, h4⟩, ?_, ⟨leT_refl _, leT_refl _, leT_refl _, ⟨rfl, wrapSucc i n (by omega)⟩, trivial⟩, leH_refl _, Nat.le_refl _⟩
      show n - 1 < n
      omega
    · have h' : ¬ (0 < n ∧ why = 0) := by
        revert h
        simp only
        by_cases a : (i : Int) < (n0 : Int) <;> by_cases b : why = 0 <;> simp [a, b] <;> omega
      rw [rdRep_n _ _ _ (by simpa using h')] at h3 h4
      simp only [List.append_nil] at h3 h4
      subst h3
      cases h4
      conv => whnf
      exact ⟨_, _, _, leT_refl _, leH_refl _, Nat.le_refl _, hK⟩


set_option maxRecDepth 4000 in
theorem ditem_ob (p : Bool) (s : RS) (hb : s.1.length ≤ 2 ^ 40) (K : Post) (hK : K (encItem (rdItem s).1) (drH p (rdItem s).2.1 (rdItem s).2.2) 1) :
    CallOb Tryz.prog 61 [.ptr 0 0] (drH p s.1 s.2) 1 K := by
  refine contractC TryztabOk Tryz.checked.mixed Tryz.func61 rfl Tryz.call61 [0] [] [.cell 2 64] (resC1 Tryz.results61) Tryz.ntmps61 rfl ?_
  have h1 := rdNum_len 4294967295 s
  have m1 := rdNum_le 4294967295 s
  have h2 := rdList_len rdI32_len (rdNum 4294967295 s).2
  conv => whnf
  refine call_rule [] ?_
  conv => whnf
  refine dnum_ob p 4294967295 s (by omega) _ ?_
  conv => whnf
  refine call_rule [] ?_
  conv => whnf
  refine dvec_ob p _ (by omega) _ ?_
  conv => whnf
  refine call_rule [] ?_
  conv => whnf
  refine dtexts_ob p _ (by omega) _ ?_
  conv => whnf
  refine ⟨_, _, _, ?_, leH_refl _, Nat.le_refl _, hK⟩
  exact ⟨⟨rfl, wrapU32' (by omega)⟩, leF_refl _, leF_refl _, trivial⟩


set_option maxHeartbeats 1000000 in
set_option maxRecDepth 4000 in
theorem dchanges_ob (p : Bool) (s : RS) (hb : s.1.length ≤ 2 ^ 40) (K : Post) (hK : K (.isl true 4 encChg (rdList rdChg s).1) (drH p (rdList rdChg s).2.1 (rdList rdChg s).2.2) 1) :
    CallOb Tryz.prog 58 [.ptr 0 0] (drH p s.1 s.2) 1 K := by
  refine contract TryztabOk Tryz.checked.mixed Tryz.func58 rfl Tryz.call58 [0] [.slot 0 99 4 encChg, .frz 0] [2] (res1 Tryz.results58) Tryz.ntmps58 rfl ?_
  have hl := rdNum_len 128 s
  have hm := rdNum_le 128 s
  conv => whnf
  refine call_rule [] ?_
  conv => whnf
  refine dnum_ob p 128 s hb _ ?_
  unfold rdList at hK
  generalize rdNum 128 s = g at hK hl hm
  obtain ⟨n0, s0⟩ := g
  simp only at hK hl hm
  have hw0 : IntKind.i64.wrap (n0 : Int) = (n0 : Int) := wrapI64' (by omega)
  conv => whnf
  generalize ht : rdRep rdChg n0 s0 = tot at hK
  obtain ⟨tl, tb, tw⟩ := tot
  simp only at hK
  refine loop_rule TryztabOk Tryz.checked.mixed [0, 3, 4, 5] [0] [.slot 1 99 4 encChg] (T := { x : Nat × Nat × List Chg × RS // x.1 + x.2.1 = n0 ∧ x.2.2.1.length + x.2.1 ≤ 128 ∧ x.2.2.2.1.length ≤ 2 ^ 40 ∧ x.2.2.1 ++ (rdRep rdChg x.2.1 x.2.2.2).1 = tl ∧ (rdRep rdChg x.2.1 x.2.2.2).2 = (tb, tw) })
    (fun x => [.ptr 0 0, .vec 1, .int .i64 (n0 : Int), .int .i64 (x.1.1 : Int)]) (fun x => [(0, .cells 129 [.isl p 1 encB x.1.2.2.2.1, .int .i64 (x.1.2.2.2.2 : Int)]), (1, .row 99 4 encChg x.1.2.2.1)]) 2 (fun x => x.1.2.1) ⟨(0, n0, [], s0), by simp, by simp; omega, by simp only; omega, by simp [ht], by simp only [ht]⟩ rfl rfl ?_ ?_
  · conv => whnf
    exact ⟨⟨leT_refl _, leT_refl _, ⟨rfl, hw0⟩, leT_refl _, trivial⟩, leH_refl _, Nat.le_refl _⟩
  · rintro ⟨⟨i, n, l, bs, why⟩, h0, h1, h2, h3, h4⟩
    simp only at h0 h1 h2 h3 h4
    conv => whnf
    refine br_intro (fun h => ?_) (fun h => ?_)
    · have h' : 0 < n ∧ why = 0 := by
        revert h
        simp only
        by_cases a : (i : Int) < (n0 : Int) <;> by_cases b : why = 0 <;> simp [a, b] <;> omega
      rw [rdRep_s _ _ _ (by simpa using h')] at h3 h4
      simp only at h3 h4
      conv => whnf
      have hol := rdChg_len (bs, why)
      have hn1 := rdNum_len 1 (bs, why)
      have hc : rdChg (bs, why) = _ := rdChg.eq_1 _
      refine call_rule [] ?_
      conv => whnf
      refine dnum_ob p 1 (bs, why) (by simp only; omega) _ ?_
      by_cases hg : (rdNum 1 (bs, why)).1 = 1
      · rw [if_pos hg] at hc
        rw [hc] at h3 h4 hol
        clear hc
        generalize rdNum 1 (bs, why) = r at hg h3 h4 hol hn1
        obtain ⟨g, s1⟩ := r
        simp only at hg h3 h4 hol hn1
        subst hg
        conv => whnf
        refine call_rule [] ?_
        conv => whnf
        refine dnum_ob p 4294967295 s1 (by omega) _ ?_
        have hm2 := rdNum_le 4294967295 s1
        generalize rdNum 4294967295 s1 = r at h3 h4 hol hm2
        obtain ⟨d, s'⟩ := r
        simp only at h3 h4 hol hm2
        generalize hy : (⟨true, ⟨d, [], []⟩⟩ : Chg) = y at h3
        conv => whnf
        refine ⟨Chg, encChg, [y], rfl, build1_le y rfl rfl rfl rfl (by subst hy; exact ⟨rfl, ⟨rfl, wrapU32' (by omega)⟩, rfl, rfl, trivial⟩), ?_⟩
        conv => whnf
        refine ⟨[y], rfl, ?_, ?_⟩
        · show (l.length + 1) * 64 ≤ _; omega
        conv => whnf
        refine ⟨⟨(i + 1, n - 1, l ++ [y], s'), by simp only; omega, by simp; omega, by simp only; omega, by simp; exact h3, h4⟩, ?_, ⟨leT_refl _, leT_refl _, leT_refl _, ⟨rfl, wrapSucc i n (by omega)⟩, trivial⟩, leH_refl _, Nat.le_refl _⟩
        show n - 1 < n
        omega
      · rw [if_neg hg] at hc
        rw [hc] at h3 h4 hol
        clear hc
        generalize rdNum 1 (bs, why) = r at hg h3 h4 hol hn1
        obtain ⟨g, s1⟩ := r
        simp only at hg h3 h4 hol hn1
        have hgi : decide ((g : Int) = 1) = false := by simp; omega
        conv => whnf
        simp only [hgi]
        conv => whnf
        refine call_rule [] ?_
        conv => whnf
        refine ditem_ob p s1 (by omega) _ ?_
        generalize rdItem s1 = r at h3 h4 hol
        obtain ⟨x, s'⟩ := r
        simp only at h3 h4 hol
        generalize hy : (⟨false, x⟩ : Chg) = y at h3
        conv => whnf
        refine ⟨Chg, encChg, [y], rfl, build1_le y rfl rfl rfl rfl (by subst hy; first | exact ⟨rfl, leF_refl _, leF_refl _, leF_refl _, trivial⟩ | exact ⟨hgi, leF_refl _, leF_refl _, leF_refl _, trivial⟩), ?_⟩
        conv => whnf
        refine ⟨[y], rfl, ?_, ?_⟩
        · show (l.length + 1) * 64 ≤ _; omega
        conv => whnf
        refine ⟨⟨(i + 1, n - 1, l ++ [y], s'), by simp only; omega, by simp; omega, by simp only; omega, by simp; exact h3, h4⟩, ?_, ⟨leT_refl _, leT_refl _, leT_refl _, ⟨rfl, wrapSucc i n (by omega)⟩, trivial⟩, leH_refl _, Nat.le_refl _⟩
        show n - 1 < n
        omega
    · have h' : ¬ (0 < n ∧ why = 0) := by
        revert h
        simp only
        by_cases a : (i : Int) < (n0 : Int) <;> by_cases b : why = 0 <;> simp [a, b] <;> omega
      rw [rdRep_n _ _ _ (by simpa using h')] at h3 h4
      simp only [List.append_nil] at h3 h4
      subst h3
      cases h4
      conv => whnf
      exact ⟨_, _, _, leT_refl _, leH_refl _, Nat.le_refl _, hK⟩

end Go.Sx
end

/- message's reader in general: texts, whole numbers; no condition. message's reader in general: lists, items, changes, hits, a configuration (printed by genthings.py); no condition. message's reader in general: field, Get (printed by genrfield.py); no condition. varint: what is written is read; the document's reading is the program's; no condition. varint, by the document: plain facts; no condition. lodestarref04.Get, GetInt; no condition. lodestarref06.Bytes: the document's reader (printed by gendoc.py); no condition. -/
import Derived.Test.YtlbbdkecjpaglaaFas

set_option linter.all false

section
open Go.Proofs
namespace Go.Sx
set_option linter.unusedVariables false

theorem wrapI32 (n : Int) (h1 : -2147483648 ≤ n) (h2 : n < 2147483648) : IntKind.i32.wrap n = n := by
  have e1 : (2 : Int) ^ IntKind.i32.bits = 4294967296 := rfl
  have e2 : (2 : Int) ^ (IntKind.i32.bits - 1) = 2147483648 := rfl
  simp only [IntKind.wrap, e1, e2, show IntKind.i32.signed = true from rfl, Bool.true_and]
  by_cases hn : 0 ≤ n
  · rw [Int.emod_eq_of_lt hn (by omega)]
    rw [if_neg (by simp; omega)]
  · have : n % 4294967296 = n + 4294967296 := by
      rw [← Int.add_emod_right]
      exact Int.emod_eq_of_lt (by omega) (by omega)
    rw [this, if_pos (by simp; omega)]
    omega


/-- what is read still, and the error -/
abbrev RS := List UInt8 × Nat

def rdCut (s : RS) : List UInt8 × RS :=
  if (rdNum 4096 s).2.1.length < (rdNum 4096 s).1 then ([], ((rdNum 4096 s).2.1, if (rdNum 4096 s).2.2 = 0 then 40 else (rdNum 4096 s).2.2)) else ((rdNum 4096 s).2.1.take (rdNum 4096 s).1, ((rdNum 4096 s).2.1.drop (rdNum 4096 s).1, (rdNum 4096 s).2.2))

def rdWhole (lo hi : Int) (s : RS) : Int × RS :=
  if s.2 = 0 then (if (vget s.1).2.2 = 0 then (if zag (vget s.1).1 < lo ∨ hi < zag (vget s.1).1 then (0, (s.1, 62)) else (zag (vget s.1).1, (s.1.drop (vget s.1).2.1, 0))) else (0, (s.1, (vget s.1).2.2))) else (0, s)

def rdRep {α : Type} (one : RS → α × RS) : Nat → RS → List α × RS
  | 0, s => ([], s)
  | n + 1, s => if s.2 = 0 then ((one s).1 :: (rdRep one n (one s).2).1, (rdRep one n (one s).2).2) else ([], s)

def rdList {α : Type} (one : RS → α × RS) (s : RS) : List α × RS := rdRep one (rdNum 128 s).1 (rdNum 128 s).2

def rdI32 (s : RS) : Int × RS := rdWhole (-2147483648) 2147483647 s

def rdItem (s : RS) : Item × RS :=
  (⟨(rdNum 4294967295 s).1, (rdList rdI32 (rdNum 4294967295 s).2).1, (rdList rdCut (rdList rdI32 (rdNum 4294967295 s).2).2).1⟩, (rdList rdCut (rdList rdI32 (rdNum 4294967295 s).2).2).2)

def rdChg (s : RS) : Chg × RS :=
  if (rdNum 1 s).1 = 1 then (⟨true, ⟨(rdNum 4294967295 (rdNum 1 s).2).1, [], []⟩⟩, (rdNum 4294967295 (rdNum 1 s).2).2) else (⟨false, (rdItem (rdNum 1 s).2).1⟩, (rdItem (rdNum 1 s).2).2)

def rdHit (s : RS) : Hit × RS :=
  (⟨(rdWhole (-9223372036854775808) 9223372036854775807 s).1, (rdNum 4294967295 (rdWhole (-9223372036854775808) 9223372036854775807 s).2).1⟩, (rdNum 4294967295 (rdWhole (-9223372036854775808) 9223372036854775807 s).2).2)

theorem rdNum_len (most : Nat) (s : RS) : (rdNum most s).2.1.length ≤ s.1.length := by
  unfold rdNum
  repeat' split
  all_goals simp

theorem rdNum_le (most : Nat) (s : RS) : (rdNum most s).1 ≤ most := by
  unfold rdNum
  repeat' split
  all_goals simp only
  all_goals omega

theorem rdCut_len (s : RS) : (rdCut s).2.1.length ≤ s.1.length := by
  have := rdNum_len 4096 s
  unfold rdCut
  split
  · exact this
  · simp only [List.length_drop]; omega

theorem rdWhole_len (lo hi : Int) (s : RS) : (rdWhole lo hi s).2.1.length ≤ s.1.length := by
  unfold rdWhole
  repeat' split
  all_goals simp

theorem rdRep_len {α : Type} {one : RS → α × RS} (h : ∀ s, (one s).2.1.length ≤ s.1.length) : ∀ (n : Nat) (s : RS), (rdRep one n s).2.1.length ≤ s.1.length
  | 0, s => Nat.le_refl _
  | n + 1, s => by
    unfold rdRep
    split
    · exact Nat.le_trans (rdRep_len h n _) (h s)
    · exact Nat.le_refl _

theorem rdList_len {α : Type} {one : RS → α × RS} (h : ∀ s, (one s).2.1.length ≤ s.1.length) (s : RS) : (rdList one s).2.1.length ≤ s.1.length :=
  Nat.le_trans (rdRep_len h _ _) (rdNum_len 128 s)

theorem rdI32_len (s : RS) : (rdI32 s).2.1.length ≤ s.1.length := rdWhole_len _ _ s

theorem rdItem_len (s : RS) : (rdItem s).2.1.length ≤ s.1.length := by
  have h1 := rdNum_len 4294967295 s
  have h2 := rdList_len rdI32_len (rdNum 4294967295 s).2
  have h3 := rdList_len rdCut_len (rdList rdI32 (rdNum 4294967295 s).2).2
  exact Nat.le_trans h3 (Nat.le_trans h2 h1)

theorem rdChg_len (s : RS) : (rdChg s).2.1.length ≤ s.1.length := by
  have h1 := rdNum_len 1 s
  unfold rdChg
  split
  · exact Nat.le_trans (rdNum_len _ _) h1
  · exact Nat.le_trans (rdItem_len _) h1

theorem rdHit_len (s : RS) : (rdHit s).2.1.length ≤ s.1.length := Nat.le_trans (rdNum_len _ _) (rdWhole_len _ _ s)

theorem gcut_ob (p : Bool) (s : RS) (hb : s.1.length < 2 ^ 62) (K : Post) (hK : K (.isl p 1 encB (rdCut s).1) (rdH p (rdCut s).2.1 (rdCut s).2.2) 1) :
    CallOb Try.prog 74 [.ptr 0 0] (rdH p s.1 s.2) 1 K := by
  refine contract TrytabOk Try.checked.mixed Try.func74 rfl Try.call74 [0] [] [2] (res1 Try.results74) Try.ntmps74 rfl ?_
  have hl := rdNum_len 4096 s
  have hm := rdNum_le 4096 s
  conv => whnf
  refine call_rule [] ?_
  conv => whnf
  refine rnum2_ob p 4096 s hb _ ?_
  unfold rdCut at hK
  generalize rdNum 4096 s = g at hK hl hm
  obtain ⟨n, bs, why⟩ := g
  simp only at hl hm hK
  conv => whnf
  have hw : IntKind.u64.wrap (bs.length : Int) = (bs.length : Int) := wrapU64' (by omega)
  simp only [hw]
  refine br_dec (fun h => ?_) (fun h => ?_)
  · have h : bs.length < n := by omega
    rw [if_pos h] at hK
    conv => whnf
    refine call_rule [] ?_
    conv => whnf
    refine rfail_ob p bs why 40 _ ?_
    conv => whnf
    refine ⟨_, _, _, ?_, leH_refl _, Nat.le_refl _, hK⟩
    exact rfl
  · have h : ¬ bs.length < n := by omega
    rw [if_neg h] at hK
    conv => whnf
    refine ⟨⟨by omega, by omega, by omega, by omega⟩, ?_⟩
    conv => whnf
    refine ⟨⟨by omega, by omega, by omega, by omega⟩, ?_⟩
    conv => whnf
    exact ⟨_, _, _, leT_refl _, leH_refl _, Nat.le_refl _, hK⟩

theorem gstring_ob (p : Bool) (s : RS) (hb : s.1.length < 2 ^ 62) (K : Post) (hK : K (encStr (rdCut s).1) (rdH p (rdCut s).2.1 (rdCut s).2.2) 1) :
    CallOb Try.prog 48 [.ptr 0 0] (rdH p s.1 s.2) 1 K := by
  refine contract TrytabOk Try.checked.mixed Try.func48 rfl Try.call48 [0] [] [2] (res1 Try.results48) Try.ntmps48 rfl ?_
  conv => whnf
  refine call_rule [] ?_
  conv => whnf
  refine gcut_ob p s hb _ ?_
  conv => whnf
  refine ⟨(rdCut s).1, rfl, ?_⟩
  conv => whnf
  exact ⟨_, _, _, leT_refl _, leH_refl _, Nat.le_refl _, hK⟩

theorem gbytes_ob (p : Bool) (s : RS) (hb : s.1.length ≤ 2 ^ 40) (K : Post) (hK : K (.isl true 1 encB (rdCut s).1) (rdH p (rdCut s).2.1 (rdCut s).2.2) 1) :
    CallOb Try.prog 55 [.ptr 0 0] (rdH p s.1 s.2) 1 K := by
  refine contract TrytabOk Try.checked.mixed Try.func55 rfl Try.call55 [0] [.frz 0] [2] (res1 Try.results55) Try.ntmps55 rfl ?_
  have hl := rdNum_len 4096 s
  have hc : (rdCut s).1.length ≤ 2 ^ 40 := by
    unfold rdCut
    split
    · simp
    · simp only [List.length_take]; omega
  conv => whnf
  refine call_rule [] ?_
  conv => whnf
  refine gcut_ob p s (by omega) _ ?_
  conv => whnf
  refine call_rule [] ?_
  conv => whnf
  refine clone_ob p (rdCut s).1 hc _ ?_
  conv => whnf
  exact ⟨_, _, _, leT_refl _, leH_refl _, Nat.le_refl _, hK⟩

theorem gwhole_ob (p : Bool) (lo hi : Int) (s : RS) (hb : s.1.length < 2 ^ 62) (K : Post) (hK : K (.int .i64 (rdWhole lo hi s).1) (rdH p (rdWhole lo hi s).2.1 (rdWhole lo hi s).2.2) 1) :
    CallOb Try.prog 78 [.ptr 0 0, .int .i64 lo, .int .i64 hi] (rdH p s.1 s.2) 1 K := by
  refine contract TrytabOk Try.checked.mixed Try.func78 rfl Try.call78 [0] [] [6] (res1 Try.results78) Try.ntmps78 rfl ?_
  obtain ⟨bs, why⟩ := s
  simp only at hb
  unfold rdWhole at hK
  simp only at hK
  conv => whnf
  refine br_intro (fun h => ?_) (fun h => ?_)
  · have h : ¬ why = 0 := by simp at h; omega
    simp only [if_neg h] at hK
    conv => whnf
    exact ⟨_, _, _, leT_refl _, leH_refl _, Nat.le_refl _, hK⟩
  · have h : why = 0 := by simp at h; omega
    simp only [if_pos h] at hK
    subst h
    have hv := vget_lt bs
    conv => whnf
    refine call_rule [] ?_
    conv => whnf
    refine getInt_ob p bs hb _ ?_
    generalize vget bs = g at hK hv
    obtain ⟨n, used, e⟩ := g
    simp only at hK hv
    generalize zag n = z at hK
    conv => whnf
    refine br_intro (fun h2 => ?_) (fun h2 => ?_)
    · have h2' : e = 0 ∧ (z < lo ∨ hi < z) := by
        revert h2
        by_cases e0 : e = 0 <;> by_cases z0 : z < lo <;> by_cases z1 : hi < z <;> simp [e0, z0, z1]
      rw [if_pos h2'.1, if_pos h2'.2] at hK
      conv => whnf
      refine call_rule [] ?_
      conv => whnf
      refine rfail_ob p bs 0 62 _ ?_
      conv => whnf
      exact ⟨_, _, _, leT_refl _, leH_refl _, Nat.le_refl _, hK⟩
    · have h2' : ¬ (e = 0 ∧ (z < lo ∨ hi < z)) := by
        revert h2
        by_cases e0 : e = 0 <;> by_cases z0 : z < lo <;> by_cases z1 : hi < z <;> simp [e0, z0, z1]
      conv => whnf
      refine br_intro (fun h3 => ?_) (fun h3 => ?_)
      · have e0 : ¬ e = 0 := by simp at h3; omega
        rw [if_neg e0] at hK
        conv => whnf
        refine call_rule [] ?_
        conv => whnf
        refine rfail_ob p bs 0 e _ ?_
        conv => whnf
        exact ⟨_, _, _, leT_refl _, leH_refl _, Nat.le_refl _, hK⟩
      · have e0 : e = 0 := by simp at h3; omega
        rw [if_pos e0, if_neg (fun h => h2' ⟨e0, h⟩)] at hK
        subst e0
        conv => whnf
        refine ⟨⟨by simp only; omega, by simp only; omega, by simp only; omega, by simp only; omega⟩, ?_⟩
        conv => whnf
        refine ⟨_, _, _, leT_refl _, ?_, Nat.le_refl _, hK⟩
        exact ⟨rfl, ⟨rfl, ⟨id, rfl, by show (bs.drop ((used : Int).toNat)).map encB = _; simp⟩, ⟨rfl, rfl⟩, trivial⟩, trivial⟩

theorem rdWhole_rng (lo hi : Int) (h : lo ≤ 0 ∧ 0 ≤ hi) (s : RS) : lo ≤ (rdWhole lo hi s).1 ∧ (rdWhole lo hi s).1 ≤ hi := by
  unfold rdWhole
  repeat' split
  all_goals simp only
  all_goals omega

theorem gvecOne_ob (p : Bool) (s : RS) (hb : s.1.length < 2 ^ 62) (K : Post) (hK : K (encI32 (rdI32 s).1) [(0, .cells 101 [.ptr 1 0]), (1, .cells 103 [.isl p 1 encB (rdI32 s).2.1, .int .i64 ((rdI32 s).2.2 : Int)])] 2) :
    CallOb Try.prog 77 [.ptr 0 0] [(0, .cells 101 [.ptr 1 0]), (1, .cells 103 [.isl p 1 encB s.1, .int .i64 (s.2 : Int)])] 2 K := by
  refine contract TrytabOk Try.checked.mixed Try.func77 rfl Try.call77 [0, 1] [] [1] (res1 Try.results77) Try.ntmps77 rfl ?_
  have hr := rdWhole_rng (-2147483648) 2147483647 (by omega) s
  conv => whnf
  refine call_rule [] ?_
  conv => whnf
  refine gwhole_ob p (-2147483648) 2147483647 s hb _ ?_
  conv => whnf
  refine ⟨_, _, _, ?_, leH_refl _, Nat.le_refl _, hK⟩
  refine ⟨rfl, ?_⟩
  exact wrapI32 _ (by omega) (by omega)

theorem gflag_ob (p : Bool) (s : RS) (hb : s.1.length < 2 ^ 62) (K : Post) (hK : K (.bool (decide ((rdNum 1 s).1 = 1))) (rdH p (rdNum 1 s).2.1 (rdNum 1 s).2.2) 1) :
    CallOb Try.prog 75 [.ptr 0 0] (rdH p s.1 s.2) 1 K := by
  refine contract TrytabOk Try.checked.mixed Try.func75 rfl Try.call75 [0] [] [2] (res1 Try.results75) Try.ntmps75 rfl ?_
  conv => whnf
  refine call_rule [] ?_
  conv => whnf
  refine rnum2_ob p 1 s hb _ ?_
  conv => whnf
  refine ⟨_, _, _, ?_, leH_refl _, Nat.le_refl _, hK⟩
  show decide (((rdNum 1 s).1 : Int) = 1) = decide ((rdNum 1 s).1 = 1)
  congr 1
  apply propext
  omega

theorem gshort_ob (p : Bool) (s : RS) (hb : s.1.length < 2 ^ 62) (K : Post) (hK : K (.int .u16 ((rdNum 65535 s).1 : Int)) (rdH p (rdNum 65535 s).2.1 (rdNum 65535 s).2.2) 1) :
    CallOb Try.prog 53 [.ptr 0 0] (rdH p s.1 s.2) 1 K := by
  refine contract TrytabOk Try.checked.mixed Try.func53 rfl Try.call53 [0] [] [2] (res1 Try.results53) Try.ntmps53 rfl ?_
  have hl := rdNum_le 65535 s
  conv => whnf
  refine call_rule [] ?_
  conv => whnf
  refine rnum2_ob p 65535 s hb _ ?_
  conv => whnf
  refine ⟨_, _, _, ?_, leH_refl _, Nat.le_refl _, hK⟩
  exact ⟨rfl, wrapU16' (by omega)⟩

theorem gletter_ob (p : Bool) (s : RS) (hb : s.1.length < 2 ^ 62) (K : Post) (hK : K (.int .u8 ((rdNum 255 s).1 : Int)) (rdH p (rdNum 255 s).2.1 (rdNum 255 s).2.2) 1) :
    CallOb Try.prog 47 [.ptr 0 0] (rdH p s.1 s.2) 1 K := by
  refine contract TrytabOk Try.checked.mixed Try.func47 rfl Try.call47 [0] [] [2] (res1 Try.results47) Try.ntmps47 rfl ?_
  have hl := rdNum_le 255 s
  conv => whnf
  refine call_rule [] ?_
  conv => whnf
  refine rnum2_ob p 255 s hb _ ?_
  conv => whnf
  refine ⟨_, _, _, ?_, leH_refl _, Nat.le_refl _, hK⟩
  exact ⟨rfl, wrapU8' (by omega)⟩

theorem ggreat_ob (p : Bool) (s : RS) (hb : s.1.length < 2 ^ 62) (K : Post) (hK : K (.int .u64 ((rdNum 18446744073709551615 s).1 : Int)) (rdH p (rdNum 18446744073709551615 s).2.1 (rdNum 18446744073709551615 s).2.2) 1) :
    CallOb Try.prog 46 [.ptr 0 0] (rdH p s.1 s.2) 1 K := by
  refine contract TrytabOk Try.checked.mixed Try.func46 rfl Try.call46 [0] [] [2] (res1 Try.results46) Try.ntmps46 rfl ?_
  have hl := rdNum_le 18446744073709551615 s
  conv => whnf
  refine call_rule [] ?_
  conv => whnf
  refine rnum2_ob p 18446744073709551615 s hb _ ?_
  conv => whnf
  exact ⟨_, _, _, leT_refl _, leH_refl _, Nat.le_refl _, hK⟩

end Go.Sx
end

section
open Go.Proofs
namespace Go.Sx
set_option linter.unusedVariables false

theorem rdRep_n {α : Type} (one : RS → α × RS) (n : Nat) (s : RS) (h : ¬ (0 < n ∧ s.2 = 0)) : rdRep one n s = ([], s) := by
  cases n with
  | zero => rfl
  | succ n => unfold rdRep; rw [if_neg (fun e => h ⟨by omega, e⟩)]

theorem rdRep_s {α : Type} (one : RS → α × RS) (n : Nat) (s : RS) (h : 0 < n ∧ s.2 = 0) : rdRep one n s = ((one s).1 :: (rdRep one (n - 1) (one s).2).1, (rdRep one (n - 1) (one s).2).2) := by
  cases n with
  | zero => omega
  | succ n =>
    conv => lhs; unfold rdRep
    rw [if_pos h.2]
    rfl

theorem wrapPred (n : Nat) (h : 0 < n) (h2 : n ≤ 128) : IntKind.u64.wrap ((n : Int) - 1) = ((n - 1 : Nat) : Int) := by
  rw [show (n : Int) - 1 = ((n - 1 : Nat) : Int) by omega]
  exact wrapU64' (by omega)


set_option maxRecDepth 4000 in
theorem rthI32_ob (p : Bool) (s : RS) (hb : s.1.length ≤ 2 ^ 40) (K : Post) (hK : K (.isl true 1 encI32 (rdList rdI32 s).1) [(0, .cells 103 [.isl p 1 encB (rdList rdI32 s).2.1, .int .i64 ((rdList rdI32 s).2.2 : Int)]), (1, .cells 101 [.ptr 0 0])] 2) :
    CallOb Try.prog 76 [.ptr 0 0, .func 77 [] [.ptr 1 0]] [(0, .cells 103 [.isl p 1 encB s.1, .int .i64 (s.2 : Int)]), (1, .cells 101 [.ptr 0 0])] 2 K := by
  refine contract TrytabOk Try.checked.mixed Try.func76 rfl Try.call76 [0, 1] [.slot 0 21 1 encI32, .frz 0] [4] (res1 Try.results76) Try.ntmps76 rfl ?_
  have hl := rdNum_len 128 s
  have hm := rdNum_le 128 s
  conv => whnf
  refine call_rule [] ?_
  conv => whnf
  refine rnum2_ob p 128 s (by omega) _ ?_
  unfold rdList at hK
  generalize rdNum 128 s = g at hK hl hm
  obtain ⟨n0, s0⟩ := g
  simp only at hK hl hm
  conv => whnf
  generalize ht : rdRep rdI32 n0 s0 = tot at hK
  obtain ⟨tl, tb, tw⟩ := tot
  simp only at hK
  refine loop_rule TrytabOk Try.checked.mixed [0, 1, 5, 6] [0, 1] [.slot 2 21 1 encI32] (T := { x : Nat × List Int × RS // x.1 + x.2.1.length ≤ 128 ∧ x.2.2.1.length ≤ 2 ^ 40 ∧ x.2.1 ++ (rdRep rdI32 x.1 x.2.2).1 = tl ∧ (rdRep rdI32 x.1 x.2.2).2 = (tb, tw) })
    (fun x => [.ptr 0 0, .func 77 [] [.ptr 1 0], .vec 2, .int .u64 (x.1.1 : Int)]) (fun x => [(0, .cells 103 [.isl p 1 encB x.1.2.2.1, .int .i64 (x.1.2.2.2 : Int)]), (1, .cells 101 [.ptr 0 0]), (2, .row 21 1 encI32 x.1.2.1)]) 3 (fun x => x.1.1) ⟨(n0, [], s0), by simp; omega, by simp only; omega, by simp [ht], by simp only [ht]⟩ rfl rfl ?_ ?_
  · conv => whnf
    exact ⟨leTs_refl _, leH_refl _, Nat.le_refl _⟩
  · rintro ⟨⟨n, l, bs, why⟩, h1, h2, h3, h4⟩
    simp only at h1 h2 h3 h4
    conv => whnf
    refine br_intro (fun h => ?_) (fun h => ?_)
    · have h' : 0 < n ∧ why = 0 := by
        revert h
        by_cases a : n = 0 <;> by_cases b : why = 0 <;> simp [a, b] <;> omega
      rw [rdRep_s _ _ _ (by simpa using h')] at h3 h4
      simp only at h3 h4
      conv => whnf
      refine call_rule [] ?_
      conv => whnf
      refine gvecOne_ob p (bs, why) (by simp only; omega) _ ?_
      have hol := rdI32_len (bs, why)
      generalize rdI32 (bs, why) = r at h3 h4 hol
      obtain ⟨y, s'⟩ := r
      simp only at h3 h4 hol
      conv => whnf
      refine ⟨Int, encI32, [y], rfl, build1 y rfl rfl rfl rfl rfl, ?_⟩
      conv => whnf
      refine ⟨[y], rfl, ?_, ?_⟩
      · show (l.length + 1) * 4 ≤ _; omega
      conv => whnf
      refine ⟨⟨(n - 1, l ++ [y], s'), by simp; omega, by simp only; omega, by simp; exact h3, h4⟩, ?_, ⟨leT_refl _, leT_refl _, leT_refl _, ⟨rfl, wrapPred n h'.1 (by omega)⟩, trivial⟩, leH_refl _, Nat.le_refl _⟩
      show n - 1 < n
      omega
    · have h' : ¬ (0 < n ∧ why = 0) := by
        revert h
        by_cases a : n = 0 <;> by_cases b : why = 0 <;> simp [a, b] <;> omega
      rw [rdRep_n _ _ _ (by simpa using h')] at h3 h4
      simp only [List.append_nil] at h3 h4
      subst h3
      cases h4
      conv => whnf
      exact ⟨_, _, _, leT_refl _, leH_refl _, Nat.le_refl _, hK⟩


set_option maxRecDepth 4000 in
theorem rthStr_ob (p : Bool) (s : RS) (hb : s.1.length ≤ 2 ^ 40) (K : Post) (hK : K (.isl true 1 encStr (rdList rdCut s).1) (rdH p (rdList rdCut s).2.1 (rdList rdCut s).2.2) 1) :
    CallOb Try.prog 79 [.ptr 0 0, .func 48 [.ptr 0 0] []] (rdH p s.1 s.2) 1 K := by
  refine contract TrytabOk Try.checked.mixed Try.func79 rfl Try.call79 [0] [.slot 0 9 1 encStr, .frz 0] [4] (res1 Try.results79) Try.ntmps79 rfl ?_
  have hl := rdNum_len 128 s
  have hm := rdNum_le 128 s
  conv => whnf
  refine call_rule [] ?_
  conv => whnf
  refine rnum2_ob p 128 s (by omega) _ ?_
  unfold rdList at hK
  generalize rdNum 128 s = g at hK hl hm
  obtain ⟨n0, s0⟩ := g
  simp only at hK hl hm
  conv => whnf
  generalize ht : rdRep rdCut n0 s0 = tot at hK
  obtain ⟨tl, tb, tw⟩ := tot
  simp only at hK
  refine loop_rule TrytabOk Try.checked.mixed [0, 1, 5, 6] [0] [.slot 2 9 1 encStr] (T := { x : Nat × List (List UInt8) × RS // x.1 + x.2.1.length ≤ 128 ∧ x.2.2.1.length ≤ 2 ^ 40 ∧ x.2.1 ++ (rdRep rdCut x.1 x.2.2).1 = tl ∧ (rdRep rdCut x.1 x.2.2).2 = (tb, tw) })
    (fun x => [.ptr 0 0, .func 48 [.ptr 0 0] [], .vec 1, .int .u64 (x.1.1 : Int)]) (fun x => [(0, .cells 103 [.isl p 1 encB x.1.2.2.1, .int .i64 (x.1.2.2.2 : Int)]), (1, .row 9 1 encStr x.1.2.1)]) 2 (fun x => x.1.1) ⟨(n0, [], s0), by simp; omega, by simp only; omega, by simp [ht], by simp only [ht]⟩ rfl rfl ?_ ?_
  · conv => whnf
    exact ⟨leTs_refl _, leH_refl _, Nat.le_refl _⟩
  · rintro ⟨⟨n, l, bs, why⟩, h1, h2, h3, h4⟩
    simp only at h1 h2 h3 h4
    conv => whnf
    refine br_intro (fun h => ?_) (fun h => ?_)
    · have h' : 0 < n ∧ why = 0 := by
        revert h
        by_cases a : n = 0 <;> by_cases b : why = 0 <;> simp [a, b] <;> omega
      rw [rdRep_s _ _ _ (by simpa using h')] at h3 h4
      simp only at h3 h4
      conv => whnf
      refine call_rule [] ?_
      conv => whnf
      refine gstring_ob p (bs, why) (by simp only; omega) _ ?_
      have hol := rdCut_len (bs, why)
      generalize rdCut (bs, why) = r at h3 h4 hol
      obtain ⟨y, s'⟩ := r
      simp only at h3 h4 hol
      conv => whnf
      refine ⟨(List UInt8), encStr, [y], rfl, build1 y rfl rfl rfl rfl rfl, ?_⟩
      conv => whnf
      refine ⟨[y], rfl, ?_, ?_⟩
      · show (l.length + 1) * 16 ≤ _; omega
      conv => whnf
      refine ⟨⟨(n - 1, l ++ [y], s'), by simp; omega, by simp only; omega, by simp; exact h3, h4⟩, ?_, ⟨leT_refl _, leT_refl _, leT_refl _, ⟨rfl, wrapPred n h'.1 (by omega)⟩, trivial⟩, leH_refl _, Nat.le_refl _⟩
      show n - 1 < n
      omega
    · have h' : ¬ (0 < n ∧ why = 0) := by
        revert h
        by_cases a : n = 0 <;> by_cases b : why = 0 <;> simp [a, b] <;> omega
      rw [rdRep_n _ _ _ (by simpa using h')] at h3 h4
      simp only [List.append_nil] at h3 h4
      subst h3
      cases h4
      conv => whnf
      exact ⟨_, _, _, leT_refl _, leH_refl _, Nat.le_refl _, hK⟩


theorem gvec_ob (p : Bool) (s : RS) (hb : s.1.length ≤ 2 ^ 40) (K : Post) (hK : K (.isl true 1 encI32 (rdList rdI32 s).1) (rdH p (rdList rdI32 s).2.1 (rdList rdI32 s).2.2) 1) :
    CallOb Try.prog 52 [.ptr 0 0] (rdH p s.1 s.2) 1 K := by
  refine contract TrytabOk Try.checked.mixed Try.func52 rfl Try.call52 [0] [] [2] (res1 Try.results52) Try.ntmps52 rfl ?_
  conv => whnf
  refine call_rule [] ?_
  conv => whnf
  refine rthI32_ob p s hb _ ?_
  conv => whnf
  exact ⟨_, _, _, leT_refl _, leH_refl _, Nat.le_refl _, hK⟩

theorem gtexts_ob (p : Bool) (s : RS) (hb : s.1.length ≤ 2 ^ 40) (K : Post) (hK : K (.isl true 1 encStr (rdList rdCut s).1) (rdH p (rdList rdCut s).2.1 (rdList rdCut s).2.2) 1) :
    CallOb Try.prog 54 [.ptr 0 0] (rdH p s.1 s.2) 1 K := by
  refine contract TrytabOk Try.checked.mixed Try.func54 rfl Try.call54 [0] [] [2] (res1 Try.results54) Try.ntmps54 rfl ?_
  conv => whnf
  refine call_rule [] ?_
  conv => whnf
  refine rthStr_ob p s hb _ ?_
  conv => whnf
  exact ⟨_, _, _, leT_refl _, leH_refl _, Nat.le_refl _, hK⟩

set_option maxRecDepth 4000 in
theorem gitem_ob (p : Bool) (s : RS) (hb : s.1.length ≤ 2 ^ 40) (K : Post) (hK : K (encItem (rdItem s).1) (rdH p (rdItem s).2.1 (rdItem s).2.2) 1) :
    CallOb Try.prog 57 [.ptr 0 0] (rdH p s.1 s.2) 1 K := by
  refine contractC TrytabOk Try.checked.mixed Try.func57 rfl Try.call57 [0] [] [.cell 2 58] (resC1 Try.results57) Try.ntmps57 rfl ?_
  have h1 := rdNum_len 4294967295 s
  have h2 := rdList_len rdI32_len (rdNum 4294967295 s).2
  conv => whnf
  refine call_rule [] ?_
  conv => whnf
  refine rsmall_ob p s (by omega) _ ?_
  conv => whnf
  refine call_rule [] ?_
  conv => whnf
  refine gvec_ob p _ (by omega) _ ?_
  conv => whnf
  refine call_rule [] ?_
  conv => whnf
  refine gtexts_ob p _ (by omega) _ ?_
  conv => whnf
  exact ⟨_, _, _, leT_refl _, leH_refl _, Nat.le_refl _, hK⟩

set_option maxRecDepth 4000 in
theorem gchange_ob (p : Bool) (s : RS) (hb : s.1.length ≤ 2 ^ 40) (K : Post) (hK : K (encChg (rdChg s).1) (rdH p (rdChg s).2.1 (rdChg s).2.2) 1) :
    CallOb Try.prog 51 [.ptr 0 0] (rdH p s.1 s.2) 1 K := by
  refine contractC TrytabOk Try.checked.mixed Try.func51 rfl Try.call51 [0] [] [.cell 2 91] (resC1 Try.results51) Try.ntmps51 rfl ?_
  have h1 := rdNum_len 1 s
  conv => whnf
  refine call_rule [] ?_
  conv => whnf
  refine gflag_ob p s (by omega) _ ?_
  conv => whnf
  refine br_dec (fun h => ?_) (fun h => ?_)
  · rw [rdChg, if_pos h] at hK
    conv => whnf
    refine call_rule [] ?_
    conv => whnf
    refine rsmall_ob p _ (by omega) _ ?_
    conv => whnf
    refine ⟨_, _, _, ?_, leH_refl _, Nat.le_refl _, hK⟩
    exact ⟨rfl, leF_refl _, rfl, rfl, trivial⟩
  · rw [rdChg, if_neg h] at hK
    conv => whnf
    refine call_rule [] ?_
    conv => whnf
    refine gitem_ob p _ (by omega) _ ?_
    conv => whnf
    exact ⟨_, _, _, leT_refl _, leH_refl _, Nat.le_refl _, hK⟩

theorem ghit_ob (p : Bool) (s : RS) (hb : s.1.length ≤ 2 ^ 40) (K : Post) (hK : K (encHit (rdHit s).1) (rdH p (rdHit s).2.1 (rdHit s).2.2) 1) :
    CallOb Try.prog 59 [.ptr 0 0] (rdH p s.1 s.2) 1 K := by
  refine contractC TrytabOk Try.checked.mixed Try.func59 rfl Try.call59 [0] [] [.cell 2 107] (resC1 Try.results59) Try.ntmps59 rfl ?_
  have h1 := rdWhole_len (-9223372036854775808) 9223372036854775807 s
  conv => whnf
  refine call_rule [] ?_
  conv => whnf
  refine gwhole_ob p (-9223372036854775808) 9223372036854775807 s (by omega) _ ?_
  conv => whnf
  refine call_rule [] ?_
  conv => whnf
  refine rsmall_ob p _ (by omega) _ ?_
  conv => whnf
  exact ⟨_, _, _, leT_refl _, leH_refl _, Nat.le_refl _, hK⟩


set_option maxRecDepth 4000 in
theorem rthItem_ob (p : Bool) (s : RS) (hb : s.1.length ≤ 2 ^ 40) (K : Post) (hK : K (.isl true 3 encItem (rdList rdItem s).1) (rdH p (rdList rdItem s).2.1 (rdList rdItem s).2.2) 1) :
    CallOb Try.prog 56 [.ptr 0 0, .func 57 [.ptr 0 0] []] (rdH p s.1 s.2) 1 K := by
  refine contract TrytabOk Try.checked.mixed Try.func56 rfl Try.call56 [0] [.slot 0 58 3 encItem, .frz 0] [4] (res1 Try.results56) Try.ntmps56 rfl ?_
  have hl := rdNum_len 128 s
  have hm := rdNum_le 128 s
  conv => whnf
  refine call_rule [] ?_
  conv => whnf
  refine rnum2_ob p 128 s (by omega) _ ?_
  unfold rdList at hK
  generalize rdNum 128 s = g at hK hl hm
  obtain ⟨n0, s0⟩ := g
  simp only at hK hl hm
  conv => whnf
  generalize ht : rdRep rdItem n0 s0 = tot at hK
  obtain ⟨tl, tb, tw⟩ := tot
  simp only at hK
  refine loop_rule TrytabOk Try.checked.mixed [0, 1, 5, 6] [0] [.slot 2 58 3 encItem] (T := { x : Nat × List Item × RS // x.1 + x.2.1.length ≤ 128 ∧ x.2.2.1.length ≤ 2 ^ 40 ∧ x.2.1 ++ (rdRep rdItem x.1 x.2.2).1 = tl ∧ (rdRep rdItem x.1 x.2.2).2 = (tb, tw) })
    (fun x => [.ptr 0 0, .func 57 [.ptr 0 0] [], .vec 1, .int .u64 (x.1.1 : Int)]) (fun x => [(0, .cells 103 [.isl p 1 encB x.1.2.2.1, .int .i64 (x.1.2.2.2 : Int)]), (1, .row 58 3 encItem x.1.2.1)]) 2 (fun x => x.1.1) ⟨(n0, [], s0), by simp; omega, by simp only; omega, by simp [ht], by simp only [ht]⟩ rfl rfl ?_ ?_
  · conv => whnf
    exact ⟨leTs_refl _, leH_refl _, Nat.le_refl _⟩
  · rintro ⟨⟨n, l, bs, why⟩, h1, h2, h3, h4⟩
    simp only at h1 h2 h3 h4
    conv => whnf
    refine br_intro (fun h => ?_) (fun h => ?_)
    · have h' : 0 < n ∧ why = 0 := by
        revert h
        by_cases a : n = 0 <;> by_cases b : why = 0 <;> simp [a, b] <;> omega
      rw [rdRep_s _ _ _ (by simpa using h')] at h3 h4
      simp only at h3 h4
      conv => whnf
      refine call_rule [] ?_
      conv => whnf
      refine gitem_ob p (bs, why) (by simp only; omega) _ ?_
      have hol := rdItem_len (bs, why)
      generalize rdItem (bs, why) = r at h3 h4 hol
      obtain ⟨y, s'⟩ := r
      simp only at h3 h4 hol
      conv => whnf
      refine ⟨Item, encItem, [y], rfl, build1 y rfl rfl rfl rfl rfl, ?_⟩
      conv => whnf
      refine ⟨[y], rfl, ?_, ?_⟩
      · show (l.length + 1) * 56 ≤ _; omega
      conv => whnf
      refine ⟨⟨(n - 1, l ++ [y], s'), by simp; omega, by simp only; omega, by simp; exact h3, h4⟩, ?_, ⟨leT_refl _, leT_refl _, leT_refl _, ⟨rfl, wrapPred n h'.1 (by omega)⟩, trivial⟩, leH_refl _, Nat.le_refl _⟩
      show n - 1 < n
      omega
    · have h' : ¬ (0 < n ∧ why = 0) := by
        revert h
        by_cases a : n = 0 <;> by_cases b : why = 0 <;> simp [a, b] <;> omega
      rw [rdRep_n _ _ _ (by simpa using h')] at h3 h4
      simp only [List.append_nil] at h3 h4
      subst h3
      cases h4
      conv => whnf
      exact ⟨_, _, _, leT_refl _, leH_refl _, Nat.le_refl _, hK⟩


set_option maxRecDepth 4000 in
theorem rthChg_ob (p : Bool) (s : RS) (hb : s.1.length ≤ 2 ^ 40) (K : Post) (hK : K (.isl true 4 encChg (rdList rdChg s).1) (rdH p (rdList rdChg s).2.1 (rdList rdChg s).2.2) 1) :
    CallOb Try.prog 50 [.ptr 0 0, .func 51 [.ptr 0 0] []] (rdH p s.1 s.2) 1 K := by
  refine contract TrytabOk Try.checked.mixed Try.func50 rfl Try.call50 [0] [.slot 0 91 4 encChg, .frz 0] [4] (res1 Try.results50) Try.ntmps50 rfl ?_
  have hl := rdNum_len 128 s
  have hm := rdNum_le 128 s
  conv => whnf
  refine call_rule [] ?_
  conv => whnf
  refine rnum2_ob p 128 s (by omega) _ ?_
  unfold rdList at hK
  generalize rdNum 128 s = g at hK hl hm
  obtain ⟨n0, s0⟩ := g
  simp only at hK hl hm
  conv => whnf
  generalize ht : rdRep rdChg n0 s0 = tot at hK
  obtain ⟨tl, tb, tw⟩ := tot
  simp only at hK
  refine loop_rule TrytabOk Try.checked.mixed [0, 1, 5, 6] [0] [.slot 2 91 4 encChg] (T := { x : Nat × List Chg × RS // x.1 + x.2.1.length ≤ 128 ∧ x.2.2.1.length ≤ 2 ^ 40 ∧ x.2.1 ++ (rdRep rdChg x.1 x.2.2).1 = tl ∧ (rdRep rdChg x.1 x.2.2).2 = (tb, tw) })
    (fun x => [.ptr 0 0, .func 51 [.ptr 0 0] [], .vec 1, .int .u64 (x.1.1 : Int)]) (fun x => [(0, .cells 103 [.isl p 1 encB x.1.2.2.1, .int .i64 (x.1.2.2.2 : Int)]), (1, .row 91 4 encChg x.1.2.1)]) 2 (fun x => x.1.1) ⟨(n0, [], s0), by simp; omega, by simp only; omega, by simp [ht], by simp only [ht]⟩ rfl rfl ?_ ?_
  · conv => whnf
    exact ⟨leTs_refl _, leH_refl _, Nat.le_refl _⟩
  · rintro ⟨⟨n, l, bs, why⟩, h1, h2, h3, h4⟩
    simp only at h1 h2 h3 h4
    conv => whnf
    refine br_intro (fun h => ?_) (fun h => ?_)
    · have h' : 0 < n ∧ why = 0 := by
        revert h
        by_cases a : n = 0 <;> by_cases b : why = 0 <;> simp [a, b] <;> omega
      rw [rdRep_s _ _ _ (by simpa using h')] at h3 h4
      simp only at h3 h4
      conv => whnf
      refine call_rule [] ?_
      conv => whnf
      refine gchange_ob p (bs, why) (by simp only; omega) _ ?_
      have hol := rdChg_len (bs, why)
      generalize rdChg (bs, why) = r at h3 h4 hol
      obtain ⟨y, s'⟩ := r
      simp only at h3 h4 hol
      conv => whnf
      refine ⟨Chg, encChg, [y], rfl, build1 y rfl rfl rfl rfl rfl, ?_⟩
      conv => whnf
      refine ⟨[y], rfl, ?_, ?_⟩
      · show (l.length + 1) * 64 ≤ _; omega
      conv => whnf
      refine ⟨⟨(n - 1, l ++ [y], s'), by simp; omega, by simp only; omega, by simp; exact h3, h4⟩, ?_, ⟨leT_refl _, leT_refl _, leT_refl _, ⟨rfl, wrapPred n h'.1 (by omega)⟩, trivial⟩, leH_refl _, Nat.le_refl _⟩
      show n - 1 < n
      omega
    · have h' : ¬ (0 < n ∧ why = 0) := by
        revert h
        by_cases a : n = 0 <;> by_cases b : why = 0 <;> simp [a, b] <;> omega
      rw [rdRep_n _ _ _ (by simpa using h')] at h3 h4
      simp only [List.append_nil] at h3 h4
      subst h3
      cases h4
      conv => whnf
      exact ⟨_, _, _, leT_refl _, leH_refl _, Nat.le_refl _, hK⟩


set_option maxRecDepth 4000 in
theorem rthHit_ob (p : Bool) (s : RS) (hb : s.1.length ≤ 2 ^ 40) (K : Post) (hK : K (.isl true 2 encHit (rdList rdHit s).1) (rdH p (rdList rdHit s).2.1 (rdList rdHit s).2.2) 1) :
    CallOb Try.prog 58 [.ptr 0 0, .func 59 [.ptr 0 0] []] (rdH p s.1 s.2) 1 K := by
  refine contract TrytabOk Try.checked.mixed Try.func58 rfl Try.call58 [0] [.slot 0 107 2 encHit, .frz 0] [4] (res1 Try.results58) Try.ntmps58 rfl ?_
  have hl := rdNum_len 128 s
  have hm := rdNum_le 128 s
  conv => whnf
  refine call_rule [] ?_
  conv => whnf
  refine rnum2_ob p 128 s (by omega) _ ?_
  unfold rdList at hK
  generalize rdNum 128 s = g at hK hl hm
  obtain ⟨n0, s0⟩ := g
  simp only at hK hl hm
  conv => whnf
  generalize ht : rdRep rdHit n0 s0 = tot at hK
  obtain ⟨tl, tb, tw⟩ := tot
  simp only at hK
  refine loop_rule TrytabOk Try.checked.mixed [0, 1, 5, 6] [0] [.slot 2 107 2 encHit] (T := { x : Nat × List Hit × RS // x.1 + x.2.1.length ≤ 128 ∧ x.2.2.1.length ≤ 2 ^ 40 ∧ x.2.1 ++ (rdRep rdHit x.1 x.2.2).1 = tl ∧ (rdRep rdHit x.1 x.2.2).2 = (tb, tw) })
    (fun x => [.ptr 0 0, .func 59 [.ptr 0 0] [], .vec 1, .int .u64 (x.1.1 : Int)]) (fun x => [(0, .cells 103 [.isl p 1 encB x.1.2.2.1, .int .i64 (x.1.2.2.2 : Int)]), (1, .row 107 2 encHit x.1.2.1)]) 2 (fun x => x.1.1) ⟨(n0, [], s0), by simp; omega, by simp only; omega, by simp [ht], by simp only [ht]⟩ rfl rfl ?_ ?_
  · conv => whnf
    exact ⟨leTs_refl _, leH_refl _, Nat.le_refl _⟩
  · rintro ⟨⟨n, l, bs, why⟩, h1, h2, h3, h4⟩
    simp only at h1 h2 h3 h4
    conv => whnf
    refine br_intro (fun h => ?_) (fun h => ?_)
    · have h' : 0 < n ∧ why = 0 := by
        revert h
        by_cases a : n = 0 <;> by_cases b : why = 0 <;> simp [a, b] <;> omega
      rw [rdRep_s _ _ _ (by simpa using h')] at h3 h4
      simp only at h3 h4
      conv => whnf
      refine call_rule [] ?_
      conv => whnf
      refine ghit_ob p (bs, why) (by simp only; omega) _ ?_
      have hol := rdHit_len (bs, why)
      generalize rdHit (bs, why) = r at h3 h4 hol
      obtain ⟨y, s'⟩ := r
      simp only at h3 h4 hol
      conv => whnf
      refine ⟨Hit, encHit, [y], rfl, build1 y rfl rfl rfl rfl rfl, ?_⟩
      conv => whnf
      refine ⟨[y], rfl, ?_, ?_⟩
      · show (l.length + 1) * 16 ≤ _; omega
      conv => whnf
      refine ⟨⟨(n - 1, l ++ [y], s'), by simp; omega, by simp only; omega, by simp; exact h3, h4⟩, ?_, ⟨leT_refl _, leT_refl _, leT_refl _, ⟨rfl, wrapPred n h'.1 (by omega)⟩, trivial⟩, leH_refl _, Nat.le_refl _⟩
      show n - 1 < n
      omega
    · have h' : ¬ (0 < n ∧ why = 0) := by
        revert h
        by_cases a : n = 0 <;> by_cases b : why = 0 <;> simp [a, b] <;> omega
      rw [rdRep_n _ _ _ (by simpa using h')] at h3 h4
      simp only [List.append_nil] at h3 h4
      subst h3
      cases h4
      conv => whnf
      exact ⟨_, _, _, leT_refl _, leH_refl _, Nat.le_refl _, hK⟩


def rdConf (s : RS) : Conf × RS :=
  let a := rdCut s
  let b := rdNum 255 a.2
  let c := rdNum 1 b.2
  let d := rdNum 1 c.2
  let e := rdNum 255 d.2
  let f := rdNum 65535 e.2
  (⟨a.1, b.1, c.1, decide (d.1 = 1), e.1, f.1⟩, f.2)

theorem rdConf_len (s : RS) : (rdConf s).2.1.length ≤ s.1.length :=
  Nat.le_trans (rdNum_len _ _) (Nat.le_trans (rdNum_len _ _) (Nat.le_trans (rdNum_len _ _) (Nat.le_trans (rdNum_len _ _) (Nat.le_trans (rdNum_len _ _) (rdCut_len s)))))

abbrev confV (c : Conf) : V := .agg [.str c.name, .int .u8 c.dim, .int .u8 c.metric, .bool c.graph, .int .u8 c.links, .int .u16 c.width]

set_option maxRecDepth 4000 in
theorem gconf_ob (p : Bool) (s : RS) (hb : s.1.length ≤ 2 ^ 40) (K : Post) (hK : K (confV (rdConf s).1) (rdH p (rdConf s).2.1 (rdConf s).2.2) 1) :
    CallOb Try.prog 49 [.ptr 0 0] (rdH p s.1 s.2) 1 K := by
  refine contractC TrytabOk Try.checked.mixed Try.func49 rfl Try.call49 [0] [] [.cell 2 33] (resC1 Try.results49) Try.ntmps49 rfl ?_
  have h0 := rdCut_len s
  simp only [rdConf] at hK
  conv => whnf
  refine call_rule [] ?_
  conv => whnf
  refine gstring_ob p s (by omega) _ ?_
  generalize rdCut s = g0 at hK h0 ⊢
  obtain ⟨x0, s0⟩ := g0
  simp only at hK h0
  have h1 := rdNum_len 255 s0
  have m1 := rdNum_le 255 s0
  conv => whnf
  refine call_rule [] ?_
  conv => whnf
  refine gletter_ob p s0 (by omega) _ ?_
  generalize rdNum 255 s0 = g1 at hK h1 m1 ⊢
  obtain ⟨x1, s1⟩ := g1
  simp only at hK h1 m1
  have h2 := rdNum_len 1 s1
  have m2 := rdNum_le 1 s1
  conv => whnf
  refine call_rule [] ?_
  conv => whnf
  refine rnum2_ob p 1 s1 (by omega) _ ?_
  generalize rdNum 1 s1 = g2 at hK h2 m2 ⊢
  obtain ⟨x2, s2⟩ := g2
  simp only at hK h2 m2
  have h3 := rdNum_len 1 s2
  have m3 := rdNum_le 1 s2
  conv => whnf
  refine call_rule [] ?_
  conv => whnf
  refine gflag_ob p s2 (by omega) _ ?_
  generalize rdNum 1 s2 = g3 at hK h3 m3 ⊢
  obtain ⟨x3, s3⟩ := g3
  simp only at hK h3 m3
  have h4 := rdNum_len 255 s3
  have m4 := rdNum_le 255 s3
  conv => whnf
  refine call_rule [] ?_
  conv => whnf
  refine gletter_ob p s3 (by omega) _ ?_
  generalize rdNum 255 s3 = g4 at hK h4 m4 ⊢
  obtain ⟨x4, s4⟩ := g4
  simp only at hK h4 m4
  have h5 := rdNum_len 65535 s4
  have m5 := rdNum_le 65535 s4
  conv => whnf
  refine call_rule [] ?_
  conv => whnf
  refine gshort_ob p s4 (by omega) _ ?_
  generalize rdNum 65535 s4 = g5 at hK h5 m5 ⊢
  obtain ⟨x5, s5⟩ := g5
  simp only at hK h5 m5
  conv => whnf
  refine ⟨_, _, _, ?_, leH_refl _, Nat.le_refl _, hK⟩
  exact ⟨leF_refl _, leF_refl _, ⟨rfl, wrapU8' (by omega)⟩, leF_refl _, leF_refl _, leF_refl _, trivial⟩

end Go.Sx
end

section
open Go.Proofs
namespace Go.Sx
set_option linter.unusedVariables false

/-- a field is read -/
def gField (ch : Nat) (s : RS) (m : Msg) : Msg × RS := if ch = 114 then ({ m with req := (rdNum 4294967295 s).1 }, (rdNum 4294967295 s).2) else if ch = 99 then ({ m with caps := (rdNum 4294967295 s).1 }, (rdNum 4294967295 s).2) else if ch = 116 then ({ m with token := (rdNum 18446744073709551615 s).1 }, (rdNum 18446744073709551615 s).2) else if ch = 101 then ({ m with code := (rdNum 255 s).1 }, (rdNum 255 s).2) else if ch = 110 then ({ m with n := (rdNum 4294967295 s).1 }, (rdNum 4294967295 s).2) else if ch = 78 then ({ m with name := (rdCut s).1 }, (rdCut s).2) else if ch = 67 then ({ m with conf := (rdConf s).1 }, (rdConf s).2) else if ch = 76 then ({ m with changes := (rdList rdChg s).1 }, (rdList rdChg s).2) else if ch = 105 then ({ m with id := (rdNum 4294967295 s).1 }, (rdNum 4294967295 s).2) else if ch = 118 then ({ m with vec := (rdList rdI32 s).1 }, (rdList rdI32 s).2) else if ch = 107 then ({ m with k := (rdNum 65535 s).1 }, (rdNum 65535 s).2) else if ch = 119 then ({ m with width := (rdNum 65535 s).1 }, (rdNum 65535 s).2) else if ch = 102 then ({ m with fall := (rdList rdCut s).1, fany := (rdList rdCut (rdList rdCut s).2).1, fnone := (rdList rdCut (rdList rdCut (rdList rdCut s).2).2).1 }, (rdList rdCut (rdList rdCut (rdList rdCut s).2).2).2) else if ch = 117 then ({ m with num := (rdNum 4294967295 s).1 }, (rdNum 4294967295 s).2) else if ch = 112 then ({ m with page := (rdNum 4294967295 s).1 }, (rdNum 4294967295 s).2) else if ch = 98 then ({ m with bytes := (rdCut s).1 }, (rdCut s).2) else if ch = 86 then ({ m with version := (rdNum 18446744073709551615 s).1 }, (rdNum 18446744073709551615 s).2) else if ch = 83 then ({ m with names := (rdList rdCut s).1 }, (rdList rdCut s).2) else if ch = 73 then ({ m with items := (rdList rdItem s).1 }, (rdList rdItem s).2) else if ch = 72 then ({ m with hits := (rdList rdHit s).1 }, (rdList rdHit s).2) else (m, s)

theorem gField_len (ch : Nat) (s : RS) (m : Msg) : (gField ch s m).2.1.length ≤ s.1.length := by
  unfold gField
  refine iteP (fun x : Msg × RS => x.2.1.length ≤ s.1.length) (rdNum_len _ s) ?_
  refine iteP (fun x : Msg × RS => x.2.1.length ≤ s.1.length) (rdNum_len _ s) ?_
  refine iteP (fun x : Msg × RS => x.2.1.length ≤ s.1.length) (rdNum_len _ s) ?_
  refine iteP (fun x : Msg × RS => x.2.1.length ≤ s.1.length) (rdNum_len _ s) ?_
  refine iteP (fun x : Msg × RS => x.2.1.length ≤ s.1.length) (rdNum_len _ s) ?_
  refine iteP (fun x : Msg × RS => x.2.1.length ≤ s.1.length) (rdCut_len s) ?_
  refine iteP (fun x : Msg × RS => x.2.1.length ≤ s.1.length) (rdConf_len s) ?_
  refine iteP (fun x : Msg × RS => x.2.1.length ≤ s.1.length) (rdList_len rdChg_len s) ?_
  refine iteP (fun x : Msg × RS => x.2.1.length ≤ s.1.length) (rdNum_len _ s) ?_
  refine iteP (fun x : Msg × RS => x.2.1.length ≤ s.1.length) (rdList_len rdI32_len s) ?_
  refine iteP (fun x : Msg × RS => x.2.1.length ≤ s.1.length) (rdNum_len _ s) ?_
  refine iteP (fun x : Msg × RS => x.2.1.length ≤ s.1.length) (rdNum_len _ s) ?_
  refine iteP (fun x : Msg × RS => x.2.1.length ≤ s.1.length) (Nat.le_trans (rdList_len rdCut_len _) (Nat.le_trans (rdList_len rdCut_len _) (rdList_len rdCut_len _))) ?_
  refine iteP (fun x : Msg × RS => x.2.1.length ≤ s.1.length) (rdNum_len _ s) ?_
  refine iteP (fun x : Msg × RS => x.2.1.length ≤ s.1.length) (rdNum_len _ s) ?_
  refine iteP (fun x : Msg × RS => x.2.1.length ≤ s.1.length) (rdCut_len s) ?_
  refine iteP (fun x : Msg × RS => x.2.1.length ≤ s.1.length) (rdNum_len _ s) ?_
  refine iteP (fun x : Msg × RS => x.2.1.length ≤ s.1.length) (rdList_len rdCut_len s) ?_
  refine iteP (fun x : Msg × RS => x.2.1.length ≤ s.1.length) (rdList_len rdItem_len s) ?_
  refine iteP (fun x : Msg × RS => x.2.1.length ≤ s.1.length) (rdList_len rdHit_len s) ?_
  exact Nat.le_refl _

abbrev rmH (p : Bool) (s : RS) (m : Msg) : Hp := [(0, .cells 103 [.isl p 1 encB s.1, .int .i64 (s.2 : Int)]), (1, .cells 42 m.cells)]

set_option maxHeartbeats 1000000 in
set_option maxRecDepth 4000 in
theorem gfield_ob (p : Bool) (ch : Nat) (s : RS) (hb : s.1.length ≤ 2 ^ 40) (m : Msg) (K : Post) (hK : K (.tup []) (rmH p (gField ch s m).2 (gField ch s m).1) 2) :
    CallOb Try.prog 32 [.ptr 0 0, .int .i32 (ch : Int), .ptr 1 0] (rmH p s m) 2 K := by
  refine contract TrytabOk Try.checked.mixed Try.func32 rfl Try.call32 [0, 1] [] [] (res0 Try.results32) Try.ntmps32 rfl ?_
  conv => whnf
  refine br_dec (fun h0 => ?_) (fun h0 => ?_)
  · have h0 : ch = 114 := by omega
    simp only [gField, if_pos h0] at hK
    conv => whnf
    refine call_rule [] ?_
    conv => whnf
    refine rsmall_ob p s (by omega) _ ?_
    conv => whnf
    exact ⟨_, _, _, leT_refl _, leH_refl _, Nat.le_refl _, hK⟩
  have h0 : ¬ ch = 114 := by omega
  conv => whnf
  refine br_dec (fun h1 => ?_) (fun h1 => ?_)
  · have h1 : ch = 99 := by omega
    simp only [gField, if_neg h0, if_pos h1] at hK
    conv => whnf
    refine call_rule [] ?_
    conv => whnf
    refine rsmall_ob p s (by omega) _ ?_
    conv => whnf
    exact ⟨_, _, _, leT_refl _, leH_refl _, Nat.le_refl _, hK⟩
  have h1 : ¬ ch = 99 := by omega
  conv => whnf
  refine br_dec (fun h2 => ?_) (fun h2 => ?_)
  · have h2 : ch = 116 := by omega
    simp only [gField, if_neg h0, if_neg h1, if_pos h2] at hK
    conv => whnf
    refine call_rule [] ?_
    conv => whnf
    refine ggreat_ob p s (by omega) _ ?_
    conv => whnf
    exact ⟨_, _, _, leT_refl _, leH_refl _, Nat.le_refl _, hK⟩
  have h2 : ¬ ch = 116 := by omega
  conv => whnf
  refine br_dec (fun h3 => ?_) (fun h3 => ?_)
  · have h3 : ch = 101 := by omega
    simp only [gField, if_neg h0, if_neg h1, if_neg h2, if_pos h3] at hK
    conv => whnf
    refine call_rule [] ?_
    conv => whnf
    refine gletter_ob p s (by omega) _ ?_
    conv => whnf
    exact ⟨_, _, _, leT_refl _, leH_refl _, Nat.le_refl _, hK⟩
  have h3 : ¬ ch = 101 := by omega
  conv => whnf
  refine br_dec (fun h4 => ?_) (fun h4 => ?_)
  · have h4 : ch = 110 := by omega
    simp only [gField, if_neg h0, if_neg h1, if_neg h2, if_neg h3, if_pos h4] at hK
    conv => whnf
    refine call_rule [] ?_
    conv => whnf
    refine rsmall_ob p s (by omega) _ ?_
    conv => whnf
    exact ⟨_, _, _, leT_refl _, leH_refl _, Nat.le_refl _, hK⟩
  have h4 : ¬ ch = 110 := by omega
  conv => whnf
  refine br_dec (fun h5 => ?_) (fun h5 => ?_)
  · have h5 : ch = 78 := by omega
    simp only [gField, if_neg h0, if_neg h1, if_neg h2, if_neg h3, if_neg h4, if_pos h5] at hK
    conv => whnf
    refine call_rule [] ?_
    conv => whnf
    refine gstring_ob p s (by omega) _ ?_
    conv => whnf
    exact ⟨_, _, _, leT_refl _, leH_refl _, Nat.le_refl _, hK⟩
  have h5 : ¬ ch = 78 := by omega
  conv => whnf
  refine br_dec (fun h6 => ?_) (fun h6 => ?_)
  · have h6 : ch = 67 := by omega
    simp only [gField, if_neg h0, if_neg h1, if_neg h2, if_neg h3, if_neg h4, if_neg h5, if_pos h6] at hK
    conv => whnf
    refine call_rule [] ?_
    conv => whnf
    refine gconf_ob p s (by omega) _ ?_
    conv => whnf
    exact ⟨_, _, _, leT_refl _, leH_refl _, Nat.le_refl _, hK⟩
  have h6 : ¬ ch = 67 := by omega
  conv => whnf
  refine br_dec (fun h7 => ?_) (fun h7 => ?_)
  · have h7 : ch = 76 := by omega
    simp only [gField, if_neg h0, if_neg h1, if_neg h2, if_neg h3, if_neg h4, if_neg h5, if_neg h6, if_pos h7] at hK
    conv => whnf
    refine call_rule [] ?_
    conv => whnf
    refine rthChg_ob p s (by omega) _ ?_
    conv => whnf
    exact ⟨_, _, _, leT_refl _, leH_refl _, Nat.le_refl _, hK⟩
  have h7 : ¬ ch = 76 := by omega
  conv => whnf
  refine br_dec (fun h8 => ?_) (fun h8 => ?_)
  · have h8 : ch = 105 := by omega
    simp only [gField, if_neg h0, if_neg h1, if_neg h2, if_neg h3, if_neg h4, if_neg h5, if_neg h6, if_neg h7, if_pos h8] at hK
    conv => whnf
    refine call_rule [] ?_
    conv => whnf
    refine rsmall_ob p s (by omega) _ ?_
    conv => whnf
    exact ⟨_, _, _, leT_refl _, leH_refl _, Nat.le_refl _, hK⟩
  have h8 : ¬ ch = 105 := by omega
  conv => whnf
  refine br_dec (fun h9 => ?_) (fun h9 => ?_)
  · have h9 : ch = 118 := by omega
    simp only [gField, if_neg h0, if_neg h1, if_neg h2, if_neg h3, if_neg h4, if_neg h5, if_neg h6, if_neg h7, if_neg h8, if_pos h9] at hK
    conv => whnf
    refine call_rule [] ?_
    conv => whnf
    refine gvec_ob p s (by omega) _ ?_
    conv => whnf
    exact ⟨_, _, _, leT_refl _, leH_refl _, Nat.le_refl _, hK⟩
  have h9 : ¬ ch = 118 := by omega
  conv => whnf
  refine br_dec (fun h10 => ?_) (fun h10 => ?_)
  · have h10 : ch = 107 := by omega
    simp only [gField, if_neg h0, if_neg h1, if_neg h2, if_neg h3, if_neg h4, if_neg h5, if_neg h6, if_neg h7, if_neg h8, if_neg h9, if_pos h10] at hK
    conv => whnf
    refine call_rule [] ?_
    conv => whnf
    refine gshort_ob p s (by omega) _ ?_
    conv => whnf
    exact ⟨_, _, _, leT_refl _, leH_refl _, Nat.le_refl _, hK⟩
  have h10 : ¬ ch = 107 := by omega
  conv => whnf
  refine br_dec (fun h11 => ?_) (fun h11 => ?_)
  · have h11 : ch = 119 := by omega
    simp only [gField, if_neg h0, if_neg h1, if_neg h2, if_neg h3, if_neg h4, if_neg h5, if_neg h6, if_neg h7, if_neg h8, if_neg h9, if_neg h10, if_pos h11] at hK
    conv => whnf
    refine call_rule [] ?_
    conv => whnf
    refine gshort_ob p s (by omega) _ ?_
    conv => whnf
    exact ⟨_, _, _, leT_refl _, leH_refl _, Nat.le_refl _, hK⟩
  have h11 : ¬ ch = 119 := by omega
  conv => whnf
  refine br_dec (fun h12 => ?_) (fun h12 => ?_)
  · have h12 : ch = 102 := by omega
    simp only [gField, if_neg h0, if_neg h1, if_neg h2, if_neg h3, if_neg h4, if_neg h5, if_neg h6, if_neg h7, if_neg h8, if_neg h9, if_neg h10, if_neg h11, if_pos h12] at hK
    conv => whnf
    refine call_rule [] ?_
    conv => whnf
    refine gtexts_ob p s (by first | omega | exact Nat.le_trans (rdList_len rdCut_len _) (by omega) | exact Nat.le_trans (rdList_len rdCut_len _) (Nat.le_trans (rdList_len rdCut_len _) (by omega))) _ ?_
    conv => whnf
    refine call_rule [] ?_
    conv => whnf
    refine gtexts_ob p _ (by first | omega | exact Nat.le_trans (rdList_len rdCut_len _) (by omega) | exact Nat.le_trans (rdList_len rdCut_len _) (Nat.le_trans (rdList_len rdCut_len _) (by omega))) _ ?_
    conv => whnf
    refine call_rule [] ?_
    conv => whnf
    refine gtexts_ob p _ (by first | omega | exact Nat.le_trans (rdList_len rdCut_len _) (by omega) | exact Nat.le_trans (rdList_len rdCut_len _) (Nat.le_trans (rdList_len rdCut_len _) (by omega))) _ ?_
    conv => whnf
    exact ⟨_, _, _, leT_refl _, leH_refl _, Nat.le_refl _, hK⟩
  have h12 : ¬ ch = 102 := by omega
  conv => whnf
  refine br_dec (fun h13 => ?_) (fun h13 => ?_)
  · have h13 : ch = 117 := by omega
    simp only [gField, if_neg h0, if_neg h1, if_neg h2, if_neg h3, if_neg h4, if_neg h5, if_neg h6, if_neg h7, if_neg h8, if_neg h9, if_neg h10, if_neg h11, if_neg h12, if_pos h13] at hK
    conv => whnf
    refine call_rule [] ?_
    conv => whnf
    refine rsmall_ob p s (by omega) _ ?_
    conv => whnf
    exact ⟨_, _, _, leT_refl _, leH_refl _, Nat.le_refl _, hK⟩
  have h13 : ¬ ch = 117 := by omega
  conv => whnf
  refine br_dec (fun h14 => ?_) (fun h14 => ?_)
  · have h14 : ch = 112 := by omega
    simp only [gField, if_neg h0, if_neg h1, if_neg h2, if_neg h3, if_neg h4, if_neg h5, if_neg h6, if_neg h7, if_neg h8, if_neg h9, if_neg h10, if_neg h11, if_neg h12, if_neg h13, if_pos h14] at hK
    conv => whnf
    refine call_rule [] ?_
    conv => whnf
    refine rsmall_ob p s (by omega) _ ?_
    conv => whnf
    exact ⟨_, _, _, leT_refl _, leH_refl _, Nat.le_refl _, hK⟩
  have h14 : ¬ ch = 112 := by omega
  conv => whnf
  refine br_dec (fun h15 => ?_) (fun h15 => ?_)
  · have h15 : ch = 98 := by omega
    simp only [gField, if_neg h0, if_neg h1, if_neg h2, if_neg h3, if_neg h4, if_neg h5, if_neg h6, if_neg h7, if_neg h8, if_neg h9, if_neg h10, if_neg h11, if_neg h12, if_neg h13, if_neg h14, if_pos h15] at hK
    conv => whnf
    refine call_rule [] ?_
    conv => whnf
    refine gbytes_ob p s (by omega) _ ?_
    conv => whnf
    exact ⟨_, _, _, leT_refl _, leH_refl _, Nat.le_refl _, hK⟩
  have h15 : ¬ ch = 98 := by omega
  conv => whnf
  refine br_dec (fun h16 => ?_) (fun h16 => ?_)
  · have h16 : ch = 86 := by omega
    simp only [gField, if_neg h0, if_neg h1, if_neg h2, if_neg h3, if_neg h4, if_neg h5, if_neg h6, if_neg h7, if_neg h8, if_neg h9, if_neg h10, if_neg h11, if_neg h12, if_neg h13, if_neg h14, if_neg h15, if_pos h16] at hK
    conv => whnf
    refine call_rule [] ?_
    conv => whnf
    refine ggreat_ob p s (by omega) _ ?_
    conv => whnf
    exact ⟨_, _, _, leT_refl _, leH_refl _, Nat.le_refl _, hK⟩
  have h16 : ¬ ch = 86 := by omega
  conv => whnf
  refine br_dec (fun h17 => ?_) (fun h17 => ?_)
  · have h17 : ch = 83 := by omega
    simp only [gField, if_neg h0, if_neg h1, if_neg h2, if_neg h3, if_neg h4, if_neg h5, if_neg h6, if_neg h7, if_neg h8, if_neg h9, if_neg h10, if_neg h11, if_neg h12, if_neg h13, if_neg h14, if_neg h15, if_neg h16, if_pos h17] at hK
    conv => whnf
    refine call_rule [] ?_
    conv => whnf
    refine gtexts_ob p s (by omega) _ ?_
    conv => whnf
    exact ⟨_, _, _, leT_refl _, leH_refl _, Nat.le_refl _, hK⟩
  have h17 : ¬ ch = 83 := by omega
  conv => whnf
  refine br_dec (fun h18 => ?_) (fun h18 => ?_)
  · have h18 : ch = 73 := by omega
    simp only [gField, if_neg h0, if_neg h1, if_neg h2, if_neg h3, if_neg h4, if_neg h5, if_neg h6, if_neg h7, if_neg h8, if_neg h9, if_neg h10, if_neg h11, if_neg h12, if_neg h13, if_neg h14, if_neg h15, if_neg h16, if_neg h17, if_pos h18] at hK
    conv => whnf
    refine call_rule [] ?_
    conv => whnf
    refine rthItem_ob p s (by omega) _ ?_
    conv => whnf
    exact ⟨_, _, _, leT_refl _, leH_refl _, Nat.le_refl _, hK⟩
  have h18 : ¬ ch = 73 := by omega
  conv => whnf
  refine br_dec (fun h19 => ?_) (fun h19 => ?_)
  · have h19 : ch = 72 := by omega
    simp only [gField, if_neg h0, if_neg h1, if_neg h2, if_neg h3, if_neg h4, if_neg h5, if_neg h6, if_neg h7, if_neg h8, if_neg h9, if_neg h10, if_neg h11, if_neg h12, if_neg h13, if_neg h14, if_neg h15, if_neg h16, if_neg h17, if_neg h18, if_pos h19] at hK
    conv => whnf
    refine call_rule [] ?_
    conv => whnf
    refine rthHit_ob p s (by omega) _ ?_
    conv => whnf
    exact ⟨_, _, _, leT_refl _, leH_refl _, Nat.le_refl _, hK⟩
  have h19 : ¬ ch = 72 := by omega
  conv => whnf
  simp only [gField, if_neg h0, if_neg h1, if_neg h2, if_neg h3, if_neg h4, if_neg h5, if_neg h6, if_neg h7, if_neg h8, if_neg h9, if_neg h10, if_neg h11, if_neg h12, if_neg h13, if_neg h14, if_neg h15, if_neg h16, if_neg h17, if_neg h18, if_neg h19] at hK
  exact ⟨_, _, _, leT_refl _, leH_refl _, Nat.le_refl _, hK⟩

def gRun (l : List UInt8) (x : Msg × RS) : Msg × RS := l.foldl (fun x b => gField b.toNat x.2 x.1) x

def mGetE (r : Msg × RS) : Nat := if 0 < r.2.1.length ∧ r.2.2 = 0 then 60 else r.2.2

/-- a message read: it, or an error's number -/
def mGet (k : Nat) (bs : List UInt8) : Msg × Nat :=
  if (mFields k).2 = true then (if mGetE (gRun (mFields k).1 (Msg.zero k, (bs, 0))) = 0 then ((gRun (mFields k).1 (Msg.zero k, (bs, 0))).1, 0) else (Msg.zero 0, mGetE (gRun (mFields k).1 (Msg.zero k, (bs, 0)))))
  else (Msg.zero 0, 61)

theorem zle0 : leFs [.int .u8 0, .int .u32 0, .int .u32 0, .int .u64 0, .int .u8 0, .int .u32 0, .str [], .str [], .int .u8 0, .int .u8 0, .bool false, .int .u8 0, .int .u16 0, .nils, .int .u32 0, .nils, .int .u16 0, .int .u16 0, .nils, .nils, .nils, .int .u32 0, .int .u32 0, .nils, .int .u64 0, .nils, .nils, .nils] (Msg.zero 0).cells := by
  repeat' first
    | exact trivial
    | exact leF_refl _
    | exact rfl
    | refine And.intro ?_ ?_

theorem zleK (k : Nat) : leFs [.int .u8 k, .int .u32 0, .int .u32 0, .int .u64 0, .int .u8 0, .int .u32 0, .str [], .str [], .int .u8 0, .int .u8 0, .bool false, .int .u8 0, .int .u16 0, .nils, .int .u32 0, .nils, .int .u16 0, .int .u16 0, .nils, .nils, .nils, .int .u32 0, .int .u32 0, .nils, .int .u64 0, .nils, .nils, .nils] (Msg.zero k).cells := by
  repeat' first
    | exact trivial
    | exact leF_refl _
    | exact rfl
    | refine And.intro ?_ ?_

set_option maxHeartbeats 1000000 in
set_option maxRecDepth 8000 in
theorem mget_ob (p : Bool) (k : Nat) (bs : List UInt8) (hb : bs.length ≤ 2 ^ 40) (K : Post) (hK : K (.tup [.agg (mGet k bs).1.cells, .int .i64 ((mGet k bs).2 : Int)]) [] 0) : CallOb Try.prog 20 [.int .u8 (k : Int), .isl p 1 encB bs] [] 0 K := by
  refine contractC TrytabOk Try.checked.mixed Try.func20 rfl Try.call20 [] [] [.cell 4 42, .tmp 5] (resC2 Try.results20) Try.ntmps20 rfl ?_
  conv => whnf
  refine call_rule [] ?_
  conv => whnf
  refine fields_ob k _ ?_
  have hlt := mFields_lt k
  unfold mGet at hK
  generalize mFields k = q at hK hlt ⊢
  obtain ⟨l, ok⟩ := q
  simp only at hK hlt
  cases ok
  · rw [if_neg (by decide)] at hK
    conv => whnf
    refine ⟨_, _, _, ?_, leH_refl _, Nat.le_refl _, hK⟩
    exact ⟨zle0, ⟨rfl, rfl⟩, trivial⟩
  rw [if_pos rfl] at hK
  generalize ht : gRun l (Msg.zero k, (bs, 0)) = tot at hK
  conv => whnf
  refine loop_rule TrytabOk Try.checked.mixed [4, 8, 9, 27] [] [] (T := { x : Nat × Msg × RS // x.1 ≤ l.length ∧ x.2.2.1.length ≤ 2 ^ 40 ∧ gRun (l.drop x.1) x.2 = tot }) (fun x => [.ptr 0 0, .ptr 1 0, .ptr 2 0, .ptr 3 0])
    (fun x => [(0, .cells 42 (Msg.zero 0).cells), (1, .cells 42 x.1.2.1.cells), (2, .cells 103 [.isl p 1 encB x.1.2.2.1, .int .i64 (x.1.2.2.2 : Int)]), (3, .iter l x.1.1)]) 4 (fun x => l.length - x.1.1) ⟨(0, Msg.zero k, (bs, 0)), by simp, by simp only; omega, by simpa using ht⟩ rfl rfl ?_ ?_
  · conv => whnf
    refine ⟨leTs_refl _, ?_, Nat.le_refl _⟩
    exact ⟨rfl, ⟨rfl, zle0⟩, rfl, ⟨rfl, zleK k⟩, rfl, leO_refl _, rfl, leO_refl _, trivial⟩
  · rintro ⟨⟨i, m, s⟩, h1, h2, h3⟩
    simp only at h1 h2 h3
    conv => whnf
    refine br_dec (fun h => ?_) (fun h => ?_)
    · have h : i < l.length := by simpa using h
      intro b hb'
      have hb' : l[i]? = some b := hb'
      refine ⟨hlt.1 b (List.mem_of_getElem? hb'), ?_⟩
      rw [drop_at hb'] at h3
      conv => whnf
      refine call_rule [] ?_
      conv => whnf
      refine gfield_ob p b.toNat s h2 m _ ?_
      have hgl := gField_len b.toNat s m
      conv => whnf
      refine ⟨⟨(i + 1, gField b.toNat s m), by simp only; omega, by simp only; omega, h3⟩, ?_, leTs_refl _, leH_refl _, Nat.le_refl _⟩
      show l.length - (i + 1) < l.length - i
      omega
    · have h : ¬ i < l.length := by simpa using h
      rw [List.drop_of_length_le (by omega)] at h3
      have h3 : (m, s) = tot := h3
      subst h3
      conv => whnf
      refine call_rule [] ?_
      conv => whnf
      refine rend_ob p s.1 s.2 _ ?_
      have he : (if 0 < s.1.length ∧ s.2 = 0 then 60 else s.2) = mGetE (m, s) := rfl
      simp only [he]
      conv => whnf
      refine br_intro (fun h0 => ?_) (fun h0 => ?_)
      · have h0 : ¬ mGetE (m, s) = 0 := by simp at h0; omega
        rw [if_neg h0] at hK
        conv => whnf
        refine ⟨_, _, _, ?_, leH_refl _, Nat.le_refl _, hK⟩
        exact ⟨zle0, ⟨rfl, rfl⟩, trivial⟩
      · have h0 : mGetE (m, s) = 0 := by simp at h0; omega
        rw [if_pos h0] at hK
        conv => whnf
        exact ⟨_, _, _, leT_refl _, leH_refl _, Nat.le_refl _, hK⟩

end Go.Sx
end

section
namespace Go.Sx
set_option linter.unusedVariables false

theorem vgetL_vput (r : List UInt8) : ∀ (n i acc : Nat), i ≤ 9 → n * 128 ^ i < 2 ^ 64 → (n = 0 → i = 0) → vgetL i acc (vput n ++ r) = (acc + n * 128 ^ i, i + (vput n).length, 0) := by
  intro n
  induction n using Nat.strongRecOn with
  | ind n ih =>
    intro i acc hi hn h0
    by_cases h : n < 128
    · rw [vput_lt h]
      have e : (UInt8.ofNat n).toNat = n := by simp; omega
      have h9 : ¬ (i = 9 ∧ 1 < n) := by
        rintro ⟨rfl, h1⟩
        have : 2 * 128 ^ 9 ≤ n * 128 ^ 9 := Nat.mul_le_mul_right _ h1
        omega
      simp only [List.singleton_append, vgetL, e, if_neg h9, if_pos h, List.length_singleton]
      rw [if_neg (by omega), Nat.mod_eq_of_lt h]
    · rw [vput_ge h]
      have hm : n % 128 < 128 := Nat.mod_lt _ (by decide)
      have e : (UInt8.ofNat (n % 128 + 128)).toNat = n % 128 + 128 := by simp; omega
      have h9 : i ≤ 8 := by
        by_cases h9 : i = 9
        · subst h9
          have : 128 * 128 ^ 9 ≤ n * 128 ^ 9 := Nat.mul_le_mul_right _ (by omega)
          omega
        · omega
      have hd : n / 128 * 128 ^ (i + 1) ≤ n * 128 ^ i := by
        rw [Nat.pow_succ, Nat.mul_comm (128 ^ i), ← Nat.mul_assoc]
        exact Nat.mul_le_mul_right _ (by omega)
      have := ih (n / 128) (by omega) (i + 1) (acc + n % 128 * 128 ^ i) (by omega) (by omega) (by omega)
      simp only [List.cons_append, vgetL, e]
      rw [if_neg (by omega), if_neg (by omega), show (n % 128 + 128) % 128 = n % 128 by omega, this]
      have e2 : acc + n % 128 * 128 ^ i + n / 128 * 128 ^ (i + 1) = acc + n * 128 ^ i := by
        rw [Nat.pow_succ, Nat.mul_comm (128 ^ i), ← Nat.mul_assoc, Nat.add_assoc, ← Nat.add_mul]
        congr 2
        omega
      rw [e2]
      simp only [List.length_cons]
      congr 2
      omega

theorem vget_vput (n : Nat) (hn : n < 2 ^ 64) (r : List UInt8) : vget (vput n ++ r) = (n, (vput n).length, 0) := by
  unfold vget
  rw [vgetL_vput r n 0 0 (by omega) (by omega) (by intro; rfl)]
  simp

/-- how many bytes of 128 and more bytes begin with (as many as f) -/
def vcont : Nat → List UInt8 → Nat
  | 0, _ => 0
  | _ + 1, [] => 0
  | f + 1, c :: r => if 128 ≤ c.toNat then vcont f r + 1 else 0

def vdig : List UInt8 → Nat
  | [] => 0
  | c :: r => c.toNat % 128 + 128 * vdig r

def rgetG (i n : Nat) (bs : List UInt8) : Nat × Nat × Nat :=
  let k := vcont (10 - i) bs
  if k = 10 - i then (0, 0, 41) else if i + k = 9 ∧ ∃ c, bs[k]? = some c ∧ 1 < c.toNat then (0, 0, 41) else if k = bs.length then (0, 0, 40)
  else if bs[k]? = some 0 ∧ 0 < i + k then (0, 0, 41) else (n + vdig (bs.take (k + 1)) * 128 ^ i, i + k + 1, 0)

open Classical in
theorem vgetL_rget : ∀ (bs : List UInt8) (i n : Nat), i ≤ 9 →
    vgetL i n bs = (if vcont (10 - i) bs = 10 - i then (0, 0, 41) else if i + vcont (10 - i) bs = 9 ∧ ∃ c, bs[vcont (10 - i) bs]? = some c ∧ 1 < c.toNat then (0, 0, 41) else if vcont (10 - i) bs = bs.length then (0, 0, 40)
      else if bs[vcont (10 - i) bs]? = some 0 ∧ 0 < i + vcont (10 - i) bs then (0, 0, 41) else (n + vdig (bs.take (vcont (10 - i) bs + 1)) * 128 ^ i, i + vcont (10 - i) bs + 1, 0))
  | [], i, n, hi => by
    have e : vcont (10 - i) [] = 0 := by
      rw [show 10 - i = (9 - i) + 1 by omega]; rfl
    rw [e, if_neg (by omega), if_neg (by simp), if_pos (show 0 = ([] : List UInt8).length from rfl)]
    rfl
  | c :: r, i, n, hi => by
    have hc := c.toNat_lt
    have e : vcont (10 - i) (c :: r) = if 128 ≤ c.toNat then vcont (9 - i) r + 1 else 0 := by
      rw [show 10 - i = (9 - i) + 1 by omega]; rfl
    by_cases h : 128 ≤ c.toNat
    · rw [if_pos h] at e
      rw [e]
      by_cases h9 : i = 9
      · subst h9
        rw [if_pos (by simp [vcont])]
        simp only [vgetL]
        rw [if_pos ⟨trivial, by omega⟩]
      · have ih := vgetL_rget r (i + 1) (n + c.toNat % 128 * 128 ^ i) (by omega)
        simp only [vgetL]
        rw [if_neg (by omega), if_neg (by omega), ih, show 10 - (i + 1) = 9 - i by omega]
        simp only [List.getElem?_cons_succ, List.length_cons, List.take_succ_cons, vdig]
        have a1 : (vcont (9 - i) r = 9 - i) = (vcont (9 - i) r + 1 = 10 - i) := by apply propext; omega
        have a2 : i + 1 + vcont (9 - i) r = i + (vcont (9 - i) r + 1) := by omega
        have a3 : (vcont (9 - i) r = r.length) = (vcont (9 - i) r + 1 = r.length + 1) := by apply propext; omega
        have a4 : n + c.toNat % 128 * 128 ^ i + vdig (List.take (vcont (9 - i) r + 1) r) * 128 ^ (i + 1) = n + (c.toNat % 128 + 128 * vdig (List.take (vcont (9 - i) r + 1) r)) * 128 ^ i := by
          rw [Nat.pow_succ, Nat.add_mul, Nat.add_assoc, Nat.mul_comm (128 ^ i) 128, ← Nat.mul_assoc, Nat.mul_comm _ 128]
        simp only [a1, a2, a3, a4]
    · rw [if_neg h] at e
      rw [e]
      simp only [vgetL, Nat.add_zero]
      rw [if_neg (by omega : ¬ 0 = 10 - i)]
      by_cases h9 : i = 9 ∧ 1 < c.toNat
      · rw [if_pos h9, if_pos ⟨h9.1, c, by simp, h9.2⟩]
      · have hno : ¬ (i = 9 ∧ ∃ c', (c :: r)[0]? = some c' ∧ 1 < c'.toNat) := fun hh => by
          obtain ⟨h1, c', h2, h3⟩ := hh
          simp only [List.getElem?_cons_zero, Option.some.injEq] at h2
          subst h2
          exact h9 ⟨h1, h3⟩
        rw [if_neg h9, if_pos (show c.toNat < 128 by omega), if_neg hno, if_neg (by simp : ¬ 0 = (c :: r).length)]
        have z : c.toNat = 0 ↔ c = 0 := by rw [← UInt8.toNat_inj]; rfl
        by_cases h0 : c.toNat = 0 ∧ 0 < i
        · rw [if_pos h0, if_pos ⟨by simp [z.1 h0.1], h0.2⟩]
        · rw [if_neg h0, if_neg (fun hh => h0 ⟨z.2 (by simpa using hh.1), hh.2⟩)]
          simp [vdig]

/-- what is written of the number that bytes stand for is these bytes, just where the last one is not 0 -/
theorem vput_dig : ∀ (bs : List UInt8), (∀ (i : Nat) c, bs[i]? = some c → (128 ≤ c.toNat ↔ i + 1 < bs.length)) → bs ≠ [] → (vput (vdig bs) = bs ↔ ¬ (bs.getLast? = some 0 ∧ 1 < bs.length))
  | [], _, h => absurd rfl h
  | [c], h, _ => by
    have hc := (h 0 c rfl)
    simp only [List.length_singleton] at hc
    have hc : c.toNat < 128 := by omega
    simp only [vdig, Nat.mul_zero, Nat.add_zero, Nat.mod_eq_of_lt hc, List.length_singleton]
    rw [vput_lt hc]
    simp
  | c :: d :: r, h, _ => by
    have hc := (h 0 c rfl)
    simp only [List.length_cons] at hc
    have hc : 128 ≤ c.toNat := by omega
    have hcl := c.toNat_lt
    have ih := vput_dig (d :: r) (fun i x hx => by
      have := h (i + 1) x (by simpa using hx)
      simp only [List.length_cons] at this ⊢
      omega) (by simp)
    have hl : (c :: d :: r).getLast? = (d :: r).getLast? := by simp [List.getLast?_cons_cons]
    rw [hl]
    have e : vdig (c :: d :: r) = c.toNat % 128 + 128 * vdig (d :: r) := rfl
    by_cases hz : vdig (d :: r) = 0
    · -- all that is left is 0
      have hd : ∀ (l : List UInt8), vdig l = 0 → (∀ x ∈ l, x.toNat % 128 = 0) := by
        intro l
        induction l with
        | nil => simp
        | cons x l ih =>
          intro hv y hy
          simp only [vdig] at hv
          simp only [List.mem_cons] at hy
          rcases hy with rfl | hy
          · omega
          · exact ih (by omega) y hy
      have hlast : (d :: r).getLast? = some 0 := by
        obtain ⟨x, hx⟩ : ∃ x, (d :: r).getLast? = some x := ⟨_, List.getLast?_eq_some_getLast (by simp)⟩
        have hm : x ∈ d :: r := List.mem_of_getLast? hx
        have h0 := hd _ hz x hm
        have hi : (c :: d :: r)[r.length + 1]? = some x := by
          rw [List.getLast?_eq_getElem?] at hx
          simpa using hx
        have := h (r.length + 1) x hi
        simp only [List.length_cons] at this
        have : x = 0 := UInt8.toNat_inj.1 (by show _ = 0; omega)
        rw [hx, this]
      rw [e, hz, Nat.mul_zero, Nat.add_zero, vput_lt (by omega)]
      simp [hlast]
    · rw [e, vput_ge (by omega), show (c.toNat % 128 + 128 * vdig (d :: r)) / 128 = vdig (d :: r) by omega, show (c.toNat % 128 + 128 * vdig (d :: r)) % 128 + 128 = c.toNat by omega]
      have ec : UInt8.ofNat c.toNat = c := by simp
      rw [ec, List.cons.injEq]
      simp only [true_and]
      rw [ih]
      by_cases hr : 1 < (d :: r).length
      · simp only [hr, List.length_cons, and_true]
        simp only [List.length_cons] at hr
        constructor
        · rintro h ⟨h1, _⟩; exact h ⟨h1, by omega⟩
        · rintro h ⟨h1, _⟩; exact h ⟨h1, by omega⟩
      · have hr0 : r = [] := by
          cases r with
          | nil => rfl
          | cons y r => simp at hr
        subst hr0
        simp only [List.getLast?_singleton, List.length_cons, List.length_nil]
        constructor
        · rintro _ ⟨h1, _⟩
          simp only [Option.some.injEq] at h1
          subst h1
          exact hz rfl
        · rintro _ ⟨_, h1⟩
          omega

end Go.Sx
end

section
namespace Go.Sx
set_option linter.unusedVariables false

theorem vcont_le : ∀ (f : Nat) (bs : List UInt8), vcont f bs ≤ f ∧ vcont f bs ≤ bs.length
  | 0, _ => by simp [vcont]
  | _ + 1, [] => by simp [vcont]
  | f + 1, c :: r => by
    have := vcont_le f r
    unfold vcont
    split
    · simp only [List.length_cons]; omega
    · simp

theorem vcont_big : ∀ (f : Nat) (bs : List UInt8) (i : Nat) (c : UInt8), i < vcont f bs → bs[i]? = some c → 128 ≤ c.toNat
  | 0, _, i, c, h, _ => by simp [vcont] at h
  | _ + 1, [], i, c, _, h => by simp at h
  | f + 1, d :: r, i, c, h, hc => by
    unfold vcont at h
    split at h
    · rename_i hd
      cases i with
      | zero => simp at hc; subst hc; exact hd
      | succ i => exact vcont_big f r i c (by omega) (by simpa using hc)
    · omega

theorem vcont_end : ∀ (f : Nat) (bs : List UInt8) (c : UInt8), vcont f bs < f → bs[vcont f bs]? = some c → c.toNat < 128
  | 0, _, c, h, _ => by omega
  | _ + 1, [], c, _, h => by simp at h
  | f + 1, d :: r, c, h, hc => by
    unfold vcont at h hc
    split at h
    · rename_i hd
      rw [if_pos hd] at hc
      exact vcont_end f r c (by omega) (by simpa using hc)
    · rename_i hd
      rw [if_neg hd] at hc
      simp at hc
      subst hc
      omega

theorem vdig_lt : ∀ (l : List UInt8), vdig l < 128 ^ l.length
  | [] => by simp [vdig]
  | c :: r => by
    have := vdig_lt r
    simp only [vdig, List.length_cons, Nat.pow_succ]
    omega

theorem vdig_snoc (c : UInt8) : ∀ (l : List UInt8), vdig (l ++ [c]) = vdig l + 128 ^ l.length * (c.toNat % 128)
  | [] => by simp [vdig]
  | d :: r => by
    simp only [List.cons_append, vdig, vdig_snoc c r, List.length_cons, Nat.pow_succ]
    rw [Nat.mul_add, Nat.mul_comm (128 ^ r.length) 128, Nat.mul_assoc, Nat.add_assoc]

theorem vdig_drop (l : List UInt8) (j : Nat) (c : UInt8) (h : l[j]? = some c) : vdig (l.drop j) = c.toNat % 128 + 128 * vdig (l.drop (j + 1)) := by
  rw [drop_at h]
  rfl

theorem vdig_drop_le : ∀ (l : List UInt8) (j : Nat), vdig (l.drop j) ≤ vdig l
  | [], j => by simp
  | c :: r, 0 => Nat.le_refl _
  | c :: r, j + 1 => by
    have := vdig_drop_le r j
    simp only [List.drop_succ_cons, vdig]
    omega

theorem vdig_bound (bs : List UInt8) (k : Nat) (hk : k ≤ 9) (hl : k < bs.length) (h9 : k = 9 → ∀ c, bs[9]? = some c → c.toNat ≤ 1) : vdig (bs.take (k + 1)) < 2 ^ 64 := by
  have e : (bs.take (k + 1)).length = k + 1 := by simp; omega
  by_cases h : k = 9
  · subst h
    have h1 := h9 rfl bs[9] (by simp [hl])
    rw [List.take_succ_eq_append_getElem hl, vdig_snoc]
    have h2 := vdig_lt (bs.take 9)
    have e2 : (bs.take 9).length = 9 := by simp; omega
    rw [e2] at h2 ⊢
    have h3 : bs[9].toNat % 128 ≤ 1 := by omega
    have h4 : 128 ^ 9 * (bs[9].toNat % 128) ≤ 128 ^ 9 * 1 := Nat.mul_le_mul_left _ h3
    omega
  · have h1 := vdig_lt (bs.take (k + 1))
    rw [e] at h1
    have h2 : 128 ^ (k + 1) ≤ 128 ^ 9 := Nat.pow_le_pow_right (by decide) (by omega)
    omega

/-- what the document's reading comes to, where no error is told ahead of its last test -/
theorem vget_rest (bs : List UInt8) (k : Nat) (hk : vcont 10 bs = k) (h10 : ¬ k = 10) (h9 : ¬ (k = 9 ∧ ∃ c, bs[9]? = some c ∧ 1 < c.toNat)) (hl : ¬ k = bs.length) :
    vdig (bs.take (k + 1)) < 2 ^ 64 ∧ vget bs = (if vput (vdig (bs.take (k + 1))) = bs.take (k + 1) then (vdig (bs.take (k + 1)), k + 1, 0) else (0, 0, 41)) := by
  have hle := vcont_le 10 bs
  rw [hk] at hle
  have hkl : k < bs.length := by omega
  refine ⟨vdig_bound bs k (by omega) hkl (fun h c hc => ?_), ?_⟩
  · by_cases hc1 : 1 < c.toNat
    · exact absurd ⟨h, c, hc, hc1⟩ h9
    · omega
  have hv : vget bs = _ := vgetL_rget bs 0 0 (by omega)
  simp only [Nat.sub_zero, hk, Nat.zero_add, Nat.pow_zero, Nat.mul_one] at hv
  rw [if_neg h10, if_neg (fun h => h9 ⟨h.1, by obtain ⟨h1, h2⟩ := h; subst h1; exact h2⟩), if_neg hl] at hv
  have hlen : (bs.take (k + 1)).length = k + 1 := by simp; omega
  have hd := vput_dig (bs.take (k + 1)) (fun i c hc => by
    rw [hlen]
    have hi : i < k + 1 := by
      have := (List.getElem?_eq_some_iff.1 hc).1
      omega
    rw [List.getElem?_take_of_lt hi] at hc
    by_cases hik : i = k
    · subst hik
      have := vcont_end 10 bs c (by omega) (by rw [hk]; exact hc)
      omega
    · have := vcont_big 10 bs i c (by omega) hc
      omega) (by intro h; rw [h] at hlen; simp at hlen)
  have hlast : (bs.take (k + 1)).getLast? = bs[k]? := by
    rw [List.getLast?_eq_getElem?, hlen, List.getElem?_take_of_lt (by omega)]
    rfl
  rw [hlast, hlen] at hd
  rw [hv]
  by_cases hz : bs[k]? = some 0 ∧ 0 < k
  · rw [if_pos hz, if_neg (fun h => hd.1 h ⟨hz.1, by omega⟩)]
  · rw [if_neg hz, if_pos (hd.2 (fun h => hz ⟨h.1, by omega⟩))]

theorem vget_41a (bs : List UInt8) (h : vcont 10 bs = 10) : vget bs = (0, 0, 41) := by
  have hv : vget bs = _ := vgetL_rget bs 0 0 (by omega)
  rw [hv]
  simp only [Nat.sub_zero, h]
  rfl

theorem vget_41b (bs : List UInt8) (h : vcont 10 bs = 9) (c : UInt8) (hc : bs[9]? = some c) (h1 : 1 < c.toNat) : vget bs = (0, 0, 41) := by
  have hv : vget bs = _ := vgetL_rget bs 0 0 (by omega)
  rw [hv]
  simp only [Nat.sub_zero, h, Nat.zero_add]
  rw [if_neg (by omega), if_pos ⟨trivial, c, hc, h1⟩]

theorem vget_40 (bs : List UInt8) (k : Nat) (hk : vcont 10 bs = k) (h10 : ¬ k = 10) (h9 : ¬ (k = 9 ∧ ∃ c, bs[9]? = some c ∧ 1 < c.toNat)) (hl : k = bs.length) : vget bs = (0, 0, 40) := by
  have hv : vget bs = _ := vgetL_rget bs 0 0 (by omega)
  rw [hv]
  simp only [Nat.sub_zero, hk, Nat.zero_add]
  rw [if_neg h10, if_neg (fun h => h9 ⟨h.1, by obtain ⟨h1, h2⟩ := h; subst h1; exact h2⟩), if_pos hl]

theorem vcont_step (bs : List UInt8) (i : Nat) (hi : i < 10) (c : UInt8) (hc : bs[i]? = some c) : vcont (10 - i) (bs.drop i) = if 128 ≤ c.toNat then vcont (10 - (i + 1)) (bs.drop (i + 1)) + 1 else 0 := by
  rw [drop_at hc, show 10 - i = (10 - (i + 1)) + 1 by omega]
  rfl

end Go.Sx
end

section
open Go.Proofs
namespace Go.Sx
set_option linter.unusedVariables false

theorem remB (c : UInt8) : IntKind.u64.wrap ((c.toNat : Int).tmod 128) = ((c.toNat % 128 : Nat) : Int) := by
  rw [show (128 : Int) = ((128 : Nat) : Int) from rfl, tmodNat]
  exact wrapU64' (by omega)

end Go.Sx
end

section
open Go.Proofs
namespace Go.Sx
set_option linter.unusedVariables false

theorem rdCut_eq (s : RS) : rdCut s = (if (rdNum 4096 s).2.2 = 0 then (if (rdNum 4096 s).2.1.length < (rdNum 4096 s).1 then ([], ((rdNum 4096 s).2.1, 40)) else ((rdNum 4096 s).2.1.take (rdNum 4096 s).1, ((rdNum 4096 s).2.1.drop (rdNum 4096 s).1, 0))) else ([], (rdNum 4096 s).2)) := by
  have h0 : ¬ (rdNum 4096 s).2.2 = 0 → (rdNum 4096 s).1 = 0 := by
    unfold rdNum
    repeat' split
    all_goals simp
    all_goals omega
  unfold rdCut
  generalize rdNum 4096 s = g at h0 ⊢
  obtain ⟨n, bs, e⟩ := g
  simp only at h0 ⊢
  by_cases he : e = 0
  · simp only [he, if_true]
  · simp only [he, if_false, h0 he, Nat.not_lt_zero, List.take_zero, List.drop_zero]

theorem wrapSucc (i n : Nat) (h : i + n ≤ 128) : IntKind.i64.wrap ((i : Int) + 1) = ((i + 1 : Nat) : Int) := wrapI64' (m := i + 1) (by omega)


end Go.Sx
end

/- Numbers of Go as plain ones. No condition. varint.Put; no condition. varint.Get; no condition. message's writer; no condition. message's lists; no condition. message's items, changes, hits; no condition. message's lists of items, changes, hits (printed by genlist.py); no condition. message's conf, fields; no condition. message's writer: field, rest (printed by genfield.py); no condition. -/
import Derived.Test.YtlbbdkecjpaglaaFaf

set_option linter.all false

section
namespace Go.Sx

theorem wrapU (k : IntKind) (hk : k.signed = false) (m : Nat) : k.wrap (m : Int) = ((m % 2 ^ k.bits : Nat) : Int) := by
  simp only [IntKind.wrap, hk, Bool.false_and]
  simp

theorem wrapU8 (m : Nat) : IntKind.u8.wrap (m : Int) = ((m % 256 : Nat) : Int) := wrapU .u8 rfl m
theorem wrapU16 (m : Nat) : IntKind.u16.wrap (m : Int) = ((m % 65536 : Nat) : Int) := wrapU .u16 rfl m
theorem wrapU32 (m : Nat) : IntKind.u32.wrap (m : Int) = ((m % 4294967296 : Nat) : Int) := wrapU .u32 rfl m
theorem wrapU64 (m : Nat) : IntKind.u64.wrap (m : Int) = ((m % 18446744073709551616 : Nat) : Int) := wrapU .u64 rfl m

theorem wrapI64 (n : Int) (h1 : -9223372036854775808 ≤ n) (h2 : n < 9223372036854775808) : IntKind.i64.wrap n = n := by
  have e1 : (2 : Int) ^ IntKind.i64.bits = 18446744073709551616 := rfl
  have e2 : (2 : Int) ^ (IntKind.i64.bits - 1) = 9223372036854775808 := rfl
  simp only [IntKind.wrap, e1, e2, show IntKind.i64.signed = true from rfl, Bool.true_and]
  by_cases hn : 0 ≤ n
  · rw [Int.emod_eq_of_lt hn (by omega)]
    rw [if_neg (by simp; omega)]
  · have : n % 18446744073709551616 = n + 18446744073709551616 := by
      rw [← Int.add_emod_right]
      exact Int.emod_eq_of_lt (by omega) (by omega)
    rw [this, if_pos (by simp; omega)]
    omega

theorem ofIntNat (n a : Nat) : BitVec.ofInt n (a : Int) = BitVec.ofNat n a := by
  simp

theorem bitI_or (k : IntKind) (hk : k.signed = false) (a b : Nat) (ha : a < 2 ^ k.bits) (hb : b < 2 ^ k.bits) : bitI .or k a b = ((a ||| b : Nat) : Int) := by
  simp only [bitI, ofIntNat]
  rw [wrapU k hk]
  simp only [BitVec.toNat_or, BitVec.toNat_ofNat, Nat.mod_eq_of_lt ha, Nat.mod_eq_of_lt hb]
  rw [Nat.mod_eq_of_lt (Nat.or_lt_two_pow ha hb)]

theorem bitI_and (k : IntKind) (hk : k.signed = false) (a b : Nat) (ha : a < 2 ^ k.bits) (hb : b < 2 ^ k.bits) : bitI .and k a b = ((a &&& b : Nat) : Int) := by
  simp only [bitI, ofIntNat]
  rw [wrapU k hk]
  simp only [BitVec.toNat_and, BitVec.toNat_ofNat, Nat.mod_eq_of_lt ha, Nat.mod_eq_of_lt hb]
  rw [Nat.mod_eq_of_lt (Nat.lt_of_le_of_lt Nat.and_le_left ha)]

theorem bitI_xor (k : IntKind) (hk : k.signed = false) (a b : Nat) (ha : a < 2 ^ k.bits) (hb : b < 2 ^ k.bits) : bitI .xor k a b = ((a ^^^ b : Nat) : Int) := by
  simp only [bitI, ofIntNat]
  rw [wrapU k hk]
  simp only [BitVec.toNat_xor, BitVec.toNat_ofNat, Nat.mod_eq_of_lt ha, Nat.mod_eq_of_lt hb]
  rw [Nat.mod_eq_of_lt (Nat.xor_lt_two_pow ha hb)]

theorem fdivNat (a b : Nat) : (a : Int).fdiv (b : Int) = ((a / b : Nat) : Int) := by
  rw [Int.fdiv_eq_ediv_of_nonneg _ (by omega)]
  rfl

theorem encB_ofNat (m : Nat) (h : m < 256) : encB (UInt8.ofNat m) = .int .u8 (m : Int) := by
  simp [encB, Nat.mod_eq_of_lt h]

theorem tdivNat (a b : Nat) : (a : Int).tdiv (b : Int) = ((a / b : Nat) : Int) := by
  rw [Int.tdiv_eq_ediv_of_nonneg (by omega)]
  rfl

theorem tmodNat (a b : Nat) : (a : Int).tmod (b : Int) = ((a % b : Nat) : Int) := by
  rw [Int.tmod_eq_emod_of_nonneg (by omega)]
  rfl

theorem addNat (a b : Nat) : (a : Int) + (b : Int) = ((a + b : Nat) : Int) := rfl
theorem mulNat (a b : Nat) : (a : Int) * (b : Int) = ((a * b : Nat) : Int) := rfl

theorem wrapU64' {m : Nat} (h : m < 18446744073709551616) : IntKind.u64.wrap (m : Int) = (m : Int) := by rw [wrapU64, Nat.mod_eq_of_lt h]
theorem wrapU32' {m : Nat} (h : m < 4294967296) : IntKind.u32.wrap (m : Int) = (m : Int) := by rw [wrapU32, Nat.mod_eq_of_lt h]
theorem wrapU16' {m : Nat} (h : m < 65536) : IntKind.u16.wrap (m : Int) = (m : Int) := by rw [wrapU16, Nat.mod_eq_of_lt h]
theorem wrapU8' {m : Nat} (h : m < 256) : IntKind.u8.wrap (m : Int) = (m : Int) := by rw [wrapU8, Nat.mod_eq_of_lt h]
theorem wrapI64' {m : Nat} (h : m < 9223372036854775808) : IntKind.i64.wrap (m : Int) = (m : Int) := wrapI64 _ (by omega) (by omega)

theorem wrapUI (x : Int) : IntKind.u64.wrap (IntKind.i64.wrap x) = x % 18446744073709551616 := by
  have e1 : (2 : Int) ^ IntKind.i64.bits = 18446744073709551616 := rfl
  have e2 : (2 : Int) ^ (IntKind.i64.bits - 1) = 9223372036854775808 := rfl
  have e3 : (2 : Int) ^ IntKind.u64.bits = 18446744073709551616 := rfl
  simp only [IntKind.wrap, e1, e2, e3, show IntKind.u64.signed = false from rfl, show IntKind.i64.signed = true from rfl, Bool.false_and, Bool.true_and, Bool.false_eq_true, if_false]
  split <;> omega

theorem wrapUInt (x : Int) : IntKind.u64.wrap x = x % 18446744073709551616 := by
  have e3 : (2 : Int) ^ IntKind.u64.bits = 18446744073709551616 := rfl
  simp only [IntKind.wrap, e3, show IntKind.u64.signed = false from rfl, Bool.false_and, Bool.false_eq_true, if_false]

theorem xorOnes (a : Nat) (h : a < 18446744073709551616) : bitI .xor .u64 (a : Int) ((18446744073709551615 : Nat) : Int) = ((18446744073709551615 - a : Nat) : Int) := by
  rw [bitI_xor .u64 rfl _ _ h (by decide)]
  congr 1
  have e : (BitVec.ofNat 64 a ^^^ BitVec.allOnes 64 : BitVec 64) = ~~~(BitVec.ofNat 64 a) := BitVec.xor_allOnes
  have e2 := congrArg BitVec.toNat e
  rw [BitVec.toNat_xor, BitVec.toNat_not, BitVec.toNat_ofNat, Nat.mod_eq_of_lt (show a < 2 ^ 64 from h)] at e2
  exact e2

end Go.Sx
end

section
open Go.Proofs
namespace Go.Sx
set_option linter.unusedVariables false
attribute [local irreducible] br

/-- a number's bytes -/
def vput (n : Nat) : List UInt8 := if n < 128 then [UInt8.ofNat n] else UInt8.ofNat (n % 128 + 128) :: vput (n / 128)
termination_by n
decreasing_by omega

theorem vput_lt {n : Nat} (h : n < 128) : vput n = [UInt8.ofNat n] := by rw [vput, if_pos h]
theorem vput_ge {n : Nat} (h : ¬ n < 128) : vput n = UInt8.ofNat (n % 128 + 128) :: vput (n / 128) := by rw [vput, if_neg h]

theorem vput_len : ∀ (k n : Nat), n < 128 ^ (k + 1) → (vput n).length ≤ k + 1
  | 0, n, h => by rw [vput_lt (by omega)]; simp
  | k + 1, n, h => by
    by_cases hn : n < 128
    · rw [vput_lt hn]; simp
    · rw [vput_ge hn]
      have := vput_len k (n / 128) (Nat.div_lt_of_lt_mul (by rw [Nat.pow_succ] at h; omega))
      simp; omega

theorem vput_len10 {n : Nat} (h : n < 2 ^ 64) : (vput n).length ≤ 10 := vput_len 9 n (Nat.lt_of_lt_of_le h (by decide))

theorem vput_pos (n : Nat) : 1 ≤ (vput n).length := by
  by_cases hn : n < 128
  · rw [vput_lt hn]; simp
  · rw [vput_ge hn]; simp

set_option maxRecDepth 20000 in
theorem or128 (m : Nat) : m % 256 ||| 128 = m % 128 + 128 := by
  have : ∀ a < 256, a ||| 128 = a % 128 + 128 := by decide
  rw [this _ (Nat.mod_lt _ (by decide))]
  omega

/-- one number appended -/
theorem one_byte (m : Nat) (n : Int) (h : n = (m : Int)) (hm : m < 256) : V.int .u8 n = encB (UInt8.ofNat m) := by rw [encB_ofNat m hm, h]

set_option maxRecDepth 4000 in
theorem put_ob (n : Nat) (hn : n < 2 ^ 64) (K : Post) (hK : K (.vec 0) [(0, .row 5 1 encB (vput n))] 1) : CallOb Try.prog 16 [.int .u64 n] [] 0 K := by
  refine contract TrytabOk Try.checked.mixed Try.func16 rfl Try.call16 [] [] [2] (res1 Try.results16) Try.ntmps16 rfl ?_
  conv => whnf
  refine loop_rule TrytabOk Try.checked.mixed [0, 3] [] [.slot 1 5 1 encB] (T := { x : Nat × List UInt8 // x.2 ++ vput x.1 = vput n ∧ x.1 < 2 ^ 64 }) (fun x => [.int .u64 x.1.1, .vec 0]) (fun x => [(0, .row 5 1 encB x.1.2)]) 1 (fun x => x.1.1) ⟨(n, []), rfl, hn⟩ rfl rfl ?_ ?_
  · conv => whnf
    exact ⟨leTs_refl _, leH_refl _, Nat.le_refl _⟩
  · rintro ⟨⟨m, bs⟩, h1, h2⟩
    simp only at h1 h2
    have hl := vput_len10 hn
    have hp := vput_pos m
    rw [← h1] at hl
    simp only [List.length_append] at hl
    conv => whnf
    refine br_dec (fun h => ?_) (fun h => ?_)
    · simp only at h
      conv => whnf
      refine ⟨UInt8, encB, [UInt8.ofNat (m % 128 + 128)], rfl, build1 _ rfl rfl rfl rfl ?_, ?_⟩
      · refine one_byte _ _ ?_ (by omega)
        show bitI .or .u8 (IntKind.u8.wrap (m : Int)) ((128 : Nat) : Int) = _
        rw [wrapU8, bitI_or _ rfl _ _ (by show _ < 256; omega) (by decide), or128]
      conv => whnf
      refine ⟨[UInt8.ofNat (m % 128 + 128)], rfl, ?_, ?_⟩
      · simp only [List.length_cons, List.length_nil]; omega
      conv => whnf
      refine ⟨by decide, ?_⟩
      conv => whnf
      refine ⟨⟨(m / 128, bs ++ [UInt8.ofNat (m % 128 + 128)]), ?_, ?_⟩, ?_, ⟨⟨rfl, ?_⟩, rfl, trivial⟩, leH_refl _, Nat.le_refl _⟩
      · simp only
        rw [vput_ge (n := m) (by omega)] at h1
        simp [← h1]
      · simp only; omega
      · show m / 128 < m; omega
      · show (m : Int).fdiv ((128 : Nat) : Int) = _
        rw [fdivNat]
    · simp only at h
      conv => whnf
      refine ⟨UInt8, encB, [UInt8.ofNat m], rfl, build1 _ rfl rfl rfl rfl ?_, ?_⟩
      · refine one_byte _ _ ?_ (by omega)
        show IntKind.u8.wrap (m : Int) = _
        rw [wrapU8]; omega
      conv => whnf
      refine ⟨[UInt8.ofNat m], rfl, ?_, ?_⟩
      · simp only [List.length_cons, List.length_nil]; omega
      conv => whnf
      refine ⟨_, _, _, leT_refl _, leH_refl _, Nat.le_refl _, ?_⟩
      rw [vput_lt (n := m) (by omega)] at h1
      rw [← h1] at hK
      exact hK
/-- zigzag -/
def zig (n : Int) : Nat := if 0 ≤ n then (2 * n).toNat else (-2 * n - 1).toNat

theorem zig_lt {n : Int} (h1 : -9223372036854775808 ≤ n) (h2 : n < 9223372036854775808) : zig n < 2 ^ 64 := by
  unfold zig; split <;> omega

theorem zig_go {n : Int} (h1 : -9223372036854775808 ≤ n) (h2 : n < 9223372036854775808) : bitI .xor .u64 (IntKind.u64.wrap (IntKind.i64.wrap (n * 2 ^ (min (1 : Int).toNat IntKind.i64.bits)))) (IntKind.u64.wrap (n.fdiv (2 ^ (min (63 : Int).toNat IntKind.i64.bits)))) = (zig n : Int) := by
  rw [wrapUI, wrapUInt]
  rw [show (2 : Int) ^ (min (1 : Int).toNat IntKind.i64.bits) = 2 from rfl, show (2 : Int) ^ (min (63 : Int).toNat IntKind.i64.bits) = 9223372036854775808 from rfl]
  by_cases hn : 0 ≤ n
  · have e1 : n * 2 % 18446744073709551616 = ((zig n : Nat) : Int) := by unfold zig; rw [if_pos hn]; omega
    have e2 : n.fdiv 9223372036854775808 % 18446744073709551616 = ((0 : Nat) : Int) := by
      rw [Int.fdiv_eq_ediv_of_nonneg _ (by omega)]; omega
    rw [e1, e2, bitI_xor .u64 rfl _ _ (zig_lt h1 h2) (by decide)]
    simp
  · have hz : zig n = 18446744073709551615 - (n * 2 % 18446744073709551616).toNat := by unfold zig; rw [if_neg hn]; omega
    have e1 : n * 2 % 18446744073709551616 = (((n * 2 % 18446744073709551616).toNat : Nat) : Int) := by omega
    have e2 : n.fdiv 9223372036854775808 % 18446744073709551616 = ((18446744073709551615 : Nat) : Int) := by
      rw [Int.fdiv_eq_ediv_of_nonneg _ (by omega)]; omega
    rw [e1, e2, xorOnes _ (by omega), hz]

set_option maxRecDepth 4000 in
theorem putInt_ob (n : Int) (h1 : -9223372036854775808 ≤ n) (h2 : n < 9223372036854775808) (K : Post) (hK : K (.vec 0) [(0, .row 5 1 encB (vput (zig n)))] 1) : CallOb Try.prog 65 [.int .i64 n] [] 0 K := by
  refine contract TrytabOk Try.checked.mixed Try.func65 rfl Try.call65 [] [] [2] (res1 Try.results65) Try.ntmps65 rfl ?_
  conv => whnf
  refine ⟨by decide, ?_⟩
  conv => whnf
  refine ⟨by decide, ?_⟩
  conv => whnf
  refine call_rule [] ?_
  conv => whnf
  rw [zig_go h1 h2]
  refine put_ob (zig n) (zig_lt h1 h2) _ ?_
  conv => whnf
  exact ⟨_, _, _, leT_refl _, leH_refl _, Nat.le_refl _, hK⟩

end Go.Sx
end

section
open Go.Proofs
namespace Go.Sx
set_option linter.unusedVariables false
attribute [local irreducible] br

/-- a number that bytes begin with: it, how many bytes it has, an error's number -/
def vgetL : Nat → Nat → List UInt8 → Nat × Nat × Nat
  | _, _, [] => (0, 0, 40)
  | i, n, c :: r => if i = 9 ∧ 1 < c.toNat then (0, 0, 41) else if c.toNat < 128 then (if c.toNat = 0 ∧ 0 < i then (0, 0, 41) else (n + c.toNat % 128 * 128 ^ i, i + 1, 0)) else vgetL (i + 1) (n + c.toNat % 128 * 128 ^ i) r

def vget (bs : List UInt8) : Nat × Nat × Nat := vgetL 0 0 bs

theorem and127 (c : Nat) : c &&& 127 = c % 128 := Nat.and_two_pow_sub_one_eq_mod c 7

theorem drop_at {α : Type} {l : List α} {i : Nat} {c : α} (h : l[i]? = some c) : l.drop i = c :: l.drop (i + 1) := by
  have hlt := (List.getElem?_eq_some_iff.1 h).1
  rw [List.drop_eq_getElem_cons hlt]
  congr 1
  rw [List.getElem?_eq_getElem hlt] at h
  simpa using h

theorem or_add {n k m : Nat} (h : n < 128 ^ k) : n ||| m * 128 ^ k = n + m * 128 ^ k := by
  have e : (128 : Nat) ^ k = 2 ^ (7 * k) := by rw [Nat.pow_mul]
  rw [e] at h ⊢
  rw [Nat.or_comm, Nat.mul_comm, ← Nat.two_pow_add_eq_or_of_lt h]
  omega

theorem get_ob (p : Bool) (bs : List UInt8) (hbs : bs.length < 2 ^ 62) (K : Post) (hK : K (.tup [.int .u64 (vget bs).1, .int .i64 (vget bs).2.1, .int .i64 (vget bs).2.2]) [] 0) : CallOb Try.prog 19 [.isl p 1 encB bs] [] 0 K := by
  refine contract TrytabOk Try.checked.mixed Try.func19 rfl Try.call19 [] [] [2, 3, 4] (res3 Try.results19) Try.ntmps19 rfl ?_
  conv => whnf
  refine loop_rule TrytabOk Try.checked.mixed [8, 9, 10, 5] [] [] (T := { x : Nat × Nat // x.1 ≤ bs.length ∧ x.1 ≤ 9 ∧ x.2 < 128 ^ x.1 ∧ vgetL x.1 x.2 (bs.drop x.1) = vget bs }) (fun x => [.isl p 1 encB bs, .int .i64 (bs.length : Int), .int .i64 (x.1.1 : Int), .int .u64 (x.1.2 : Int)]) (fun x => []) 0 (fun x => bs.length - x.1.1) ⟨(0, 0), by simp, by simp, by simp, rfl⟩ rfl rfl ?_ ?_
  · conv => whnf
    exact ⟨leTs_refl _, leH_refl _, Nat.le_refl _⟩
  · rintro ⟨⟨i, n⟩, h1, h2, h3, h4⟩
    simp only at h1 h2 h3 h4
    conv => whnf
    refine br_dec (fun h => ?_) (fun h => ?_)
    · simp only at h
      conv => whnf
      refine ⟨⟨by simp only; omega, by simp only; omega⟩, ?_⟩
      intro c hc
      have hc' : bs[i]? = some c := by simpa using hc
      have hdrop := drop_at hc'
      have hv : vget bs = vgetL i n (c :: bs.drop (i + 1)) := by rw [← h4, hdrop]
      have hcl : c.toNat < 256 := c.toNat_lt
      conv => whnf
      refine br_intro (fun h9 => ?_) (fun h9 => ?_)
      · have h9' : i = 9 ∧ 1 < c.toNat := by
          simp at h9; omega
        conv => whnf
        refine ⟨_, _, _, leT_refl _, leH_refl _, Nat.le_refl _, ?_⟩
        simp only [vgetL, if_pos h9'] at hv
        rw [hv] at hK
        exact hK
      · have h9' : ¬ (i = 9 ∧ 1 < c.toNat) := by
          simp at h9; omega
        have hpw : c.toNat % 128 * 128 ^ i < 2 ^ 64 := by
          by_cases hi : i = 9
          · subst hi
            have : c.toNat % 128 ≤ 1 := by omega
            calc c.toNat % 128 * 128 ^ 9 ≤ 1 * 128 ^ 9 := Nat.mul_le_mul_right _ this
              _ < 2 ^ 64 := by decide
          · calc c.toNat % 128 * 128 ^ i ≤ 127 * 128 ^ 8 := Nat.mul_le_mul (by omega) (Nat.pow_le_pow_right (by decide) (by omega))
              _ < 2 ^ 64 := by decide
        have hnp : n < 2 ^ 64 := Nat.lt_of_lt_of_le h3 (Nat.le_trans (Nat.pow_le_pow_right (by decide) h2) (by decide))
        conv => whnf
        refine ⟨?_, ?_⟩
        · show (0 : Int) ≤ IntKind.i64.wrap (7 * (i : Int))
          rw [show (7 : Int) * (i : Int) = ((7 * i : Nat) : Int) from by omega, wrapI64' (by omega)]
          omega
        have key : (bitI .or .u64 (n : Int) (IntKind.u64.wrap (IntKind.u64.wrap (bitI .and .u8 (c.toNat : Int) 127) * 2 ^ (min (IntKind.i64.wrap (7 * (i : Int))).toNat IntKind.u64.bits)))) = ((n + c.toNat % 128 * 128 ^ i : Nat) : Int) := by
          rw [show (127 : Int) = ((127 : Nat) : Int) from rfl, bitI_and .u8 rfl _ _ hcl (by decide), and127, wrapU64' (by omega)]
          rw [show (7 : Int) * (i : Int) = ((7 * i : Nat) : Int) from by omega, wrapI64' (by omega), Int.toNat_natCast, Nat.min_eq_left (by show 7 * i ≤ 64; omega)]
          rw [show (2 : Int) ^ (7 * i) = ((128 ^ i : Nat) : Int) from by rw [Int.pow_mul]; norm_cast, mulNat, wrapU64' hpw, bitI_or .u64 rfl _ _ hnp hpw, or_add h3]
        have hnew : n + c.toNat % 128 * 128 ^ i < 2 ^ 64 := by
          rw [← or_add h3]; exact Nat.or_lt_two_pow hnp hpw
        conv => whnf
        refine br_dec (fun h128 => ?_) (fun h128 => ?_)
        · have h128' : c.toNat < 128 := by omega
          simp only [vgetL, if_neg h9', if_pos h128'] at hv
          conv => whnf
          refine br_intro (fun h0 => ?_) (fun h0 => ?_)
          · have h0' : c.toNat = 0 ∧ 0 < i := by simp at h0; omega
            rw [if_pos h0'] at hv
            conv => whnf
            refine ⟨_, _, _, leT_refl _, leH_refl _, Nat.le_refl _, ?_⟩
            rw [hv] at hK
            exact hK
          · have h0' : ¬ (c.toNat = 0 ∧ 0 < i) := by simp at h0; omega
            rw [if_neg h0'] at hv
            conv => whnf
            rw [hv] at hK
            refine ⟨_, _, _, ?_, leH_refl _, Nat.le_refl _, hK⟩
            exact ⟨⟨rfl, key⟩, ⟨rfl, wrapI64' (m := i + 1) (by omega)⟩, ⟨rfl, rfl⟩, trivial⟩
        · have h128' : ¬ c.toNat < 128 := by omega
          simp only [vgetL, if_neg h9', if_neg h128'] at hv
          conv => whnf
          have hi9 : i ≠ 9 := fun e => h9' ⟨e, by omega⟩
          refine ⟨⟨(i + 1, n + c.toNat % 128 * 128 ^ i), by simp only; omega, by simp only; omega, ?_, hv.symm⟩, ?_, ⟨leT_refl _, leT_refl _, ⟨rfl, ?_⟩, ⟨rfl, key⟩, trivial⟩, leH_refl _, Nat.le_refl _⟩
          · simp only
            rw [Nat.pow_succ]
            have : c.toNat % 128 * 128 ^ i ≤ 127 * 128 ^ i := Nat.mul_le_mul_right _ (by omega)
            omega
          · show bs.length - (i + 1) < bs.length - i; omega
          · show IntKind.i64.wrap ((i : Int) + 1) = ((i + 1 : Nat) : Int)
            exact wrapI64' (m := i + 1) (by omega)
    · simp only at h
      conv => whnf
      refine ⟨_, _, _, leT_refl _, leH_refl _, Nat.le_refl _, ?_⟩
      rw [List.drop_eq_nil_of_le (by omega)] at h4
      rw [← h4] at hK
      exact hK

/-- zigzag, back -/
def zag (n : Nat) : Int := if n % 2 = 0 then ((n / 2 : Nat) : Int) else -((n / 2 : Nat) : Int) - 1

theorem wrapI64N (m : Nat) (h : m < 18446744073709551616) (h2 : 9223372036854775808 ≤ m) : IntKind.i64.wrap (m : Int) = (m : Int) - 18446744073709551616 := by
  have e1 : (2 : Int) ^ IntKind.i64.bits = 18446744073709551616 := rfl
  have e2 : (2 : Int) ^ (IntKind.i64.bits - 1) = 9223372036854775808 := rfl
  simp only [IntKind.wrap, e1, e2, show IntKind.i64.signed = true from rfl, Bool.true_and]
  rw [Int.emod_eq_of_lt (by omega) (by omega), if_pos (by simp; omega)]

theorem xorI0 (m : Nat) (h : m < 9223372036854775808) : bitI .xor .i64 (m : Int) 0 = (m : Int) := by
  have : bitI .xor .i64 (m : Int) 0 = IntKind.i64.wrap (((BitVec.ofInt 64 (m : Int)) ^^^ (BitVec.ofInt 64 0)).toNat : Int) := rfl
  rw [this, show BitVec.ofInt 64 0 = 0#64 from rfl, BitVec.xor_zero, ofIntNat, BitVec.toNat_ofNat, Nat.mod_eq_of_lt (by omega), wrapI64' h]

theorem xorI1 (m : Nat) (h : m < 9223372036854775808) : bitI .xor .i64 (m : Int) (-1) = -(m : Int) - 1 := by
  have : bitI .xor .i64 (m : Int) (-1) = IntKind.i64.wrap (((BitVec.ofInt 64 (m : Int)) ^^^ (BitVec.ofInt 64 (-1))).toNat : Int) := rfl
  rw [this, show BitVec.ofInt 64 (-1) = BitVec.allOnes 64 from rfl, BitVec.xor_allOnes, ofIntNat, BitVec.toNat_not, BitVec.toNat_ofNat, Nat.mod_eq_of_lt (by omega)]
  rw [wrapI64N _ (by omega) (by omega)]
  omega

theorem vgetL_lt : ∀ (bs : List UInt8) (i n : Nat), i ≤ 9 → n < 128 ^ i → (vgetL i n bs).1 < 2 ^ 64 ∧ (vgetL i n bs).2.1 ≤ i + bs.length ∧ (vgetL i n bs).2.1 ≤ 10
  | [], i, n, hi, hn => by simp [vgetL]
  | c :: r, i, n, hi, hn => by
    have hcl : c.toNat < 256 := c.toNat_lt
    have hnp : n < 2 ^ 64 := Nat.lt_of_lt_of_le hn (Nat.le_trans (Nat.pow_le_pow_right (by decide) hi) (by decide))
    simp only [vgetL]
    split
    · simp
    · rename_i h9
      have hpw : c.toNat % 128 * 128 ^ i < 2 ^ 64 := by
        by_cases hi9 : i = 9
        · subst hi9
          calc c.toNat % 128 * 128 ^ 9 ≤ 1 * 128 ^ 9 := Nat.mul_le_mul_right _ (by omega)
            _ < 2 ^ 64 := by decide
        · calc c.toNat % 128 * 128 ^ i ≤ 127 * 128 ^ 8 := Nat.mul_le_mul (by omega) (Nat.pow_le_pow_right (by decide) (by omega))
            _ < 2 ^ 64 := by decide
      split
      · split
        · simp
        · refine ⟨?_, by simp; try omega, by simp; try omega⟩
          rw [← or_add hn]; exact Nat.or_lt_two_pow hnp hpw
      · have := vgetL_lt r (i + 1) (n + c.toNat % 128 * 128 ^ i) (by omega) (by
          rw [Nat.pow_succ]
          have : c.toNat % 128 * 128 ^ i ≤ 127 * 128 ^ i := Nat.mul_le_mul_right _ (by omega)
          omega)
        simp only [List.length_cons]
        omega

theorem vget_lt (bs : List UInt8) : (vget bs).1 < 2 ^ 64 ∧ (vget bs).2.1 ≤ bs.length ∧ (vget bs).2.1 ≤ 10 := by
  have := vgetL_lt bs 0 0 (by omega) (by decide)
  simpa [vget] using this

theorem and1 (n : Nat) : n &&& 1 = n % 2 := Nat.and_two_pow_sub_one_eq_mod n 1

theorem getInt_ob (p : Bool) (bs : List UInt8) (hbs : bs.length < 2 ^ 62) (K : Post) (hK : K (.tup [.int .i64 (zag (vget bs).1), .int .i64 (vget bs).2.1, .int .i64 (vget bs).2.2]) [] 0) : CallOb Try.prog 86 [.isl p 1 encB bs] [] 0 K := by
  refine contract TrytabOk Try.checked.mixed Try.func86 rfl Try.call86 [] [] [2, 3, 4] (res3 Try.results86) Try.ntmps86 rfl ?_
  conv => whnf
  refine call_rule [] ?_
  conv => whnf
  refine get_ob p bs hbs _ ?_
  conv => whnf
  refine ⟨by decide, ?_⟩
  conv => whnf
  refine ⟨_, _, _, ?_, leH_refl _, Nat.le_refl _, hK⟩
  refine ⟨⟨rfl, ?_⟩, ⟨rfl, rfl⟩, ⟨rfl, rfl⟩, trivial⟩
  have hl := (vget_lt bs).1
  generalize (vget bs).1 = n at hl
  show bitI .xor .i64 (IntKind.i64.wrap ((n : Int).fdiv ((2 : Nat) : Int))) (IntKind.i64.wrap (0 - IntKind.i64.wrap (bitI .and .u64 (n : Int) ((1 : Nat) : Int)))) = zag n
  rw [fdivNat, bitI_and .u64 rfl _ _ hl (by decide), and1, wrapI64' (by omega), wrapI64' (by omega)]
  unfold zag
  by_cases h : n % 2 = 0
  · rw [if_pos h, h]
    exact xorI0 _ (by omega)
  · rw [if_neg h, show n % 2 = 1 from by omega]
    exact xorI1 _ (by omega)

end Go.Sx
end

section
open Go.Proofs
namespace Go.Sx
set_option linter.unusedVariables false
attribute [local irreducible] br

/-- a writer's things -/
abbrev wH (i : Nat) (bs : List UInt8) (bad : Bool) : Hp := [(0, .cells 96 [.vec i, .bool bad]), (i, .row 5 1 encB bs)]

theorem num_ob (n : Nat) (hn : n < 2 ^ 64) (bs : List UInt8) (bad : Bool) (hb : bs.length ≤ 2 ^ 40) (K : Post) (hK : K (.tup []) (wH 2 (bs ++ vput n) bad) 3) : CallOb Try.prog 35 [.ptr 0 0, .int .u64 n] (wH 1 bs bad) 2 K := by
  refine contract TrytabOk Try.checked.mixed Try.func35 rfl Try.call35 [0] [] [] (res0 Try.results35) Try.ntmps35 rfl ?_
  have hl := vput_len10 hn
  have fin : (bs ++ vput n).length ≤ 2 ^ 41 := by simp; omega
  conv => whnf
  refine ⟨?_, ?_, trivial⟩
  · conv => whnf
    refine ⟨?_, trivial⟩
    conv => whnf
    refine call_rule [] ?_
    conv => whnf
    refine put_ob n hn _ ?_
    conv => whnf
    refine ⟨?_, trivial⟩
    conv => whnf
    refine ⟨vput n, rfl, ?_, ?_⟩
    · show (bs.length + (vput n).length) * 1 ≤ _; omega
    conv => whnf
    refine ⟨?_, trivial⟩
    conv => whnf
    exact ⟨_, _, _, leT_refl _, leH_refl _, Nat.le_refl _, hK⟩
  · conv => whnf
    refine call_rule [] ?_
    conv => whnf
    refine put_ob n hn _ ?_
    conv => whnf
    refine ⟨?_, trivial⟩
    conv => whnf
    refine ⟨?_, trivial⟩
    conv => whnf
    refine ⟨vput n, rfl, ?_, ?_⟩
    · show (bs.length + (vput n).length) * 1 ≤ _; omega
    conv => whnf
    refine ⟨?_, trivial⟩
    conv => whnf
    exact ⟨_, _, _, leT_refl _, leH_refl _, Nat.le_refl _, hK⟩

theorem flag_ob (b : Bool) (bs : List UInt8) (bad : Bool) (hb : bs.length ≤ 2 ^ 40) (K : Post) (hK : K (.tup []) (wH 2 (bs ++ vput b.toNat) bad) 3) : CallOb Try.prog 61 [.ptr 0 0, .bool b] (wH 1 bs bad) 2 K := by
  refine contract TrytabOk Try.checked.mixed Try.func61 rfl Try.call61 [0] [] [] (res0 Try.results61) Try.ntmps61 rfl ?_
  conv => whnf
  refine br_intro (fun h => ?_) (fun h => ?_)
  · subst h
    conv => whnf
    refine call_rule [] ?_
    conv => whnf
    refine num_ob 1 (by decide) bs bad hb _ ?_
    conv => whnf
    exact ⟨_, _, _, leT_refl _, leH_refl _, Nat.le_refl _, hK⟩
  · subst h
    conv => whnf
    refine call_rule [] ?_
    conv => whnf
    refine num_ob 0 (by decide) bs bad hb _ ?_
    conv => whnf
    exact ⟨_, _, _, leT_refl _, leH_refl _, Nat.le_refl _, hK⟩

theorem text_ob (s : List UInt8) (hs : s.length ≤ 2 ^ 40) (bs : List UInt8) (bad : Bool) (hb : bs.length ≤ 2 ^ 40) (K : Post)
    (hK : K (.tup []) (wH 2 (if bad || decide (4096 < s.length) then bs else bs ++ vput s.length ++ s) (bad || decide (4096 < s.length))) 3) : CallOb Try.prog 36 [.ptr 0 0, .str s] (wH 1 bs bad) 2 K := by
  refine contract TrytabOk Try.checked.mixed Try.func36 rfl Try.call36 [0] [] [] (res0 Try.results36) Try.ntmps36 rfl ?_
  conv => whnf
  refine br_intro (fun h => ?_) (fun h => ?_)
  · have bb : (bif bad then true else decide ((4096 : Int) < (s.length : Int))) = (bad || decide (4096 < s.length)) := by cases bad <;> simp; omega
    rw [bb] at h
    conv => whnf
    rw [h, if_pos rfl] at hK
    rw [bb, h]
    exact ⟨_, _, _, leT_refl _, leH_refl _, Nat.le_refl _, hK⟩
  · have bb : (bif bad then true else decide ((4096 : Int) < (s.length : Int))) = (bad || decide (4096 < s.length)) := by cases bad <;> simp; omega
    rw [bb] at h
    rw [h, if_neg (by simp)] at hK
    have h2 : s.length ≤ 4096 := by simp at h; omega
    conv => whnf
    refine call_rule [] ?_
    conv => whnf
    rw [bb, h, wrapU64' (by omega)]
    refine num_ob s.length (by omega) bs false hb _ ?_
    have hl := vput_len10 (n := s.length) (by omega)
    conv => whnf
    refine ⟨s, rfl, ?_, ?_⟩
    · show ((bs ++ vput s.length).length + s.length) * 1 ≤ _
      simp; omega
    conv => whnf
    exact ⟨_, _, _, leT_refl _, leH_refl _, Nat.le_refl _, hK⟩

theorem done_ob (bs : List UInt8) (bad : Bool) (K : Post) (h1 : bad = true → K (.tup [.nils, .bool false]) (wH 1 bs true) 2) (h2 : bad = false → K (.tup [.vec 1, .bool true]) (wH 1 bs false) 2) : CallOb Try.prog 30 [.ptr 0 0] (wH 1 bs bad) 2 K := by
  refine contract TrytabOk Try.checked.mixed Try.func30 rfl Try.call30 [0, 1] [] [2, 3] (res2 Try.results30) Try.ntmps30 rfl ?_
  conv => whnf
  refine br_intro (fun h => ?_) (fun h => ?_)
  · subst h
    conv => whnf
    exact ⟨_, _, _, leT_refl _, leH_refl _, Nat.le_refl _, h1 rfl⟩
  · subst h
    conv => whnf
    exact ⟨_, _, _, leT_refl _, leH_refl _, Nat.le_refl _, h2 rfl⟩

end Go.Sx
end

section
open Go.Proofs
namespace Go.Sx
set_option linter.unusedVariables false
attribute [local irreducible] br

theorem vecOne_ob (n : Int) (h1 : -2147483648 ≤ n) (h2 : n < 2147483648) (bs : List UInt8) (bad : Bool) (hb : bs.length ≤ 2 ^ 40) (K : Post)
    (hK : K (.tup []) [(0, .cells 94 [.ptr 1 0]), (1, .cells 96 [.vec 3, .bool bad]), (3, .row 5 1 encB (bs ++ vput (zig n)))] 4) :
    CallOb Try.prog 64 [.int .i32 n, .ptr 0 0] [(0, .cells 94 [.ptr 1 0]), (1, .cells 96 [.vec 2, .bool bad]), (2, .row 5 1 encB bs)] 3 K := by
  refine contract TrytabOk Try.checked.mixed Try.func64 rfl Try.call64 [0, 1] [] [] (res0 Try.results64) Try.ntmps64 rfl ?_
  have e : IntKind.i64.wrap n = n := wrapI64 n (by omega) (by omega)
  have hl := vput_len10 (zig_lt (n := n) (by omega) (by omega))
  have hbd : (bs.length + (vput (zig n)).length) * 1 ≤ 2 ^ 47 := by omega
  conv => whnf
  repeat' first
    | exact ⟨_, _, _, leT_refl _, leH_refl _, Nat.le_refl _, hK⟩
    | (refine ⟨?_, trivial⟩; conv => whnf)
    | (refine ⟨?_, ?_, trivial⟩ <;> conv => whnf)
    | (refine ⟨?_, ?_, ?_, trivial⟩ <;> conv => whnf)
    | (refine call_rule [] ?_; conv => whnf
       rw [e]; refine putInt_ob n (by omega) (by omega) _ ?_; conv => whnf)
    | (refine ⟨vput (zig n), rfl, hbd, ?_⟩; conv => whnf)

/-- a writer's state: its bytes, and whether something can't be written -/
abbrev WS := List UInt8 × Bool

def wList {α : Type} (f : WS → α → WS) (xs : List α) (s : WS) : WS := if s.2 || decide (128 < xs.length) then (s.1, true) else xs.foldl f (s.1 ++ vput xs.length, false)

def encI32 (n : Int) : V := .int .i32 n

def wVecOne (s : WS) (n : Int) : WS := (s.1 ++ vput (zig n), s.2)

theorem foldl_take_succ {α β : Type} (f : β → α → β) (b : β) {xs : List α} {i : Nat} {x : α} (h : xs[i]? = some x) : (xs.take (i + 1)).foldl f b = f ((xs.take i).foldl f b) x := by
  rw [List.take_add_one, h]
  simp [List.foldl_append]

theorem wVec_len {xs : List Int} (hx : ∀ x ∈ xs, -2147483648 ≤ x ∧ x < 2147483648) : ∀ (s : WS), (xs.foldl wVecOne s).1.length ≤ s.1.length + 10 * xs.length := by
  induction xs with
  | nil => intro s; simp
  | cons x l ih =>
    intro s
    have h1 := ih (fun y hy => hx y (by simp [hy])) (wVecOne s x)
    have h2 := vput_len10 (zig_lt (n := x) (by have := hx x (by simp); omega) (by have := hx x (by simp); omega))
    simp only [List.foldl_cons, List.length_cons]
    simp only [wVecOne, List.length_append] at h1 ⊢
    omega

theorem listI32_ob (p : Bool) (xs : List Int) (hx : ∀ x ∈ xs, -2147483648 ≤ x ∧ x < 2147483648) (hxl : xs.length ≤ 2 ^ 40) (bs : List UInt8) (bad : Bool) (hb : bs.length ≤ 2 ^ 39) (K : Post)
    (hK : K (.tup []) [(0, .cells 96 [.vec 3, .bool (wList wVecOne xs (bs, bad)).2]), (1, .cells 94 [.ptr 0 0]), (3, .row 5 1 encB (wList wVecOne xs (bs, bad)).1)] 4) :
    CallOb Try.prog 63 [.ptr 0 0, .isl p 1 encI32 xs, .func 64 [] [.ptr 1 0]] [(0, .cells 96 [.vec 2, .bool bad]), (1, .cells 94 [.ptr 0 0]), (2, .row 5 1 encB bs)] 3 K := by
  refine contract TrytabOk Try.checked.mixed Try.func63 rfl Try.call63 [0, 1] [] [] (res0 Try.results63) Try.ntmps63 rfl ?_
  have bb : (bif bad then true else decide ((128 : Int) < (xs.length : Int))) = (bad || decide (128 < xs.length)) := by cases bad <;> simp; omega
  conv => whnf
  refine br_intro (fun h => ?_) (fun h => ?_)
  · rw [bb] at h
    conv => whnf
    rw [bb, h]
    simp only [wList, h, if_true] at hK
    exact ⟨_, _, _, leT_refl _, leH_refl _, Nat.le_refl _, hK⟩
  · rw [bb] at h
    have h2 : xs.length ≤ 128 := by simp at h; omega
    have h3 : bad = false := by simp at h; exact h.1
    simp only [wList, h, if_neg, Bool.false_eq_true, if_false] at hK
    conv => whnf
    refine call_rule [] ?_
    conv => whnf
    rw [bb, h, wrapU64' (by omega)]
    refine num_ob xs.length (by omega) bs false (by omega) _ ?_
    have hl := vput_len10 (n := xs.length) (by omega)
    conv => whnf
    have hlen : ∀ i, ((xs.take i).foldl wVecOne (bs ++ vput xs.length, false)).1.length ≤ 2 ^ 40 := by
      intro i
      have := wVec_len (xs := xs.take i) (fun x hm => hx x (List.mem_of_mem_take hm)) (bs ++ vput xs.length, false)
      simp only [List.length_append, List.length_take] at this
      omega
    refine loop_rule TrytabOk Try.checked.mixed [2, 29, 30, 31] [0, 1] [] (T := { i : Nat // i ≤ xs.length }) (fun x => [.func 64 [] [.ptr 1 0], .isl p 1 encI32 xs, .int .i64 (xs.length : Int), .int .i64 (x.1 : Int)])
      (fun x => [(0, .cells 96 [.vec 3, .bool ((xs.take x.1).foldl wVecOne (bs ++ vput xs.length, false)).2]), (1, .cells 94 [.ptr 0 0]), (3, .row 5 1 encB ((xs.take x.1).foldl wVecOne (bs ++ vput xs.length, false)).1)]) 4 (fun x => xs.length - x.1) ⟨0, by omega⟩ rfl rfl ?_ ?_
    · conv => whnf
      exact ⟨leTs_refl _, leH_refl _, Nat.le_refl _⟩
    · rintro ⟨i, hi⟩
      conv => whnf
      refine br_dec (fun hlt => ?_) (fun hlt => ?_)
      · simp only at hlt
        conv => whnf
        refine ⟨⟨by simp only; omega, by simp only; omega⟩, ?_⟩
        intro x hxi
        have hxi' : xs[i]? = some x := by simpa using hxi
        have hxb := hx x (List.mem_of_getElem? hxi')
        conv => whnf
        refine call_rule [] ?_
        conv => whnf
        refine vecOne_ob x hxb.1 hxb.2 _ _ (hlen i) _ ?_
        conv => whnf
        refine ⟨⟨i + 1, by omega⟩, ?_, ⟨leT_refl _, leT_refl _, leT_refl _, ⟨rfl, wrapI64' (m := i + 1) (by omega)⟩, trivial⟩, ?_, Nat.le_refl _⟩
        · show xs.length - (i + 1) < xs.length - i; omega
        · simp only [foldl_take_succ wVecOne _ hxi']
          exact leH_refl _
      · simp only at hlt
        have hi' : xs.take i = xs := List.take_of_length_le (by omega)
        conv => whnf
        refine ⟨_, _, _, leT_refl _, ?_, Nat.le_refl _, hK⟩
        simp only [hi']
        exact leH_refl _

theorem wVecs_len {xs : List Int} (hx : ∀ x ∈ xs, -2147483648 ≤ x ∧ x < 2147483648) (s : WS) : (wList wVecOne xs s).1.length ≤ s.1.length + 1290 := by
  unfold wList
  split
  · simp
  · rename_i h
    have := wVec_len hx (s.1 ++ vput xs.length, false)
    simp at h
    have h2 := vput_len10 (n := xs.length) (by omega)
    simp only [List.length_append] at this
    omega

theorem vec_ob (p : Bool) (xs : List Int) (hx : ∀ x ∈ xs, -2147483648 ≤ x ∧ x < 2147483648) (hxl : xs.length ≤ 2 ^ 40) (bs : List UInt8) (bad : Bool) (hb : bs.length ≤ 2 ^ 39) (K : Post)
    (hK : K (.tup []) (wH 2 (wList wVecOne xs (bs, bad)).1 (wList wVecOne xs (bs, bad)).2) 3) : CallOb Try.prog 40 [.ptr 0 0, .isl p 1 encI32 xs] (wH 1 bs bad) 2 K := by
  refine contract TrytabOk Try.checked.mixed Try.func40 rfl Try.call40 [0] [] [] (res0 Try.results40) Try.ntmps40 rfl ?_
  conv => whnf
  refine call_rule [] ?_
  conv => whnf
  refine listI32_ob p xs hx hxl bs bad hb _ ?_
  conv => whnf
  exact ⟨_, _, _, leT_refl _, leH_refl _, Nat.le_refl _, hK⟩

def encStr (s : List UInt8) : V := .str s

/-- a text written -/
def wText (s : WS) (t : List UInt8) : WS := (if s.2 || decide (4096 < t.length) then s.1 else s.1 ++ vput t.length ++ t, s.2 || decide (4096 < t.length))

theorem wText_len (s : WS) (t : List UInt8) : (wText s t).1.length ≤ s.1.length + 4106 := by
  unfold wText
  simp only
  split
  · omega
  · rename_i h
    simp at h
    have h2 := vput_len10 (n := t.length) (by omega)
    simp only [List.length_append]
    omega

theorem fold_len {α : Type} {f : WS → α → WS} {c : Nat} {xs : List α} (hf : ∀ s, ∀ x ∈ xs, (f s x).1.length ≤ s.1.length + c) : ∀ (s : WS), (xs.foldl f s).1.length ≤ s.1.length + c * xs.length := by
  induction xs with
  | nil => intro s; simp
  | cons x l ih =>
    intro s
    have h1 := ih (fun s y hy => hf s y (by simp [hy])) (f s x)
    have h2 := hf s x (by simp)
    simp only [List.foldl_cons, List.length_cons, Nat.mul_succ]
    omega

theorem wList_len {α : Type} {f : WS → α → WS} {c : Nat} {xs : List α} (hf : ∀ s, ∀ x ∈ xs, (f s x).1.length ≤ s.1.length + c) (s : WS) : (wList f xs s).1.length ≤ s.1.length + 10 + c * 128 := by
  unfold wList
  split
  · simp; omega
  · rename_i h
    have := fold_len hf (s.1 ++ vput xs.length, false)
    simp at h
    have h2 := vput_len10 (n := xs.length) (by omega)
    have h3 : c * xs.length ≤ c * 128 := Nat.mul_le_mul_left _ (by omega)
    simp only [List.length_append] at this
    omega

theorem listStr_ob (p : Bool) (xs : List (List UInt8)) (hx : ∀ x ∈ xs, x.length ≤ 2 ^ 40) (hxl : xs.length ≤ 2 ^ 40) (bs : List UInt8) (bad : Bool) (hb : bs.length ≤ 2 ^ 39) (K : Post)
    (hK : K (.tup []) (wH 2 (wList wText xs (bs, bad)).1 (wList wText xs (bs, bad)).2) 3) :
    CallOb Try.prog 80 [.ptr 0 0, .isl p 1 encStr xs, .func 36 [.ptr 0 0] []] (wH 1 bs bad) 2 K := by
  refine contract TrytabOk Try.checked.mixed Try.func80 rfl Try.call80 [0] [] [] (res0 Try.results80) Try.ntmps80 rfl ?_
  have bb : (bif bad then true else decide ((128 : Int) < (xs.length : Int))) = (bad || decide (128 < xs.length)) := by cases bad <;> simp; omega
  conv => whnf
  refine br_intro (fun h => ?_) (fun h => ?_)
  · rw [bb] at h
    conv => whnf
    rw [bb, h]
    simp only [wList, h, if_true] at hK
    exact ⟨_, _, _, leT_refl _, leH_refl _, Nat.le_refl _, hK⟩
  · rw [bb] at h
    have h2 : xs.length ≤ 128 := by simp at h; omega
    have h3 : bad = false := by simp at h; exact h.1
    simp only [wList, h, if_neg, Bool.false_eq_true, if_false] at hK
    conv => whnf
    refine call_rule [] ?_
    conv => whnf
    rw [bb, h, wrapU64' (by omega)]
    refine num_ob xs.length (by omega) bs false (by omega) _ ?_
    have hl := vput_len10 (n := xs.length) (by omega)
    conv => whnf
    have hlen : ∀ i, ((xs.take i).foldl wText (bs ++ vput xs.length, false)).1.length ≤ 2 ^ 40 := by
      intro i
      have := fold_len (f := wText) (c := 4106) (xs := xs.take i) (fun s x _ => wText_len s x) (bs ++ vput xs.length, false)
      simp only [List.length_append, List.length_take] at this
      omega
    refine loop_rule TrytabOk Try.checked.mixed [2, 29, 30, 31] [0] [] (T := { i : Nat // i ≤ xs.length }) (fun x => [.func 36 [.ptr 0 0] [], .isl p 1 encStr xs, .int .i64 (xs.length : Int), .int .i64 (x.1 : Int)])
      (fun x => wH 2 ((xs.take x.1).foldl wText (bs ++ vput xs.length, false)).1 ((xs.take x.1).foldl wText (bs ++ vput xs.length, false)).2) 3 (fun x => xs.length - x.1) ⟨0, by omega⟩ rfl rfl ?_ ?_
    · conv => whnf
      exact ⟨leTs_refl _, leH_refl _, Nat.le_refl _⟩
    · rintro ⟨i, hi⟩
      conv => whnf
      refine br_dec (fun hlt => ?_) (fun hlt => ?_)
      · simp only at hlt
        conv => whnf
        refine ⟨⟨by simp only; omega, by simp only; omega⟩, ?_⟩
        intro x hxi
        have hxi' : xs[i]? = some x := by simpa using hxi
        have hxb := hx x (List.mem_of_getElem? hxi')
        conv => whnf
        refine call_rule [] ?_
        conv => whnf
        refine text_ob x hxb _ _ (hlen i) _ ?_
        conv => whnf
        refine ⟨⟨i + 1, by omega⟩, ?_, ⟨leT_refl _, leT_refl _, leT_refl _, ⟨rfl, wrapI64' (m := i + 1) (by omega)⟩, trivial⟩, ?_, Nat.le_refl _⟩
        · show xs.length - (i + 1) < xs.length - i; omega
        · simp only [foldl_take_succ wText _ hxi']
          exact leH_refl _
      · simp only at hlt
        have hi' : xs.take i = xs := List.take_of_length_le (by omega)
        conv => whnf
        refine ⟨_, _, _, leT_refl _, ?_, Nat.le_refl _, hK⟩
        simp only [hi']
        exact leH_refl _

theorem texts_ob (p : Bool) (xs : List (List UInt8)) (hx : ∀ x ∈ xs, x.length ≤ 2 ^ 40) (hxl : xs.length ≤ 2 ^ 40) (bs : List UInt8) (bad : Bool) (hb : bs.length ≤ 2 ^ 39) (K : Post)
    (hK : K (.tup []) (wH 2 (wList wText xs (bs, bad)).1 (wList wText xs (bs, bad)).2) 3) : CallOb Try.prog 66 [.ptr 0 0, .isl p 1 encStr xs] (wH 1 bs bad) 2 K := by
  refine contract TrytabOk Try.checked.mixed Try.func66 rfl Try.call66 [0] [] [] (res0 Try.results66) Try.ntmps66 rfl ?_
  conv => whnf
  refine call_rule [] ?_
  conv => whnf
  refine listStr_ob p xs hx hxl bs bad hb _ ?_
  conv => whnf
  exact ⟨_, _, _, leT_refl _, leH_refl _, Nat.le_refl _, hK⟩

end Go.Sx
end

section
open Go.Proofs
namespace Go.Sx
set_option linter.unusedVariables false
attribute [local irreducible] br

structure Item where
  id : Nat
  vec : List Int
  tags : List (List UInt8)

structure Item.Ok (x : Item) : Prop where
  id : x.id < 2 ^ 32
  vec : ∀ n ∈ x.vec, -2147483648 ≤ n ∧ n < 2147483648
  vlen : x.vec.length ≤ 2 ^ 40
  tags : ∀ t ∈ x.tags, t.length ≤ 2 ^ 40
  tlen : x.tags.length ≤ 2 ^ 40

def Item.cells (x : Item) : List V := [.int .u32 x.id, .isl true 1 encI32 x.vec, .isl true 1 encStr x.tags]
def encItem (x : Item) : V := .agg [.int .u32 x.id, .isl true 1 encI32 x.vec, .isl true 1 encStr x.tags]

def wItem (s : WS) (x : Item) : WS := wList wText x.tags (wList wVecOne x.vec (s.1 ++ vput x.id, s.2))

theorem wItem_len (s : WS) {x : Item} (hx : x.Ok) : (wItem s x).1.length ≤ s.1.length + 530000 := by
  have h1 := wVecs_len hx.vec (s.1 ++ vput x.id, s.2)
  have h2 := wList_len (f := wText) (c := 4106) (xs := x.tags) (fun s t _ => wText_len s t) (wList wVecOne x.vec (s.1 ++ vput x.id, s.2))
  have h3 := vput_len10 (n := x.id) (by have := hx.id; omega)
  unfold wItem
  simp only [List.length_append] at h1
  omega

theorem filter_ob (a b c : List (List UInt8)) (ha : (∀ x ∈ a, x.length ≤ 2 ^ 40) ∧ a.length ≤ 2 ^ 40) (hb' : (∀ x ∈ b, x.length ≤ 2 ^ 40) ∧ b.length ≤ 2 ^ 40) (hc : (∀ x ∈ c, x.length ≤ 2 ^ 40) ∧ c.length ≤ 2 ^ 40) (bs : List UInt8) (bad : Bool) (hb : bs.length ≤ 2 ^ 38) (K : Post)
    (hK : K (.tup []) (wH 2 (wList wText c (wList wText b (wList wText a (bs, bad)))).1 (wList wText c (wList wText b (wList wText a (bs, bad)))).2) 3) :
    CallOb Try.prog 41 [.ptr 0 0, .agg [.isl true 1 encStr a, .isl true 1 encStr b, .isl true 1 encStr c]] (wH 1 bs bad) 2 K := by
  refine contract TrytabOk Try.checked.mixed Try.func41 rfl Try.call41 [0] [] [] (res0 Try.results41) Try.ntmps41 rfl ?_
  have h1 := wList_len (f := wText) (c := 4106) (xs := a) (fun s t _ => wText_len s t) (bs, bad)
  have h2 := wList_len (f := wText) (c := 4106) (xs := b) (fun s t _ => wText_len s t) (wList wText a (bs, bad))
  simp only at h1
  conv => whnf
  refine call_rule [] ?_
  conv => whnf
  refine texts_ob true a ha.1 ha.2 bs bad (by omega) _ ?_
  conv => whnf
  refine call_rule [] ?_
  conv => whnf
  refine texts_ob true b hb'.1 hb'.2 _ _ (by omega) _ ?_
  conv => whnf
  refine call_rule [] ?_
  conv => whnf
  refine texts_ob true c hc.1 hc.2 _ _ (Nat.le_trans h2 (by omega)) _ ?_
  conv => whnf
  exact ⟨_, _, _, leT_refl _, leH_refl _, Nat.le_refl _, hK⟩

theorem item_ob (x : Item) (hx : x.Ok) (bs : List UInt8) (bad : Bool) (hb : bs.length ≤ 2 ^ 38) (K : Post) (hK : K (.tup []) (wH 2 (wItem (bs, bad) x).1 (wItem (bs, bad) x).2) 3) :
    CallOb Try.prog 62 [.ptr 0 0, .agg [.int .u32 x.id, .isl true 1 encI32 x.vec, .isl true 1 encStr x.tags]] (wH 1 bs bad) 2 K := by
  refine contract TrytabOk Try.checked.mixed Try.func62 rfl Try.call62 [0] [] [] (res0 Try.results62) Try.ntmps62 rfl ?_
  have h0 := hx.id
  have h3 := vput_len10 (n := x.id) (by omega)
  have h1 := wVecs_len hx.vec (bs ++ vput x.id, bad)
  simp only [List.length_append] at h1
  conv => whnf
  refine call_rule [] ?_
  conv => whnf
  rw [wrapU64' (by omega)]
  refine num_ob x.id (by omega) bs bad (by omega) _ ?_
  conv => whnf
  refine call_rule [] ?_
  conv => whnf
  refine vec_ob true x.vec hx.vec hx.vlen _ _ (by simp only [List.length_append]; omega) _ ?_
  conv => whnf
  refine call_rule [] ?_
  conv => whnf
  refine texts_ob true x.tags hx.tags hx.tlen _ _ (Nat.le_trans h1 (by omega)) _ ?_
  conv => whnf
  exact ⟨_, _, _, leT_refl _, leH_refl _, Nat.le_refl _, hK⟩

structure Chg where
  gone : Bool
  item : Item

def encChg (c : Chg) : V := .agg [.bool c.gone, .int .u32 c.item.id, .isl true 1 encI32 c.item.vec, .isl true 1 encStr c.item.tags]

def wChg (s : WS) (c : Chg) : WS := if c.gone then (s.1 ++ vput c.gone.toNat ++ vput c.item.id, s.2 || (decide (0 < c.item.vec.length) || decide (0 < c.item.tags.length))) else wItem (s.1 ++ vput c.gone.toNat, s.2) c.item

theorem wChg_len (s : WS) {c : Chg} (hx : c.item.Ok) : (wChg s c).1.length ≤ s.1.length + 530010 := by
  have h0 := vput_len10 (n := c.gone.toNat) (by cases c.gone <;> decide)
  have h3 := vput_len10 (n := c.item.id) (by have := hx.id; omega)
  unfold wChg
  split
  · simp only [List.length_append]; omega
  · have := wItem_len (s.1 ++ vput c.gone.toNat, s.2) hx
    simp only [List.length_append] at this
    omega

theorem change_ob (c : Chg) (hx : c.item.Ok) (bs : List UInt8) (bad : Bool) (hb : bs.length ≤ 2 ^ 37) (K : Post) (hK : K (.tup []) (wH 2 (wChg (bs, bad) c).1 (wChg (bs, bad) c).2) 3) :
    CallOb Try.prog 39 [.ptr 0 0, .agg [.bool c.gone, .int .u32 c.item.id, .isl true 1 encI32 c.item.vec, .isl true 1 encStr c.item.tags]] (wH 1 bs bad) 2 K := by
  refine contract TrytabOk Try.checked.mixed Try.func39 rfl Try.call39 [0] [] [] (res0 Try.results39) Try.ntmps39 rfl ?_
  have h0 := hx.id
  have h3 := vput_len10 (n := c.item.id) (by omega)
  have h4 := vput_len10 (n := c.gone.toNat) (by cases c.gone <;> decide)
  have h5 : (bs ++ vput c.gone.toNat).length ≤ 2 ^ 38 := by simp only [List.length_append]; omega
  conv => whnf
  refine call_rule [] ?_
  conv => whnf
  refine flag_ob c.gone bs bad (by omega) _ ?_
  conv => whnf
  refine br_intro (fun h => ?_) (fun h => ?_)
  · simp only [wChg, h, if_true] at hK
    conv => whnf
    refine call_rule [] ?_
    conv => whnf
    rw [wrapU64' (by omega)]
    refine num_ob c.item.id (by omega) _ bad (by omega) _ ?_
    conv => whnf
    refine ⟨_, _, _, leT_refl _, ?_, Nat.le_refl _, hK⟩
    have e : (bif (bif bad then true else decide ((0 : Int) < (c.item.vec.length : Int))) then true else decide ((0 : Int) < (c.item.tags.length : Int))) = (bad || (decide (0 < c.item.vec.length) || decide (0 < c.item.tags.length))) := by
      cases bad
      · have e1 : decide ((0 : Int) < (c.item.vec.length : Int)) = decide (0 < c.item.vec.length) := by congr 1; simp
        have e2 : decide ((0 : Int) < (c.item.tags.length : Int)) = decide (0 < c.item.tags.length) := by congr 1; simp
        rw [e1, e2]
        cases decide (0 < c.item.vec.length) <;> simp
      · simp
    refine ⟨rfl, ⟨rfl, rfl, e, trivial⟩, rfl, ⟨rfl, rfl, ?_⟩, trivial⟩
    rw [h]
  · simp only [wChg, h, if_neg, Bool.false_eq_true, if_false] at hK
    rw [h] at h5
    conv => whnf
    refine call_rule [] ?_
    conv => whnf
    rw [h]
    refine item_ob c.item hx _ bad h5 _ ?_
    conv => whnf
    exact ⟨_, _, _, leT_refl _, leH_refl _, Nat.le_refl _, hK⟩

structure Hit where
  dist : Int
  id : Nat

structure Hit.Ok (h : Hit) : Prop where
  d1 : -9223372036854775808 ≤ h.dist
  d2 : h.dist < 9223372036854775808
  id : h.id < 2 ^ 32

def encHit (h : Hit) : V := .agg [.int .i64 h.dist, .int .u32 h.id]

def wHit (s : WS) (h : Hit) : WS := (s.1 ++ vput (zig h.dist) ++ vput h.id, s.2)

theorem wHit_len (s : WS) {h : Hit} (hx : h.Ok) : (wHit s h).1.length ≤ s.1.length + 20 := by
  have h0 := vput_len10 (zig_lt hx.d1 hx.d2)
  have h3 := vput_len10 (n := h.id) (by have := hx.id; omega)
  simp only [wHit, List.length_append]; omega

theorem hit_ob (h : Hit) (hx : h.Ok) (bs : List UInt8) (bad : Bool) (hb : bs.length ≤ 2 ^ 39) (K : Post) (hK : K (.tup []) (wH 2 (wHit (bs, bad) h).1 (wHit (bs, bad) h).2) 3) :
    CallOb Try.prog 69 [.ptr 0 0, .agg [.int .i64 h.dist, .int .u32 h.id]] (wH 1 bs bad) 2 K := by
  refine contract TrytabOk Try.checked.mixed Try.func69 rfl Try.call69 [0] [] [] (res0 Try.results69) Try.ntmps69 rfl ?_
  have h0 := vput_len10 (zig_lt hx.d1 hx.d2)
  have h3 := hx.id
  have hbd : (bs.length + (vput (zig h.dist)).length) * 1 ≤ 2 ^ 47 := by omega
  have hbe : (bs ++ vput (zig h.dist)).length ≤ 2 ^ 40 := by simp only [List.length_append]; omega
  conv => whnf
  repeat' first
    | exact ⟨_, _, _, leT_refl _, leH_refl _, Nat.le_refl _, hK⟩
    | (refine ⟨?_, trivial⟩; conv => whnf)
    | (refine ⟨?_, ?_, trivial⟩ <;> conv => whnf)
    | (refine ⟨?_, ?_, ?_, trivial⟩ <;> conv => whnf)
    | (refine call_rule [] ?_; conv => whnf
       refine putInt_ob h.dist hx.d1 hx.d2 _ ?_; conv => whnf)
    | (refine ⟨vput (zig h.dist), rfl, hbd, ?_⟩; conv => whnf)
    | (refine call_rule [] ?_; conv => whnf
       rw [wrapU64' (by omega)]; refine num_ob h.id (by omega) _ bad hbe _ ?_; conv => whnf)

end Go.Sx
end

section
open Go.Proofs
namespace Go.Sx
set_option linter.unusedVariables false
attribute [local irreducible] br

theorem listItem_ob (p : Bool) (xs : List Item) (hx : ∀ x ∈ xs, x.Ok) (hxl : xs.length ≤ 2 ^ 40) (bs : List UInt8) (bad : Bool) (hb : bs.length ≤ 2 ^ 36) (K : Post)
    (hK : K (.tup []) (wH 2 (wList wItem xs (bs, bad)).1 (wList wItem xs (bs, bad)).2) 3) :
    CallOb Try.prog 67 [.ptr 0 0, .isl p 3 encItem xs, .func 62 [.ptr 0 0] []] (wH 1 bs bad) 2 K := by
  refine contract TrytabOk Try.checked.mixed Try.func67 rfl Try.call67 [0] [] [] (res0 Try.results67) Try.ntmps67 rfl ?_
  have bb : (bif bad then true else decide ((128 : Int) < (xs.length : Int))) = (bad || decide (128 < xs.length)) := by cases bad <;> simp; omega
  conv => whnf
  refine br_intro (fun h => ?_) (fun h => ?_)
  · rw [bb] at h
    conv => whnf
    rw [bb, h]
    simp only [wList, h, if_true] at hK
    exact ⟨_, _, _, leT_refl _, leH_refl _, Nat.le_refl _, hK⟩
  · rw [bb] at h
    have h2 : xs.length ≤ 128 := by simp at h; omega
    have h3 : bad = false := by simp at h; exact h.1
    simp only [wList, h, if_neg, Bool.false_eq_true, if_false] at hK
    conv => whnf
    refine call_rule [] ?_
    conv => whnf
    rw [bb, h, wrapU64' (by omega)]
    refine num_ob xs.length (by omega) bs false (by omega) _ ?_
    have hl := vput_len10 (n := xs.length) (by omega)
    conv => whnf
    have hlen : ∀ i, ((xs.take i).foldl wItem (bs ++ vput xs.length, false)).1.length ≤ 2 ^ 37 := by
      intro i
      have := fold_len (f := wItem) (c := 530000) (xs := xs.take i) (fun s x hm => wItem_len s (hx x (List.mem_of_mem_take hm))) (bs ++ vput xs.length, false)
      simp only [List.length_append, List.length_take] at this
      omega
    refine loop_rule TrytabOk Try.checked.mixed [2, 29, 30, 31] [0] [] (T := { i : Nat // i ≤ xs.length }) (fun x => [.func 62 [.ptr 0 0] [], .isl p 3 encItem xs, .int .i64 (xs.length : Int), .int .i64 (x.1 : Int)])
      (fun x => wH 2 ((xs.take x.1).foldl wItem (bs ++ vput xs.length, false)).1 ((xs.take x.1).foldl wItem (bs ++ vput xs.length, false)).2) 3 (fun x => xs.length - x.1) ⟨0, by omega⟩ rfl rfl ?_ ?_
    · conv => whnf
      exact ⟨leTs_refl _, leH_refl _, Nat.le_refl _⟩
    · rintro ⟨i, hi⟩
      conv => whnf
      refine br_dec (fun hlt => ?_) (fun hlt => ?_)
      · simp only at hlt
        conv => whnf
        refine ⟨⟨by simp only; omega, by simp only; omega⟩, ?_⟩
        intro x hxi
        have hxi' : xs[i]? = some x := by simpa using hxi
        have hxb := hx x (List.mem_of_getElem? hxi')
        conv => whnf
        refine call_rule [] ?_
        conv => whnf
        refine item_ob x hxb _ _ (Nat.le_trans (hlen i) (by decide)) _ ?_
        conv => whnf
        refine ⟨⟨i + 1, by omega⟩, ?_, ⟨leT_refl _, leT_refl _, leT_refl _, ⟨rfl, wrapI64' (m := i + 1) (by omega)⟩, trivial⟩, ?_, Nat.le_refl _⟩
        · show xs.length - (i + 1) < xs.length - i; omega
        · simp only [foldl_take_succ wItem _ hxi']
          exact leH_refl _
      · simp only at hlt
        have hi' : xs.take i = xs := List.take_of_length_le (by omega)
        conv => whnf
        refine ⟨_, _, _, leT_refl _, ?_, Nat.le_refl _, hK⟩
        simp only [hi']
        exact leH_refl _


theorem listChg_ob (p : Bool) (xs : List Chg) (hx : ∀ x ∈ xs, x.item.Ok) (hxl : xs.length ≤ 2 ^ 40) (bs : List UInt8) (bad : Bool) (hb : bs.length ≤ 2 ^ 36) (K : Post)
    (hK : K (.tup []) (wH 2 (wList wChg xs (bs, bad)).1 (wList wChg xs (bs, bad)).2) 3) :
    CallOb Try.prog 38 [.ptr 0 0, .isl p 4 encChg xs, .func 39 [.ptr 0 0] []] (wH 1 bs bad) 2 K := by
  refine contract TrytabOk Try.checked.mixed Try.func38 rfl Try.call38 [0] [] [] (res0 Try.results38) Try.ntmps38 rfl ?_
  have bb : (bif bad then true else decide ((128 : Int) < (xs.length : Int))) = (bad || decide (128 < xs.length)) := by cases bad <;> simp; omega
  conv => whnf
  refine br_intro (fun h => ?_) (fun h => ?_)
  · rw [bb] at h
    conv => whnf
    rw [bb, h]
    simp only [wList, h, if_true] at hK
    exact ⟨_, _, _, leT_refl _, leH_refl _, Nat.le_refl _, hK⟩
  · rw [bb] at h
    have h2 : xs.length ≤ 128 := by simp at h; omega
    have h3 : bad = false := by simp at h; exact h.1
    simp only [wList, h, if_neg, Bool.false_eq_true, if_false] at hK
    conv => whnf
    refine call_rule [] ?_
    conv => whnf
    rw [bb, h, wrapU64' (by omega)]
    refine num_ob xs.length (by omega) bs false (by omega) _ ?_
    have hl := vput_len10 (n := xs.length) (by omega)
    conv => whnf
    have hlen : ∀ i, ((xs.take i).foldl wChg (bs ++ vput xs.length, false)).1.length ≤ 2 ^ 37 := by
      intro i
      have := fold_len (f := wChg) (c := 530010) (xs := xs.take i) (fun s x hm => wChg_len s (hx x (List.mem_of_mem_take hm))) (bs ++ vput xs.length, false)
      simp only [List.length_append, List.length_take] at this
      omega
    refine loop_rule TrytabOk Try.checked.mixed [2, 29, 30, 31] [0] [] (T := { i : Nat // i ≤ xs.length }) (fun x => [.func 39 [.ptr 0 0] [], .isl p 4 encChg xs, .int .i64 (xs.length : Int), .int .i64 (x.1 : Int)])
      (fun x => wH 2 ((xs.take x.1).foldl wChg (bs ++ vput xs.length, false)).1 ((xs.take x.1).foldl wChg (bs ++ vput xs.length, false)).2) 3 (fun x => xs.length - x.1) ⟨0, by omega⟩ rfl rfl ?_ ?_
    · conv => whnf
      exact ⟨leTs_refl _, leH_refl _, Nat.le_refl _⟩
    · rintro ⟨i, hi⟩
      conv => whnf
      refine br_dec (fun hlt => ?_) (fun hlt => ?_)
      · simp only at hlt
        conv => whnf
        refine ⟨⟨by simp only; omega, by simp only; omega⟩, ?_⟩
        intro x hxi
        have hxi' : xs[i]? = some x := by simpa using hxi
        have hxb := hx x (List.mem_of_getElem? hxi')
        conv => whnf
        refine call_rule [] ?_
        conv => whnf
        refine change_ob x hxb _ _ (Nat.le_trans (hlen i) (by decide)) _ ?_
        conv => whnf
        refine ⟨⟨i + 1, by omega⟩, ?_, ⟨leT_refl _, leT_refl _, leT_refl _, ⟨rfl, wrapI64' (m := i + 1) (by omega)⟩, trivial⟩, ?_, Nat.le_refl _⟩
        · show xs.length - (i + 1) < xs.length - i; omega
        · simp only [foldl_take_succ wChg _ hxi']
          exact leH_refl _
      · simp only at hlt
        have hi' : xs.take i = xs := List.take_of_length_le (by omega)
        conv => whnf
        refine ⟨_, _, _, leT_refl _, ?_, Nat.le_refl _, hK⟩
        simp only [hi']
        exact leH_refl _


theorem listHit_ob (p : Bool) (xs : List Hit) (hx : ∀ x ∈ xs, x.Ok) (hxl : xs.length ≤ 2 ^ 40) (bs : List UInt8) (bad : Bool) (hb : bs.length ≤ 2 ^ 36) (K : Post)
    (hK : K (.tup []) (wH 2 (wList wHit xs (bs, bad)).1 (wList wHit xs (bs, bad)).2) 3) :
    CallOb Try.prog 68 [.ptr 0 0, .isl p 2 encHit xs, .func 69 [.ptr 0 0] []] (wH 1 bs bad) 2 K := by
  refine contract TrytabOk Try.checked.mixed Try.func68 rfl Try.call68 [0] [] [] (res0 Try.results68) Try.ntmps68 rfl ?_
  have bb : (bif bad then true else decide ((128 : Int) < (xs.length : Int))) = (bad || decide (128 < xs.length)) := by cases bad <;> simp; omega
  conv => whnf
  refine br_intro (fun h => ?_) (fun h => ?_)
  · rw [bb] at h
    conv => whnf
    rw [bb, h]
    simp only [wList, h, if_true] at hK
    exact ⟨_, _, _, leT_refl _, leH_refl _, Nat.le_refl _, hK⟩
  · rw [bb] at h
    have h2 : xs.length ≤ 128 := by simp at h; omega
    have h3 : bad = false := by simp at h; exact h.1
    simp only [wList, h, if_neg, Bool.false_eq_true, if_false] at hK
    conv => whnf
    refine call_rule [] ?_
    conv => whnf
    rw [bb, h, wrapU64' (by omega)]
    refine num_ob xs.length (by omega) bs false (by omega) _ ?_
    have hl := vput_len10 (n := xs.length) (by omega)
    conv => whnf
    have hlen : ∀ i, ((xs.take i).foldl wHit (bs ++ vput xs.length, false)).1.length ≤ 2 ^ 37 := by
      intro i
      have := fold_len (f := wHit) (c := 20) (xs := xs.take i) (fun s x hm => wHit_len s (hx x (List.mem_of_mem_take hm))) (bs ++ vput xs.length, false)
      simp only [List.length_append, List.length_take] at this
      omega
    refine loop_rule TrytabOk Try.checked.mixed [2, 29, 30, 31] [0] [] (T := { i : Nat // i ≤ xs.length }) (fun x => [.func 69 [.ptr 0 0] [], .isl p 2 encHit xs, .int .i64 (xs.length : Int), .int .i64 (x.1 : Int)])
      (fun x => wH 2 ((xs.take x.1).foldl wHit (bs ++ vput xs.length, false)).1 ((xs.take x.1).foldl wHit (bs ++ vput xs.length, false)).2) 3 (fun x => xs.length - x.1) ⟨0, by omega⟩ rfl rfl ?_ ?_
    · conv => whnf
      exact ⟨leTs_refl _, leH_refl _, Nat.le_refl _⟩
    · rintro ⟨i, hi⟩
      conv => whnf
      refine br_dec (fun hlt => ?_) (fun hlt => ?_)
      · simp only at hlt
        conv => whnf
        refine ⟨⟨by simp only; omega, by simp only; omega⟩, ?_⟩
        intro x hxi
        have hxi' : xs[i]? = some x := by simpa using hxi
        have hxb := hx x (List.mem_of_getElem? hxi')
        conv => whnf
        refine call_rule [] ?_
        conv => whnf
        refine hit_ob x hxb _ _ (Nat.le_trans (hlen i) (by decide)) _ ?_
        conv => whnf
        refine ⟨⟨i + 1, by omega⟩, ?_, ⟨leT_refl _, leT_refl _, leT_refl _, ⟨rfl, wrapI64' (m := i + 1) (by omega)⟩, trivial⟩, ?_, Nat.le_refl _⟩
        · show xs.length - (i + 1) < xs.length - i; omega
        · simp only [foldl_take_succ wHit _ hxi']
          exact leH_refl _
      · simp only at hlt
        have hi' : xs.take i = xs := List.take_of_length_le (by omega)
        conv => whnf
        refine ⟨_, _, _, leT_refl _, ?_, Nat.le_refl _, hK⟩
        simp only [hi']
        exact leH_refl _

end Go.Sx
end

section
open Go.Proofs
namespace Go.Sx
set_option linter.unusedVariables false
attribute [local irreducible] br

structure Conf where
  name : List UInt8
  dim : Nat
  metric : Nat
  graph : Bool
  links : Nat
  width : Nat

structure Conf.Ok (c : Conf) : Prop where
  name : c.name.length ≤ 2 ^ 40
  dim : c.dim < 256
  metric : c.metric < 256
  links : c.links < 256
  width : c.width < 65536

def wConf (s : WS) (c : Conf) : WS :=
  ((wText (s.1, s.2 || decide (1 < c.metric)) c.name).1 ++ vput c.dim ++ vput c.metric ++ vput c.graph.toNat ++ vput c.links ++ vput c.width, (wText (s.1, s.2 || decide (1 < c.metric)) c.name).2)

theorem conf_ob (c : Conf) (hx : c.Ok) (bs : List UInt8) (bad : Bool) (hb : bs.length ≤ 2 ^ 37) (K : Post) (hK : K (.tup []) (wH 2 (wConf (bs, bad) c).1 (wConf (bs, bad) c).2) 3) :
    CallOb Try.prog 37 [.ptr 0 0, .agg [.str c.name, .int .u8 c.dim, .int .u8 c.metric, .bool c.graph, .int .u8 c.links, .int .u16 c.width]] (wH 1 bs bad) 2 K := by
  refine contract TrytabOk Try.checked.mixed Try.func37 rfl Try.call37 [0] [] [] (res0 Try.results37) Try.ntmps37 rfl ?_
  have g1 := hx.dim
  have g2 := hx.metric
  have g3 := hx.links
  have g4 := hx.width
  have l1 := vput_len10 (n := c.dim) (by omega)
  have l2 := vput_len10 (n := c.metric) (by omega)
  have l3 := vput_len10 (n := c.graph.toNat) (by cases c.graph <;> decide)
  have l4 := vput_len10 (n := c.links) (by omega)
  have bb : (bif bad then true else decide ((1 : Int) < (c.metric : Int))) = (bad || decide (1 < c.metric)) := by cases bad <;> simp; omega
  have l5 := wText_len (bs, bad || decide (1 < c.metric)) c.name
  simp only at l5
  conv => whnf
  refine call_rule [] ?_
  conv => whnf
  rw [bb]
  refine text_ob c.name hx.name bs _ (by omega) _ ?_
  conv => whnf
  refine call_rule [] ?_
  conv => whnf
  rw [wrapU64' (by omega)]
  refine num_ob c.dim (by omega) (wText (bs, bad || decide (1 < c.metric)) c.name).1 _ (by omega) _ ?_
  conv => whnf
  refine call_rule [] ?_
  conv => whnf
  rw [wrapU64' (by omega)]
  refine num_ob c.metric (by omega) _ _ (by simp only [List.length_append]; omega) _ ?_
  conv => whnf
  refine call_rule [] ?_
  conv => whnf
  refine flag_ob c.graph _ _ (by simp only [List.length_append]; omega) _ ?_
  conv => whnf
  refine call_rule [] ?_
  conv => whnf
  rw [wrapU64' (by omega)]
  refine num_ob c.links (by omega) _ _ (by simp only [List.length_append]; omega) _ ?_
  conv => whnf
  refine call_rule [] ?_
  conv => whnf
  rw [wrapU64' (by omega)]
  refine num_ob c.width (by omega) _ _ (by simp only [List.length_append]; omega) _ ?_
  conv => whnf
  exact ⟨_, _, _, leT_refl _, leH_refl _, Nat.le_refl _, hK⟩

end Go.Sx
end

section
open Go.Proofs
namespace Go.Sx
set_option linter.unusedVariables false
attribute [local irreducible] br

structure Msg where
  kind : Nat
  req : Nat
  caps : Nat
  token : Nat
  code : Nat
  n : Nat
  name : List UInt8
  conf : Conf
  changes : List Chg
  id : Nat
  vec : List Int
  k : Nat
  width : Nat
  fall : List (List UInt8)
  fany : List (List UInt8)
  fnone : List (List UInt8)
  num : Nat
  page : Nat
  bytes : List UInt8
  version : Nat
  names : List (List UInt8)
  items : List Item
  hits : List Hit

def TextsOk (l : List (List UInt8)) : Prop := (∀ x ∈ l, x.length ≤ 2 ^ 40) ∧ l.length ≤ 2 ^ 40

structure Msg.Ok (m : Msg) : Prop where
  kind : m.kind < 256
  req : m.req < 2 ^ 32
  caps : m.caps < 2 ^ 32
  token : m.token < 2 ^ 64
  code : m.code < 256
  n : m.n < 2 ^ 32
  name : m.name.length ≤ 2 ^ 40
  conf : m.conf.Ok
  changes : (∀ x ∈ m.changes, x.item.Ok) ∧ m.changes.length ≤ 2 ^ 40
  id : m.id < 2 ^ 32
  vec : (∀ n ∈ m.vec, -2147483648 ≤ n ∧ n < 2147483648) ∧ m.vec.length ≤ 2 ^ 40
  k : m.k < 65536
  width : m.width < 65536
  fall : TextsOk m.fall
  fany : TextsOk m.fany
  fnone : TextsOk m.fnone
  num : m.num < 2 ^ 32
  page : m.page < 2 ^ 32
  bytes : m.bytes.length ≤ 2 ^ 40
  version : m.version < 2 ^ 64
  names : TextsOk m.names
  items : (∀ x ∈ m.items, x.Ok) ∧ m.items.length ≤ 2 ^ 40
  hits : (∀ x ∈ m.hits, x.Ok) ∧ m.hits.length ≤ 2 ^ 40

def Msg.cells (m : Msg) : List V := [.int .u8 m.kind, .int .u32 m.req, .int .u32 m.caps, .int .u64 m.token, .int .u8 m.code, .int .u32 m.n, .str m.name, .str m.conf.name, .int .u8 m.conf.dim, .int .u8 m.conf.metric, .bool m.conf.graph, .int .u8 m.conf.links, .int .u16 m.conf.width,
  .isl true 4 encChg m.changes, .int .u32 m.id, .isl true 1 encI32 m.vec, .int .u16 m.k, .int .u16 m.width, .isl true 1 encStr m.fall, .isl true 1 encStr m.fany, .isl true 1 encStr m.fnone, .int .u32 m.num, .int .u32 m.page, .isl true 1 encB m.bytes, .int .u64 m.version,
  .isl true 1 encStr m.names, .isl true 3 encItem m.items, .isl true 2 encHit m.hits]

/-- a field is written, and taken out -/
def mRest (ch : Nat) (s : WS) (m : Msg) : WS × Msg := if ch = 112 then ((s.1 ++ vput m.page, s.2), { m with page := 0 }) else if ch = 98 then (wText s m.bytes, { m with bytes := [] }) else if ch = 86 then ((s.1 ++ vput m.version, s.2), { m with version := 0 }) else if ch = 83 then (wList wText m.names s, { m with names := [] }) else if ch = 73 then (wList wItem m.items s, { m with items := [] }) else if ch = 72 then (wList wHit m.hits s, { m with hits := [] }) else (s, m)

def mField (ch : Nat) (s : WS) (m : Msg) : WS × Msg := if ch = 114 then ((s.1 ++ vput m.req, s.2), { m with req := 0 }) else if ch = 99 then ((s.1 ++ vput m.caps, s.2), { m with caps := 0 }) else if ch = 116 then ((s.1 ++ vput m.token, s.2), { m with token := 0 }) else if ch = 101 then ((s.1 ++ vput m.code, s.2), { m with code := 0 }) else if ch = 110 then ((s.1 ++ vput m.n, s.2), { m with n := 0 }) else if ch = 78 then (wText s m.name, { m with name := [] }) else if ch = 67 then (wConf s m.conf, { m with conf := ⟨[], 0, 0, false, 0, 0⟩ }) else if ch = 76 then (wList wChg m.changes s, { m with changes := [] }) else if ch = 105 then ((s.1 ++ vput m.id, s.2), { m with id := 0 }) else if ch = 118 then (wList wVecOne m.vec s, { m with vec := [] }) else if ch = 107 then ((s.1 ++ vput m.k, s.2), { m with k := 0 }) else if ch = 119 then ((s.1 ++ vput m.width, s.2), { m with width := 0 }) else if ch = 102 then (wList wText m.fnone (wList wText m.fany (wList wText m.fall s)), { m with fall := [], fany := [], fnone := [] }) else if ch = 117 then ((s.1 ++ vput m.num, s.2), { m with num := 0 }) else mRest ch s m

set_option maxRecDepth 4000 in
theorem rest_ob (ch : Nat) (m : Msg) (hm : m.Ok) (bs : List UInt8) (bad : Bool) (hb : bs.length ≤ 2 ^ 35) (K : Post)
    (hK : K (.tup []) [(0, .cells 96 [.vec 3, .bool (mRest ch (bs, bad) m).1.2]), (1, .cells 42 (mRest ch (bs, bad) m).2.cells), (3, .row 5 1 encB (mRest ch (bs, bad) m).1.1)] 4) :
    CallOb Try.prog 42 [.ptr 0 0, .int .i32 ch, .ptr 1 0] [(0, .cells 96 [.vec 2, .bool bad]), (1, .cells 42 m.cells), (2, .row 5 1 encB bs)] 3 K := by
  refine contract TrytabOk Try.checked.mixed Try.func42 rfl Try.call42 [0, 1] [] [] (res0 Try.results42) Try.ntmps42 rfl ?_
  conv => whnf
  refine br_dec (fun h0 => ?_) (fun h0 => ?_)
  · have h0 : ch = 112 := by omega
    simp only [mRest, if_pos h0] at hK
    conv => whnf
    refine call_rule [] ?_
    conv => whnf
    rw [wrapU64' (by have := hm.page; omega)]
    refine num_ob m.page (by have := hm.page; omega) bs bad (by omega) _ ?_
    conv => whnf
    refine ⟨_, _, _, leT_refl _, ?_, Nat.le_refl _, hK⟩
    exact ⟨rfl, leO_refl _, rfl, ⟨rfl, by simp [Msg.cells, leFs, leF]⟩, rfl, leO_refl _, trivial⟩
  have h0 : ¬ ch = 112 := by omega
  conv => whnf
  refine br_dec (fun h1 => ?_) (fun h1 => ?_)
  · have h1 : ch = 98 := by omega
    simp only [mRest, if_neg h0, if_pos h1] at hK
    conv => whnf
    refine ⟨m.bytes, rfl, ?_⟩
    conv => whnf
    refine call_rule [] ?_
    conv => whnf
    refine text_ob m.bytes hm.bytes bs bad (by omega) _ ?_
    conv => whnf
    refine ⟨_, _, _, leT_refl _, ?_, Nat.le_refl _, hK⟩
    exact ⟨rfl, leO_refl _, rfl, ⟨rfl, by simp [Msg.cells, leFs, leF]⟩, rfl, leO_refl _, trivial⟩
  have h1 : ¬ ch = 98 := by omega
  conv => whnf
  refine br_dec (fun h2 => ?_) (fun h2 => ?_)
  · have h2 : ch = 86 := by omega
    simp only [mRest, if_neg h0, if_neg h1, if_pos h2] at hK
    conv => whnf
    refine call_rule [] ?_
    conv => whnf
    refine num_ob m.version (by have := hm.version; omega) bs bad (by omega) _ ?_
    conv => whnf
    refine ⟨_, _, _, leT_refl _, ?_, Nat.le_refl _, hK⟩
    exact ⟨rfl, leO_refl _, rfl, ⟨rfl, by simp [Msg.cells, leFs, leF]⟩, rfl, leO_refl _, trivial⟩
  have h2 : ¬ ch = 86 := by omega
  conv => whnf
  refine br_dec (fun h3 => ?_) (fun h3 => ?_)
  · have h3 : ch = 83 := by omega
    simp only [mRest, if_neg h0, if_neg h1, if_neg h2, if_pos h3] at hK
    conv => whnf
    refine call_rule [] ?_
    conv => whnf
    refine texts_ob true m.names hm.names.1 hm.names.2 bs bad (by omega) _ ?_
    conv => whnf
    refine ⟨_, _, _, leT_refl _, ?_, Nat.le_refl _, hK⟩
    exact ⟨rfl, leO_refl _, rfl, ⟨rfl, by simp [Msg.cells, leFs, leF]⟩, rfl, leO_refl _, trivial⟩
  have h3 : ¬ ch = 83 := by omega
  conv => whnf
  refine br_dec (fun h4 => ?_) (fun h4 => ?_)
  · have h4 : ch = 73 := by omega
    simp only [mRest, if_neg h0, if_neg h1, if_neg h2, if_neg h3, if_pos h4] at hK
    conv => whnf
    refine call_rule [] ?_
    conv => whnf
    refine listItem_ob true m.items hm.items.1 hm.items.2 bs bad (by omega) _ ?_
    conv => whnf
    refine ⟨_, _, _, leT_refl _, ?_, Nat.le_refl _, hK⟩
    exact ⟨rfl, leO_refl _, rfl, ⟨rfl, by simp [Msg.cells, leFs, leF]⟩, rfl, leO_refl _, trivial⟩
  have h4 : ¬ ch = 73 := by omega
  conv => whnf
  refine br_dec (fun h5 => ?_) (fun h5 => ?_)
  · have h5 : ch = 72 := by omega
    simp only [mRest, if_neg h0, if_neg h1, if_neg h2, if_neg h3, if_neg h4, if_pos h5] at hK
    conv => whnf
    refine call_rule [] ?_
    conv => whnf
    refine listHit_ob true m.hits hm.hits.1 hm.hits.2 bs bad (by omega) _ ?_
    conv => whnf
    refine ⟨_, _, _, leT_refl _, ?_, Nat.le_refl _, hK⟩
    exact ⟨rfl, leO_refl _, rfl, ⟨rfl, by simp [Msg.cells, leFs, leF]⟩, rfl, leO_refl _, trivial⟩
  have h5 : ¬ ch = 72 := by omega
  conv => whnf
  simp only [mRest, if_neg h0, if_neg h1, if_neg h2, if_neg h3, if_neg h4, if_neg h5] at hK
  refine ⟨_, _, _, leT_refl _, ?_, Nat.le_refl _, hK⟩
  exact ⟨rfl, leO_refl _, rfl, ⟨rfl, by simp [Msg.cells, leFs, leF]⟩, rfl, leO_refl _, trivial⟩

set_option maxRecDepth 4000 in
theorem field_ob (ch : Nat) (m : Msg) (hm : m.Ok) (bs : List UInt8) (bad : Bool) (hb : bs.length ≤ 2 ^ 35) (K : Post)
    (hK : K (.tup []) [(0, .cells 96 [.vec 3, .bool (mField ch (bs, bad) m).1.2]), (1, .cells 42 (mField ch (bs, bad) m).2.cells), (3, .row 5 1 encB (mField ch (bs, bad) m).1.1)] 4) :
    CallOb Try.prog 28 [.ptr 0 0, .int .i32 ch, .ptr 1 0] [(0, .cells 96 [.vec 2, .bool bad]), (1, .cells 42 m.cells), (2, .row 5 1 encB bs)] 3 K := by
  refine contract TrytabOk Try.checked.mixed Try.func28 rfl Try.call28 [0, 1] [] [] (res0 Try.results28) Try.ntmps28 rfl ?_
  conv => whnf
  refine br_dec (fun h0 => ?_) (fun h0 => ?_)
  · have h0 : ch = 114 := by omega
    simp only [mField, if_pos h0] at hK
    conv => whnf
    refine call_rule [] ?_
    conv => whnf
    rw [wrapU64' (by have := hm.req; omega)]
    refine num_ob m.req (by have := hm.req; omega) bs bad (by omega) _ ?_
    conv => whnf
    refine ⟨_, _, _, leT_refl _, ?_, Nat.le_refl _, hK⟩
    exact ⟨rfl, leO_refl _, rfl, ⟨rfl, by simp [Msg.cells, leFs, leF]⟩, rfl, leO_refl _, trivial⟩
  have h0 : ¬ ch = 114 := by omega
  conv => whnf
  refine br_dec (fun h1 => ?_) (fun h1 => ?_)
  · have h1 : ch = 99 := by omega
    simp only [mField, if_neg h0, if_pos h1] at hK
    conv => whnf
    refine call_rule [] ?_
    conv => whnf
    rw [wrapU64' (by have := hm.caps; omega)]
    refine num_ob m.caps (by have := hm.caps; omega) bs bad (by omega) _ ?_
    conv => whnf
    refine ⟨_, _, _, leT_refl _, ?_, Nat.le_refl _, hK⟩
    exact ⟨rfl, leO_refl _, rfl, ⟨rfl, by simp [Msg.cells, leFs, leF]⟩, rfl, leO_refl _, trivial⟩
  have h1 : ¬ ch = 99 := by omega
  conv => whnf
  refine br_dec (fun h2 => ?_) (fun h2 => ?_)
  · have h2 : ch = 116 := by omega
    simp only [mField, if_neg h0, if_neg h1, if_pos h2] at hK
    conv => whnf
    refine call_rule [] ?_
    conv => whnf
    refine num_ob m.token (by have := hm.token; omega) bs bad (by omega) _ ?_
    conv => whnf
    refine ⟨_, _, _, leT_refl _, ?_, Nat.le_refl _, hK⟩
    exact ⟨rfl, leO_refl _, rfl, ⟨rfl, by simp [Msg.cells, leFs, leF]⟩, rfl, leO_refl _, trivial⟩
  have h2 : ¬ ch = 116 := by omega
  conv => whnf
  refine br_dec (fun h3 => ?_) (fun h3 => ?_)
  · have h3 : ch = 101 := by omega
    simp only [mField, if_neg h0, if_neg h1, if_neg h2, if_pos h3] at hK
    conv => whnf
    refine call_rule [] ?_
    conv => whnf
    rw [wrapU64' (by have := hm.code; omega)]
    refine num_ob m.code (by have := hm.code; omega) bs bad (by omega) _ ?_
    conv => whnf
    refine ⟨_, _, _, leT_refl _, ?_, Nat.le_refl _, hK⟩
    exact ⟨rfl, leO_refl _, rfl, ⟨rfl, by simp [Msg.cells, leFs, leF]⟩, rfl, leO_refl _, trivial⟩
  have h3 : ¬ ch = 101 := by omega
  conv => whnf
  refine br_dec (fun h4 => ?_) (fun h4 => ?_)
  · have h4 : ch = 110 := by omega
    simp only [mField, if_neg h0, if_neg h1, if_neg h2, if_neg h3, if_pos h4] at hK
    conv => whnf
    refine call_rule [] ?_
    conv => whnf
    rw [wrapU64' (by have := hm.n; omega)]
    refine num_ob m.n (by have := hm.n; omega) bs bad (by omega) _ ?_
    conv => whnf
    refine ⟨_, _, _, leT_refl _, ?_, Nat.le_refl _, hK⟩
    exact ⟨rfl, leO_refl _, rfl, ⟨rfl, by simp [Msg.cells, leFs, leF]⟩, rfl, leO_refl _, trivial⟩
  have h4 : ¬ ch = 110 := by omega
  conv => whnf
  refine br_dec (fun h5 => ?_) (fun h5 => ?_)
  · have h5 : ch = 78 := by omega
    simp only [mField, if_neg h0, if_neg h1, if_neg h2, if_neg h3, if_neg h4, if_pos h5] at hK
    conv => whnf
    refine call_rule [] ?_
    conv => whnf
    refine text_ob m.name hm.name bs bad (by omega) _ ?_
    conv => whnf
    refine ⟨_, _, _, leT_refl _, ?_, Nat.le_refl _, hK⟩
    exact ⟨rfl, leO_refl _, rfl, ⟨rfl, by simp [Msg.cells, leFs, leF]⟩, rfl, leO_refl _, trivial⟩
  have h5 : ¬ ch = 78 := by omega
  conv => whnf
  refine br_dec (fun h6 => ?_) (fun h6 => ?_)
  · have h6 : ch = 67 := by omega
    simp only [mField, if_neg h0, if_neg h1, if_neg h2, if_neg h3, if_neg h4, if_neg h5, if_pos h6] at hK
    conv => whnf
    refine call_rule [] ?_
    conv => whnf
    refine conf_ob m.conf hm.conf bs bad (by omega) _ ?_
    conv => whnf
    refine ⟨_, _, _, leT_refl _, ?_, Nat.le_refl _, hK⟩
    exact ⟨rfl, leO_refl _, rfl, ⟨rfl, by simp [Msg.cells, leFs, leF]⟩, rfl, leO_refl _, trivial⟩
  have h6 : ¬ ch = 67 := by omega
  conv => whnf
  refine br_dec (fun h7 => ?_) (fun h7 => ?_)
  · have h7 : ch = 76 := by omega
    simp only [mField, if_neg h0, if_neg h1, if_neg h2, if_neg h3, if_neg h4, if_neg h5, if_neg h6, if_pos h7] at hK
    conv => whnf
    refine call_rule [] ?_
    conv => whnf
    refine listChg_ob true m.changes hm.changes.1 hm.changes.2 bs bad (by omega) _ ?_
    conv => whnf
    refine ⟨_, _, _, leT_refl _, ?_, Nat.le_refl _, hK⟩
    exact ⟨rfl, leO_refl _, rfl, ⟨rfl, by simp [Msg.cells, leFs, leF]⟩, rfl, leO_refl _, trivial⟩
  have h7 : ¬ ch = 76 := by omega
  conv => whnf
  refine br_dec (fun h8 => ?_) (fun h8 => ?_)
  · have h8 : ch = 105 := by omega
    simp only [mField, if_neg h0, if_neg h1, if_neg h2, if_neg h3, if_neg h4, if_neg h5, if_neg h6, if_neg h7, if_pos h8] at hK
    conv => whnf
    refine call_rule [] ?_
    conv => whnf
    rw [wrapU64' (by have := hm.id; omega)]
    refine num_ob m.id (by have := hm.id; omega) bs bad (by omega) _ ?_
    conv => whnf
    refine ⟨_, _, _, leT_refl _, ?_, Nat.le_refl _, hK⟩
    exact ⟨rfl, leO_refl _, rfl, ⟨rfl, by simp [Msg.cells, leFs, leF]⟩, rfl, leO_refl _, trivial⟩
  have h8 : ¬ ch = 105 := by omega
  conv => whnf
  refine br_dec (fun h9 => ?_) (fun h9 => ?_)
  · have h9 : ch = 118 := by omega
    simp only [mField, if_neg h0, if_neg h1, if_neg h2, if_neg h3, if_neg h4, if_neg h5, if_neg h6, if_neg h7, if_neg h8, if_pos h9] at hK
    conv => whnf
    refine call_rule [] ?_
    conv => whnf
    refine vec_ob true m.vec hm.vec.1 hm.vec.2 bs bad (by omega) _ ?_
    conv => whnf
    refine ⟨_, _, _, leT_refl _, ?_, Nat.le_refl _, hK⟩
    exact ⟨rfl, leO_refl _, rfl, ⟨rfl, by simp [Msg.cells, leFs, leF]⟩, rfl, leO_refl _, trivial⟩
  have h9 : ¬ ch = 118 := by omega
  conv => whnf
  refine br_dec (fun h10 => ?_) (fun h10 => ?_)
  · have h10 : ch = 107 := by omega
    simp only [mField, if_neg h0, if_neg h1, if_neg h2, if_neg h3, if_neg h4, if_neg h5, if_neg h6, if_neg h7, if_neg h8, if_neg h9, if_pos h10] at hK
    conv => whnf
    refine call_rule [] ?_
    conv => whnf
    rw [wrapU64' (by have := hm.k; omega)]
    refine num_ob m.k (by have := hm.k; omega) bs bad (by omega) _ ?_
    conv => whnf
    refine ⟨_, _, _, leT_refl _, ?_, Nat.le_refl _, hK⟩
    exact ⟨rfl, leO_refl _, rfl, ⟨rfl, by simp [Msg.cells, leFs, leF]⟩, rfl, leO_refl _, trivial⟩
  have h10 : ¬ ch = 107 := by omega
  conv => whnf
  refine br_dec (fun h11 => ?_) (fun h11 => ?_)
  · have h11 : ch = 119 := by omega
    simp only [mField, if_neg h0, if_neg h1, if_neg h2, if_neg h3, if_neg h4, if_neg h5, if_neg h6, if_neg h7, if_neg h8, if_neg h9, if_neg h10, if_pos h11] at hK
    conv => whnf
    refine call_rule [] ?_
    conv => whnf
    rw [wrapU64' (by have := hm.width; omega)]
    refine num_ob m.width (by have := hm.width; omega) bs bad (by omega) _ ?_
    conv => whnf
    refine ⟨_, _, _, leT_refl _, ?_, Nat.le_refl _, hK⟩
    exact ⟨rfl, leO_refl _, rfl, ⟨rfl, by simp [Msg.cells, leFs, leF]⟩, rfl, leO_refl _, trivial⟩
  have h11 : ¬ ch = 119 := by omega
  conv => whnf
  refine br_dec (fun h12 => ?_) (fun h12 => ?_)
  · have h12 : ch = 102 := by omega
    simp only [mField, if_neg h0, if_neg h1, if_neg h2, if_neg h3, if_neg h4, if_neg h5, if_neg h6, if_neg h7, if_neg h8, if_neg h9, if_neg h10, if_neg h11, if_pos h12] at hK
    conv => whnf
    refine call_rule [] ?_
    conv => whnf
    refine filter_ob m.fall m.fany m.fnone hm.fall hm.fany hm.fnone bs bad (by omega) _ ?_
    conv => whnf
    refine ⟨_, _, _, leT_refl _, ?_, Nat.le_refl _, hK⟩
    exact ⟨rfl, leO_refl _, rfl, ⟨rfl, by simp [Msg.cells, leFs, leF]⟩, rfl, leO_refl _, trivial⟩
  have h12 : ¬ ch = 102 := by omega
  conv => whnf
  refine br_dec (fun h13 => ?_) (fun h13 => ?_)
  · have h13 : ch = 117 := by omega
    simp only [mField, if_neg h0, if_neg h1, if_neg h2, if_neg h3, if_neg h4, if_neg h5, if_neg h6, if_neg h7, if_neg h8, if_neg h9, if_neg h10, if_neg h11, if_neg h12, if_pos h13] at hK
    conv => whnf
    refine call_rule [] ?_
    conv => whnf
    rw [wrapU64' (by have := hm.num; omega)]
    refine num_ob m.num (by have := hm.num; omega) bs bad (by omega) _ ?_
    conv => whnf
    refine ⟨_, _, _, leT_refl _, ?_, Nat.le_refl _, hK⟩
    exact ⟨rfl, leO_refl _, rfl, ⟨rfl, by simp [Msg.cells, leFs, leF]⟩, rfl, leO_refl _, trivial⟩
  have h13 : ¬ ch = 117 := by omega
  conv => whnf
  simp only [mField, if_neg h0, if_neg h1, if_neg h2, if_neg h3, if_neg h4, if_neg h5, if_neg h6, if_neg h7, if_neg h8, if_neg h9, if_neg h10, if_neg h11, if_neg h12, if_neg h13] at hK
  refine call_rule [] ?_
  conv => whnf
  refine rest_ob ch m hm bs bad hb _ ?_
  conv => whnf
  exact ⟨_, _, _, leT_refl _, leH_refl _, Nat.le_refl _, hK⟩

end Go.Sx
end

/- The document's example (alive); no condition. frame.Next in general; lodestarref07.All; no condition. One byte of a sum's bytes is another one: the sum is another one; no condition. A frame in which one byte is another one is not read, but where its length is: the plain law; no condition. FrameTurned's contract; no condition. -/
import Derived.Test.YtlbbdkecjpaglaaFav

set_option linter.all false

section
open Go.Proofs
namespace Go.Sx
set_option linter.unusedVariables false

theorem CallOb.le {P : Program} {f : FuncId} {args args' : List V} {hp hp' : Hp} {nx : Nat} {K : Post} (hk : CallOb P f args' hp' nx K) (ha : leTs args args') (hh : leH hp hp') : CallOb P f args hp nx K :=
  ⟨fun C S w cargs hs hv => hk.out C S w cargs ⟨HR.le hs.jj hh hs.hr, hs.lt, hs.jlt, hs.jj⟩ (LR.leTs hs.jj ha hv)⟩

theorem permFrS (bs : List UInt8) (why : Nat) (k : Bool) : permH (frS bs why k) := ⟨trivial, trivial, fun x _ => .flat _ rfl, fun x _ => .flat _ rfl, trivial⟩

theorem ping_ok : pingMsg.Ok := by
  constructor <;> simp [pingMsg, Msg.zero, TextsOk]
  constructor <;> simp

theorem ping_raw : pingMsg.Raw := by
  constructor <;> simp [pingMsg, Msg.zero, TextsRaw]

theorem ping_run : mRun (mFields 7).1 (([], false), pingMsg) = (([1], false), Msg.zero 7) := by
  have h : mFields 7 = ([110], true) := by decide
  rw [h]
  show mField 110 ([], false) pingMsg = _
  have e : mField 110 ([], false) pingMsg = (([] ++ vput 1, false), { pingMsg with n := 0 }) := rfl
  rw [e, vput_lt (by omega)]
  rfl

theorem ping_put : mPut pingMsg = some [1] := by
  unfold mPut
  have e : mRun (mFields pingMsg.kind).1 (([], false), pingMsg) = (([1], false), Msg.zero 7) := ping_run
  rw [if_pos (show (mFields pingMsg.kind).2 = true by decide), e, if_neg]
  simp [Msg.Empty, Msg.zero]

theorem ping_le : leTs [.agg [.int .u8 7, .int .u32 0, .int .u32 0, .int .u64 0, .int .u8 0, .int .u32 1, .str [], .str [], .int .u8 0, .int .u8 0, .bool false, .int .u8 0, .int .u16 0, .nils, .int .u32 0, .nils, .int .u16 0, .int .u16 0, .nils, .nils, .nils, .int .u32 0, .int .u32 0, .nils, .int .u64 0, .nils, .nils, .nils]] [.agg pingMsg.cells] := by
  refine ⟨?_, trivial⟩
  show leFs _ _
  repeat' first
    | exact trivial
    | exact leF_refl _
    | exact rfl
    | refine And.intro ?_ ?_

theorem vput1 : vput 1 = [1] := by rw [vput_lt (by omega)]; rfl

theorem frPing_len : (frBytes 7 [1]).length = 10 := by simp [frBytes, frHead, be32, vput1]
theorem frPing_head : frHead 7 [1] = [76, 68, 1, 7, 1, 1] := by simp [frHead, vput1]

theorem frPing_v : frV (frBytes 7 [1]) = (1, 1, 0) := by
  have e : (frBytes 7 [1]).drop 4 = 1 :: ([1] ++ be32 (crcMore 0 (frHead 7 [1]))) := by
    simp [frBytes, frPing_head]
  unfold frV
  rw [e]
  rfl

theorem frPing_to : frTo (frBytes 7 [1]) = 6 := by unfold frTo; rw [frPing_v]; rfl

theorem frPing_next : nextE (frBytes 7 [1]) = 0 := by
  have h : hdrF (frBytes 7 [1]) 4 0 = 0 := by
    simp only [frBytes, frPing_head]
    rfl
  unfold nextE
  rw [if_neg (by rw [h]; simp), frPing_v, frPing_to, frPing_len]
  rw [if_neg (by decide), if_neg (by decide), if_neg (by decide), if_neg (by decide)]
  have e1 : (frBytes 7 [1]).take 6 = frHead 7 [1] := by
    simp only [frBytes, frPing_head]
    simp
  have e2 : ((frBytes 7 [1]).drop 6).take 4 = be32 (crcMore 0 (frHead 7 [1])) := by
    simp only [frBytes, frPing_head]
    simp [be32]
  rw [e1, e2, if_pos rfl]

theorem frPing_args : (frBytes 7 [1]).getD 3 0 = 7 ∧ ((frBytes 7 [1]).take (frTo (frBytes 7 [1]))).drop (4 + (frV (frBytes 7 [1])).2.1) = [1] := by
  rw [frPing_to, frPing_v]
  simp only [frBytes, frPing_head]
  constructor
  · simp
  · simp

theorem frPing_rest : (frBytes 7 [1]).drop (frTo (frBytes 7 [1]) + 4) = [] := by
  rw [frPing_to]
  exact List.drop_of_length_le (by rw [frPing_len]; omega)

theorem next76 : nextE [76] = 40 := by decide
theorem next7669 : nextE [76, 69] = 70 := by decide

set_option maxHeartbeats 1000000 in
set_option maxRecDepth 8000 in
theorem alive_ob : Alive := by
  intro K hK
  refine contract TrytabOk Try.checked.mixed Try.func4 rfl Try.call4 [] [] [0] (res1 Try.results4) Try.ntmps4 rfl ?_
  conv => whnf
  refine call_rule [] ?_
  conv => whnf
  refine CallOb.le (fencode_ob pingMsg ping_ok _ (fun hn => ?_) (fun bs hs hl => ?_) (fun bs hs hl => ?_)) ping_le trivial
  · rw [ping_put] at hn; cases hn
  · rw [ping_put] at hs; cases hs; simp at hl
  rw [ping_put] at hs
  cases hs
  have hkd : frBytes pingMsg.kind [1] = frBytes 7 [1] := rfl
  rw [hkd]
  have hlen := frPing_len
  have hnx := frPing_next
  have hag := frPing_args
  have hrs := frPing_rest
  generalize frBytes 7 [1] = F at hlen hnx hag hrs ⊢
  conv => whnf
  refine call_rule [] ?_
  conv => whnf
  refine frNew_ob _ ?_
  conv => whnf
  refine br_intro (fun h => ?_) (fun h => ?_)
  · exfalso
    simp [hlen] at h
  conv => whnf
  refine call_rule [true, false] ?_
  conv => whnf
  refine feed_ob false [] F (by simp) (by omega) false _ ?_
  conv => whnf
  refine ⟨⟨trivial, trivial⟩, permFrS _ _ _, ?_⟩
  conv => whnf
  refine call_rule [] ?_
  conv => whnf
  refine next_ob F (by omega) false pingMsg 0 (fun _ K' hK' => ?_) _ (fun h => ?_) (fun e h h0 h4 k' => ?_) (fun _ h => ?_) (fun _ _ => ?_)
  · rw [hag.1, hag.2]
    exact getPing_ob false K' hK'
  · rw [hnx] at h; cases h
  · rw [hnx] at h; exact absurd h.symm h0
  · exact absurd rfl h
  rw [hrs]
  conv => whnf
  refine ⟨UInt8, encB, [76], rfl, build1 76 rfl rfl rfl rfl rfl, ?_⟩
  conv => whnf
  refine call_rule [true, false] ?_
  conv => whnf
  refine feed_ob false [] [76] (by simp) (by simp) true _ ?_
  conv => whnf
  refine ⟨⟨trivial, trivial⟩, permFrS _ _ _, ?_⟩
  conv => whnf
  refine call_rule [] ?_
  conv => whnf
  refine next_ob [76] (by simp) true pingMsg 0 (fun h K' hK' => ?_) _ (fun h => ?_) (fun e h h0 h4 k' => ?_) (fun h _ => ?_) (fun h _ => ?_)
  · rw [next76] at h; cases h
  · conv => whnf
    refine ⟨UInt8, encB, [69], rfl, build1 69 rfl rfl rfl rfl rfl, ?_⟩
    conv => whnf
    refine call_rule [true, false] ?_
    conv => whnf
    refine feed_ob false [76] [69] (by simp) (by simp) true _ ?_
    conv => whnf
    refine ⟨⟨trivial, trivial⟩, permFrS _ _ _, ?_⟩
    conv => whnf
    refine call_rule [] ?_
    conv => whnf
    refine next_ob [76, 69] (by simp) true pingMsg 0 (fun h K' hK' => ?_) _ (fun h => ?_) (fun e h h0 h4 k' => ?_) (fun h _ => ?_) (fun h _ => ?_)
    · rw [next7669] at h; cases h
    · rw [next7669] at h; cases h
    · rw [next7669] at h
      subst h
      conv => whnf
      refine ⟨_, _, _, ?_, leH_refl _, Nat.le_refl _, hK⟩
      exact rfl
    · rw [next7669] at h; cases h
    · rw [next7669] at h; cases h
  · rw [next76] at h; exact absurd h.symm h4
  · rw [next76] at h; cases h
  · rw [next76] at h; cases h

end Go.Sx
end

section
open Go.Proofs
namespace Go.Sx
set_option linter.unusedVariables false

def nxtB (bs : List UInt8) : List UInt8 := if (first bs).2.2 = 40 then bs else if (first bs).2.2 = 0 then bs.drop (first bs).2.1 else []
def nxtW (bs : List UInt8) : Nat := if (first bs).2.2 = 40 then 0 else (first bs).2.2

theorem next2_ob (bs : List UInt8) (hb : bs.length ≤ 2 ^ 40) (k : Bool) (K : Post) (hK : ∀ k', K (.tup [.agg (first bs).1.cells, .int .i64 ((first bs).2.2 : Int)]) (frS (nxtB bs) (nxtW bs) k') 4) : CallOb Try.prog 9 [.ptr 0 0] (frR bs 0 k) 3 K := by
  refine next_ob bs hb k (frGet bs).1 (frGet bs).2 (fun _ K' hK' => ?_) K (fun h => ?_) (fun e h h0 h4 k' => ?_) (fun h h0 => ?_) (fun h h0 => ?_)
  · refine mget_ob false _ _ (by simp; omega) K' hK'
  · have e := first_e h (by decide)
    have := hK k
    unfold nxtB nxtW at this
    rw [e] at this
    exact this
  · have e := first_e h h0
    have := hK k'
    unfold nxtB nxtW at this
    rw [e] at this
    simp only [if_neg h4, if_neg h0] at this
    exact this
  · have e : first bs = (Msg.zero 0, 0, if (frGet bs).2 = 40 then 62 else (frGet bs).2) := by
      unfold first
      rw [if_neg (by rw [h]; simp), if_pos h0]
    have := hK true
    unfold nxtB nxtW at this
    rw [e] at this
    have n40 : ¬ (if (frGet bs).2 = 40 then 62 else (frGet bs).2) = 40 := by split <;> omega
    have n0 : ¬ (if (frGet bs).2 = 40 then 62 else (frGet bs).2) = 0 := by split <;> omega
    simp only [if_neg n40, if_neg n0] at this
    exact this
  · have e : first bs = ((frGet bs).1, frTo bs + 4, 0) := by
      unfold first
      rw [if_neg (by rw [h]; simp), if_neg (by omega)]
    have := hK true
    unfold nxtB nxtW at this
    rw [e] at this
    exact this

theorem first_len {bs : List UInt8} (h : (first bs).2.2 = 0) : 8 ≤ (first bs).2.1 ∧ (first bs).2.1 ≤ bs.length := by
  unfold first at h ⊢
  by_cases h1 : nextE bs = 0
  · rw [if_neg (by omega)] at h ⊢
    by_cases h2 : (frGet bs).2 = 0
    · rw [if_neg (by omega)]
      simp only
      have ht : frTo bs = 4 + (frV bs).2.1 + (frV bs).1 := rfl
      unfold nextE at h1
      by_cases c0 : ¬ hdrF bs 4 0 = 0
      · rw [if_pos c0] at h1; exact absurd h1 c0
      rw [if_neg c0] at h1
      by_cases c1 : (frV bs).2.2 = 41
      · rw [if_pos c1] at h1; cases h1
      rw [if_neg c1] at h1
      by_cases c2 : ¬ (frV bs).2.2 = 0
      · rw [if_pos c2] at h1; cases h1
      rw [if_neg c2] at h1
      by_cases c3 : 4096 < (frV bs).1
      · rw [if_pos c3] at h1; cases h1
      rw [if_neg c3] at h1
      by_cases c4 : bs.length < frTo bs + 4
      · rw [if_pos c4] at h1; cases h1
      omega
    · rw [if_pos h2] at h
      simp only at h
      split at h
      · cases h
      · exact absurd h h2
  · rw [if_pos h1] at h
    exact absurd h h1

def allF : Nat → List UInt8 → List Msg × Nat × Nat
  | 0, bs => ([], 40, bs.length)
  | f + 1, bs => if (first bs).2.2 = 40 then ([], 40, bs.length) else if ¬ (first bs).2.2 = 0 then ([], (first bs).2.2, 0) else ((first bs).1 :: (allF f (bs.drop (first bs).2.1)).1, (allF f (bs.drop (first bs).2.1)).2)

theorem allF_eq : ∀ (f g : Nat) (bs : List UInt8), bs.length < f → bs.length < g → allF f bs = allF g bs
  | f + 1, g + 1, bs, hf, hg => by
    unfold allF
    by_cases h1 : (first bs).2.2 = 40
    · rw [if_pos h1, if_pos h1]
    rw [if_neg h1, if_neg h1]
    by_cases h2 : (first bs).2.2 = 0
    · rw [if_neg (by omega), if_neg (by omega)]
      have h3 := first_len h2
      have hd : (bs.drop (first bs).2.1).length = bs.length - (first bs).2.1 := by simp
      rw [allF_eq f g _ (by omega) (by omega)]
    · rw [if_pos h2, if_pos h2]

/-- all messages of bytes, the error that ends them, how many bytes are left -/
def allG (bs : List UInt8) : List Msg × Nat × Nat := allF (bs.length + 1) bs

theorem allG_eq (bs : List UInt8) : allG bs = if (first bs).2.2 = 40 then ([], 40, bs.length) else if ¬ (first bs).2.2 = 0 then ([], (first bs).2.2, 0) else ((first bs).1 :: (allG (bs.drop (first bs).2.1)).1, (allG (bs.drop (first bs).2.1)).2) := by
  conv => lhs; unfold allG allF
  by_cases h1 : (first bs).2.2 = 40
  · rw [if_pos h1, if_pos h1]
  rw [if_neg h1, if_neg h1]
  by_cases h2 : (first bs).2.2 = 0
  · rw [if_neg (by omega), if_neg (by omega)]
    have h3 := first_len h2
    have hd : (bs.drop (first bs).2.1).length = bs.length - (first bs).2.1 := by simp
    unfold allG
    rw [allF_eq bs.length ((bs.drop (first bs).2.1).length + 1) _ (by omega) (by omega)]
  · rw [if_pos h2, if_pos h2]

def encMsg (m : Msg) : V := .agg m.cells

end Go.Sx
end

section
namespace Go.Sx

theorem crcStep_inj {a b : Nat} (ha : a < 2 ^ 32) (hb : b < 2 ^ 32) (h : crcStep a = crcStep b) : a = b := by
  have top : ∀ c, c < 2 ^ 32 → Nat.testBit (c / 2) 31 = false := fun c hc => Nat.testBit_lt_two_pow (by omega)
  have p31 : Nat.testBit 3988292384 31 = true := by decide
  unfold crcStep at h
  rcases Nat.mod_two_eq_zero_or_one a with h1 | h1 <;> rcases Nat.mod_two_eq_zero_or_one b with h2 | h2
  · rw [if_neg (by omega), if_neg (by omega)] at h
    omega
  · rw [if_neg (by omega), if_pos h2] at h
    have := congrArg (fun n => Nat.testBit n 31) h
    simp [top a ha, top b hb, p31, Nat.testBit_xor] at this
  · rw [if_pos h1, if_neg (by omega)] at h
    have := congrArg (fun n => Nat.testBit n 31) h
    simp [top a ha, top b hb, p31, Nat.testBit_xor] at this
  · rw [if_pos h1, if_pos h2] at h
    have h3 : a / 2 = b / 2 := by
      have h4 := congrArg (fun n => n ^^^ 3988292384) h
      simpa [Nat.xor_assoc] using h4
    omega

theorem crcIt_inj {a b : Nat} (ha : a < 2 ^ 32) (hb : b < 2 ^ 32) : ∀ k, crcIt k a = crcIt k b → a = b
  | 0, h => h
  | k + 1, h => by
    simp only [crcIt] at h
    first
      | exact crcIt_inj ha hb k (crcStep_inj (crcIt_lt ha k) (crcIt_lt hb k) h)
      | exact crcStep_inj ha hb (crcIt_inj (crcStep_lt ha) (crcStep_lt hb) k h)

theorem xor_lt32 {a b : Nat} (ha : a < 2 ^ 32) (hb : b < 2 ^ 32) : a ^^^ b < 2 ^ 32 := Nat.xor_lt_two_pow ha hb

theorem xor_cancel_left {a b c : Nat} (h : a ^^^ b = a ^^^ c) : b = c := by
  have h2 := congrArg (fun n => a ^^^ n) h
  simpa [← Nat.xor_assoc] using h2

theorem crcUpd_byte {c : Nat} (hc : c < 2 ^ 32) {x y : UInt8} (h : crcUpd c x = crcUpd c y) : x = y := by
  rw [← bitUpd_eq, ← bitUpd_eq] at h
  have hx := x.toNat_lt
  have hy := y.toNat_lt
  have := crcIt_inj (xor_lt32 hc (by omega)) (xor_lt32 hc (by omega)) 8 h
  exact UInt8.toNat_inj.1 (xor_cancel_left this)

theorem crcUpd_state {c d : Nat} (hc : c < 2 ^ 32) (hd : d < 2 ^ 32) {x : UInt8} (h : crcUpd c x = crcUpd d x) : c = d := by
  rw [← bitUpd_eq, ← bitUpd_eq] at h
  have hx := x.toNat_lt
  have := crcIt_inj (xor_lt32 hc (by omega)) (xor_lt32 hd (by omega)) 8 h
  rw [Nat.xor_comm c, Nat.xor_comm d] at this
  exact xor_cancel_left this

theorem crcFold_state : ∀ (bs : List UInt8) {c d : Nat}, c < 2 ^ 32 → d < 2 ^ 32 → bs.foldl crcUpd c = bs.foldl crcUpd d → c = d
  | [], _, _, _, _, h => h
  | x :: bs, _, _, hc, hd, h => crcUpd_state hc hd (crcFold_state bs (crcUpd_lt hc x) (crcUpd_lt hd x) h)

theorem crcFold_turned : ∀ (bs : List UInt8) (i : Nat) (x y : UInt8) {c : Nat}, c < 2 ^ 32 → bs[i]? = some x → ¬ x = y → ¬ bs.foldl crcUpd c = (bs.set i y).foldl crcUpd c
  | [], _, _, _, _, _, h, _ => by simp at h
  | b :: bs, 0, x, y, c, hc, h, hn => by
    intro he
    simp only [List.getElem?_cons_zero, Option.some.injEq] at h
    subst h
    simp only [List.set_cons_zero, List.foldl_cons] at he
    exact hn (crcUpd_byte hc (crcFold_state bs (crcUpd_lt hc _) (crcUpd_lt hc _) he))
  | b :: bs, i + 1, x, y, c, hc, h, hn => by
    simp only [List.getElem?_cons_succ] at h
    simp only [List.set_cons_succ, List.foldl_cons]
    exact crcFold_turned bs i x y (crcUpd_lt hc b) h hn

theorem crcMore_turned {bs : List UInt8} {i : Nat} {x y : UInt8} (h : bs[i]? = some x) (hn : ¬ x = y) : ¬ crcMore 0 bs = crcMore 0 (bs.set i y) := by
  intro he
  unfold crcMore at he
  have h1 := crcFold_lt bs (c := 4294967295 - 0) (by omega)
  have h2 := crcFold_lt (bs.set i y) (c := 4294967295 - 0) (by omega)
  exact crcFold_turned bs i x y (c := 4294967295 - 0) (by omega) h hn (by omega)

end Go.Sx
end

section
namespace Go.Sx
set_option linter.unusedVariables false

theorem be32_inj {s t : Nat} (hs : s < 2 ^ 32) (ht : t < 2 ^ 32) (h : be32 s = be32 t) : s = t := by
  unfold be32 at h
  simp only [List.cons.injEq, and_true, ← UInt8.toNat_inj, UInt8.toNat_ofNat'] at h
  omega

theorem be32_len (s : Nat) : (be32 s).length = 4 := rfl

theorem hdr_ok {bs : List UInt8} (h : hdrF bs 4 0 = 0) : bs[0]? = some 76 ∧ bs[1]? = some 68 ∧ bs[2]? = some 1 := by
  have go : ∀ i f, hdrF bs (f + 1) i = 0 → ∃ c, bs[i]? = some c ∧ hdrE i c.toNat = 0 ∧ hdrF bs f (i + 1) = 0 := by
    intro i f hh
    rw [hdrF] at hh
    cases hc : bs[i]? with
    | none => rw [hc] at hh; cases hh
    | some c =>
      rw [hc] at hh
      simp only at hh
      by_cases h0 : hdrE i c.toNat = 0
      · rw [if_pos h0] at hh
        exact ⟨c, rfl, h0, hh⟩
      · rw [if_neg h0] at hh
        exact absurd hh h0
  obtain ⟨a, ha, ha2, h1⟩ := go 0 3 h
  obtain ⟨b, hb, hb2, h2⟩ := go 1 2 h1
  obtain ⟨c, hc, hc2, h3⟩ := go 2 1 h2
  have ea : a = 76 := by
    by_cases q : a.toNat = 76
    · exact UInt8.toNat_inj.1 q
    · simp [hdrE, q] at ha2
  have eb : b = 68 := by
    by_cases q : b.toNat = 68
    · exact UInt8.toNat_inj.1 q
    · simp [hdrE, q] at hb2
  have ec : c = 1 := by
    by_cases q : c.toNat = 1
    · exact UInt8.toNat_inj.1 q
    · simp [hdrE, q] at hc2
  subst ea; subst eb; subst ec
  exact ⟨ha, hb, hc⟩

theorem nextE_parts {bs : List UInt8} (h : nextE bs = 0) : hdrF bs 4 0 = 0 ∧ (frV bs).2.2 = 0 ∧ (frV bs).1 ≤ 4096 ∧ frTo bs + 4 ≤ bs.length ∧ be32 (crcMore 0 (bs.take (frTo bs))) = (bs.drop (frTo bs)).take 4 := by
  unfold nextE at h
  by_cases c0 : ¬ hdrF bs 4 0 = 0
  · rw [if_pos c0] at h; exact absurd h c0
  rw [if_neg c0] at h
  by_cases c1 : (frV bs).2.2 = 41
  · rw [if_pos c1] at h; cases h
  rw [if_neg c1] at h
  by_cases c2 : ¬ (frV bs).2.2 = 0
  · rw [if_pos c2] at h; cases h
  rw [if_neg c2] at h
  by_cases c3 : 4096 < (frV bs).1
  · rw [if_pos c3] at h; cases h
  rw [if_neg c3] at h
  by_cases c4 : bs.length < frTo bs + 4
  · rw [if_pos c4] at h; cases h
  rw [if_neg c4] at h
  by_cases c5 : be32 (crcMore 0 (bs.take (frTo bs))) = (bs.drop (frTo bs)).take 4
  · exact ⟨by omega, by omega, by omega, by omega, c5⟩
  · rw [if_neg c5] at h; cases h

/-- what a frame's reader finds in bytes of that form -/
theorem form_find (A M S : List UInt8) (hA : A.length = 4) (hM : M.length ≤ 4096) (hS : S.length = 4) (rest : List UInt8) :
    frV (A ++ (vput M.length ++ (M ++ (S ++ rest)))) = (M.length, (vput M.length).length, 0) ∧ frTo (A ++ (vput M.length ++ (M ++ (S ++ rest)))) = (A ++ (vput M.length ++ M)).length ∧
      (A ++ (vput M.length ++ (M ++ (S ++ rest)))).take (A ++ (vput M.length ++ M)).length = A ++ (vput M.length ++ M) ∧ ((A ++ (vput M.length ++ (M ++ (S ++ rest)))).drop (A ++ (vput M.length ++ M)).length).take 4 = S := by
  have e1 : frV (A ++ (vput M.length ++ (M ++ (S ++ rest)))) = (M.length, (vput M.length).length, 0) := by
    unfold frV
    rw [List.drop_left' hA]
    exact vget_vput M.length (by omega) _
  have e2 : A ++ (vput M.length ++ (M ++ (S ++ rest))) = (A ++ (vput M.length ++ M)) ++ (S ++ rest) := by simp
  refine ⟨e1, ?_, ?_, ?_⟩
  · unfold frTo
    rw [e1]
    simp only [List.length_append, hA]
    omega
  · rw [e2, List.take_left]
  · rw [e2, List.drop_left, List.take_left' hS]

theorem set_turned {l : List UInt8} {i : Nat} {x y : UInt8} (h : l[i]? = some x) (hn : ¬ x = y) : ¬ l.set i y = l := by
  intro e
  have hi := (List.getElem?_eq_some_iff.1 h).1
  have : (l.set i y)[i]? = some y := by rw [List.getElem?_set_self hi]
  rw [e, h] at this
  exact hn (Option.some.inj this)

/-- the turned frame is read without an error only where its length is turned -/
theorem turned (k : Nat) (M : List UInt8) (hM : M.length ≤ 4096) (i : Nat) (x y : UInt8) (hx : (frBytes k M)[i]? = some x) (hn : ¬ x = y) (hE : nextE ((frBytes k M).set i y) = 0) : i = 4 ∨ i = 5 := by
  by_cases h4 : i = 4
  · exact .inl h4
  by_cases h5 : i = 5
  · exact .inr h5
  exfalso
  have hL := vput_len 1 M.length (by omega)
  have hL1 := vput_pos M.length
  obtain ⟨p1, p2, p3, p4, p5⟩ := nextE_parts hE
  have hA : ([76, 68, 1, UInt8.ofNat k] : List UInt8).length = 4 := rfl
  generalize hAe : ([76, 68, 1, UInt8.ofNat k] : List UInt8) = A at hA
  have hS := be32_len (crcMore 0 (frHead k M))
  have hh : frHead k M = A ++ (vput M.length ++ M) := by rw [← hAe]; simp [frHead]
  have hF : frBytes k M = A ++ (vput M.length ++ (M ++ (be32 (crcMore 0 (frHead k M)) ++ []))) := by rw [← hAe]; simp [frBytes, frHead]
  have hlt := crcMore_lt 0
  generalize hc : be32 (crcMore 0 (frHead k M)) = S at hS hF
  have hil : i < (frBytes k M).length := (List.getElem?_eq_some_iff.1 hx).1
  by_cases i3 : i < 3
  · obtain ⟨q0, q1, q2⟩ := hdr_ok p1
    have hset : ((frBytes k M).set i y)[i]? = some y := by rw [List.getElem?_set_self hil]
    have hget : ∀ j, j < 4 → (frBytes k M)[j]? = A[j]? := fun j hj => by rw [hF, List.getElem?_append_left (by omega)]
    have hs : i = 0 ∨ i = 1 ∨ i = 2 := by omega
    rcases hs with rfl | rfl | rfl
    · rw [q0] at hset
      rw [hget 0 (by omega), ← hAe] at hx
      simp at hx hset
      exact hn (by rw [← hx, ← hset])
    · rw [q1] at hset
      rw [hget 1 (by omega), ← hAe] at hx
      simp at hx hset
      exact hn (by rw [← hx, ← hset])
    · rw [q2] at hset
      rw [hget 2 (by omega), ← hAe] at hx
      simp at hx hset
      exact hn (by rw [← hx, ← hset])
  by_cases iA : i < 4
  · -- the kind
    have e : (frBytes k M).set i y = A.set i y ++ (vput M.length ++ (M ++ (S ++ []))) := by
      rw [hF, List.set_append, if_pos (by omega)]
    rw [e] at p5
    obtain ⟨_, f2, f3, f4⟩ := form_find (A.set i y) M S (by simp [hA]) hM hS []
    rw [f2, f3, f4, ← hc] at p5
    have e2 : A.set i y ++ (vput M.length ++ M) = (frHead k M).set i y := by
      rw [hh, List.set_append, if_pos (by omega)]
    rw [e2] at p5
    have hx' : (frHead k M)[i]? = some x := by
      rw [← hx, hh, hF, List.getElem?_append_left (by omega), List.getElem?_append_left (by omega)]
    exact crcMore_turned hx' hn (be32_inj (hlt _) (hlt _) p5).symm
  -- behind the length
  have eF : (frBytes k M).set i y = A ++ (vput M.length ++ (M ++ (S ++ [])).set (i - 4 - (vput M.length).length) y) := by
    rw [hF, List.set_append, if_neg (by omega), hA, List.set_append, if_neg (by omega)]
  have hxF : (M ++ (S ++ []))[i - 4 - (vput M.length).length]? = some x := by
    have h2 := hx
    rw [hF, List.getElem?_append_right (by omega), hA, List.getElem?_append_right (by omega)] at h2
    exact h2
  by_cases iM : i - 4 - (vput M.length).length < M.length
  · rw [List.set_append, if_pos iM] at eF
    rw [eF] at p5
    have eM : (M.set (i - 4 - (vput M.length).length) y).length = M.length := by simp
    obtain ⟨_, f2, f3, f4⟩ := form_find A (M.set (i - 4 - (vput M.length).length) y) S hA (by omega) hS []
    rw [eM] at f2 f3 f4
    rw [f2, f3, f4, ← hc] at p5
    have e2 : A ++ (vput M.length ++ M.set (i - 4 - (vput M.length).length) y) = (frHead k M).set i y := by
      rw [hh, List.set_append, if_neg (by omega), hA, List.set_append, if_neg (by omega)]
    rw [e2] at p5
    have hx' : (frHead k M)[i]? = some x := by
      rw [List.getElem?_append_left iM] at hxF
      rw [← hxF, hh, List.getElem?_append_right (by omega), hA, List.getElem?_append_right (by omega)]
    exact crcMore_turned hx' hn (be32_inj (hlt _) (hlt _) p5).symm
  · rw [List.set_append, if_neg iM] at eF
    have eS : (S ++ []).set (i - 4 - (vput M.length).length - M.length) y = S.set (i - 4 - (vput M.length).length - M.length) y ++ [] := by simp
    rw [eS] at eF
    rw [eF] at p5
    obtain ⟨_, f2, f3, f4⟩ := form_find A M (S.set (i - 4 - (vput M.length).length - M.length) y) hA hM (by simp [hS]) []
    rw [f2, f3, f4, ← hh, hc] at p5
    rw [List.getElem?_append_right (by omega), List.append_nil] at hxF
    exact set_turned hxF hn p5.symm

end Go.Sx
end

section
open Go.Proofs
namespace Go.Sx
set_option linter.unusedVariables false

theorem perm_msg3 (m : Msg) (f g : Int) : permL 4000 [.tup [.agg m.cells, .int .i64 f, .int .i64 g]] := perm_msg m 0

theorem first_turned {bs : List UInt8} (h : (first bs).2.2 = 0) : nextE bs = 0 := by
  unfold first at h
  by_cases h1 : nextE bs = 0
  · exact h1
  · rw [if_pos h1] at h
    exact absurd h h1

theorem frBytes_len (k : Nat) (bs : List UInt8) (h : bs.length ≤ 4096) : (frBytes k bs).length ≤ 5000 := by
  have hv := vput_len10 (n := bs.length) (by omega)
  simp [frBytes, frHead, be32]
  omega

theorem xorB (x by_ : UInt8) : V.int .u8 (bitI .xor .u8 (x.toNat : Int) (by_.toNat : Int)) = encB (x ^^^ by_) := by
  rw [bitI_xor .u8 rfl _ _ (by show _ < 2 ^ 8; exact x.toNat_lt) (by show _ < 2 ^ 8; exact by_.toNat_lt), ← UInt8.toNat_xor]
  rfl

theorem xor_ne {x y : UInt8} (h : ¬ y.toNat = 0) : ¬ x = x ^^^ y := by
  intro e
  have e2 : x ^^^ x = x ^^^ (x ^^^ y) := congrArg (x ^^^ ·) e
  rw [← UInt8.xor_assoc, UInt8.xor_self, UInt8.zero_xor] at e2
  exact h (by rw [← e2]; rfl)

end Go.Sx
end

/- frame.Next; no condition. -/
import Derived.Test.YtlbbdkecjpaglaaFar

set_option linter.all false

section
open Go.Proofs
namespace Go.Sx
set_option linter.unusedVariables false

def hdrE (i : Nat) (c : Nat) : Nat := if i = 0 ∧ ¬ c = 76 ∨ i = 1 ∧ ¬ c = 68 then 70 else if i = 2 ∧ ¬ c = 1 then 71 else if i = 3 ∧ (c < 1 ∨ 24 < c) then 61 else 0
def hdrF (bs : List UInt8) : Nat → Nat → Nat
  | 0, _ => 0
  | f + 1, i => match bs[i]? with
    | none => 40
    | some c => if hdrE i c.toNat = 0 then hdrF bs f (i + 1) else hdrE i c.toNat

def frV (bs : List UInt8) : Nat × Nat × Nat := vget (bs.drop 4)
def frTo (bs : List UInt8) : Nat := 4 + (frV bs).2.1 + (frV bs).1

def nextE (bs : List UInt8) : Nat :=
  if ¬ hdrF bs 4 0 = 0 then hdrF bs 4 0 else if (frV bs).2.2 = 41 then 41 else if ¬ (frV bs).2.2 = 0 then 40 else if 4096 < (frV bs).1 then 72 else if bs.length < frTo bs + 4 then 40
  else if be32 (crcMore 0 (bs.take (frTo bs))) = (bs.drop (frTo bs)).take 4 then 0 else 73

abbrev zc : List V := (Msg.zero 0).cells

theorem zle : leFs [.int .u8 0, .int .u32 0, .int .u32 0, .int .u64 0, .int .u8 0, .int .u32 0, .str [], .str [], .int .u8 0, .int .u8 0, .bool false, .int .u8 0, .int .u16 0, .nils, .int .u32 0, .nils, .int .u16 0, .int .u16 0, .nils, .nils, .nils, .int .u32 0, .int .u32 0, .nils, .int .u64 0, .nils, .nils, .nils] zc := by
  repeat' first
    | exact trivial
    | exact leF_refl _
    | exact rfl
    | refine And.intro ?_ ?_

theorem or32 (a b c d : Nat) (ha : a < 256) (hb : b < 256) (hc : c < 256) (hd : d < 256) :
    bitI .or .u32 (bitI .or .u32 (bitI .or .u32 (IntKind.u32.wrap ((a : Int) * 2 ^ 24)) (IntKind.u32.wrap ((b : Int) * 2 ^ 16))) (IntKind.u32.wrap ((c : Int) * 2 ^ 8))) (d : Int) = ((a * 16777216 + b * 65536 + c * 256 + d : Nat) : Int) := by
  rw [show (2 : Int) ^ 24 = ((16777216 : Nat) : Int) from rfl, show (2 : Int) ^ 16 = ((65536 : Nat) : Int) from rfl, show (2 : Int) ^ 8 = ((256 : Nat) : Int) from rfl, mulNat, mulNat, mulNat, wrapU32' (by omega), wrapU32' (by omega), wrapU32' (by omega)]
  have o1 : a * 16777216 ||| b * 65536 = a * 16777216 + b * 65536 := by
    have := Nat.two_pow_add_eq_or_of_lt (i := 24) (b := b * 65536) (by omega) a
    rw [show (2 : Nat) ^ 24 = 16777216 from rfl] at this
    rw [Nat.mul_comm a, ← this]
  have o2 : (a * 16777216 + b * 65536) ||| c * 256 = a * 16777216 + b * 65536 + c * 256 := by
    have := Nat.two_pow_add_eq_or_of_lt (i := 16) (b := c * 256) (by omega) (a * 256 + b)
    rw [show (2 : Nat) ^ 16 = 65536 from rfl] at this
    rw [show a * 16777216 + b * 65536 = 65536 * (a * 256 + b) by omega, ← this]
  have o3 : (a * 16777216 + b * 65536 + c * 256) ||| d = a * 16777216 + b * 65536 + c * 256 + d := by
    have := Nat.two_pow_add_eq_or_of_lt (i := 8) (b := d) (by omega) (a * 65536 + b * 256 + c)
    rw [show (2 : Nat) ^ 8 = 256 from rfl] at this
    rw [show a * 16777216 + b * 65536 + c * 256 = 256 * (a * 65536 + b * 256 + c) by omega, ← this]
  rw [bitI_or .u32 rfl _ _ (by show _ < 2 ^ 32; omega) (by show _ < 2 ^ 32; omega), o1, bitI_or .u32 rfl _ _ (by show _ < 2 ^ 32; omega) (by show _ < 2 ^ 32; omega), o2, bitI_or .u32 rfl _ _ (by show _ < 2 ^ 32; omega) (by show _ < 2 ^ 32; omega), o3]

theorem be32_iff (s : Nat) (hs : s < 2 ^ 32) (a b c d : UInt8) : be32 s = [a, b, c, d] ↔ a.toNat * 16777216 + b.toNat * 65536 + c.toNat * 256 + d.toNat = s := by
  have ha := a.toNat_lt
  have hb := b.toNat_lt
  have hc := c.toNat_lt
  have hd := d.toNat_lt
  unfold be32
  simp only [List.cons.injEq, and_true, ← UInt8.toNat_inj, UInt8.toNat_ofNat']
  omega

set_option maxHeartbeats 8000000 in
set_option maxRecDepth 8000 in
theorem next_ob (bs : List UInt8) (hb : bs.length ≤ 2 ^ 40) (k : Bool) (x : Msg) (f : Nat)
    (hG : nextE bs = 0 → ∀ K' : Post, K' (.tup [.agg x.cells, .int .i64 (f : Int)]) [] 0 → CallOb Try.prog 20 [.int .u8 ((bs.getD 3 0).toNat : Int), .isl false 1 encB ((bs.take (frTo bs)).drop (4 + (frV bs).2.1))] [] 0 K') (K : Post)
    (h40 : nextE bs = 40 → K (.tup [.agg zc, .int .i64 40]) (frS bs 0 k) 4)
    (hE : ∀ e : Nat, nextE bs = e → ¬ e = 0 → ¬ e = 40 → ∀ k', K (.tup [.agg zc, .int .i64 (e : Int)]) (frS [] e k') 4)
    (hF : nextE bs = 0 → ¬ f = 0 → K (.tup [.agg zc, .int .i64 ((if f = 40 then 62 else f : Nat) : Int)]) (frS [] (if f = 40 then 62 else f) true) 4)
    (hO : nextE bs = 0 → f = 0 → K (.tup [.agg x.cells, .int .i64 0]) (frS (bs.drop (frTo bs + 4)) 0 true) 4) :
    CallOb Try.prog 9 [.ptr 0 0] (frR bs 0 k) 3 K := by
  refine contractC TrytabOk Try.checked.mixed Try.func9 rfl Try.call9 [0, 2] [] [.cell 2 42, .tmp 3] (resC2 Try.results9) Try.ntmps9 rfl ?_
  conv => whnf
  refine loop_rule TrytabOk Try.checked.mixed [0, 2, 4] [0, 1, 2] [] (T := { i : Nat // i ≤ 4 ∧ hdrF bs 4 0 = hdrF bs (4 - i) i ∧ i ≤ bs.length }) (fun x => [.ptr 0 0, .ptr 3 0, .int .i64 (x.1 : Int)])
    (fun x => [(0, .cells 55 [.vec 1, .int .i64 0, .ptr 2 0]), (1, .row 5 1 encB bs), (2, smO k.toNat 0 k.toNat (if k then crcTab else zeros256)), (3, .cells 42 zc)]) 4 (fun x => 4 - x.1) ⟨0, by omega, rfl, by omega⟩ rfl rfl ?_ ?_
  · conv => whnf
    exact ⟨leTs_refl _, ⟨rfl, leO_refl _, rfl, leO_refl _, rfl, leO_refl _, rfl, ⟨rfl, zle⟩, trivial⟩, Nat.le_refl _⟩
  · rintro ⟨i, hi, hh, hil⟩
    conv => whnf
    refine br_dec (fun hlt => ?_) (fun hlt => ?_)
    · have hlt : i < 4 := by simp only at hlt; omega
      conv => whnf
      refine br_dec (fun hlen => ?_) (fun hlen => ?_)
      · have hlen : bs.length ≤ i := by simp only at hlen; omega
        have hn : hdrF bs 4 0 = 40 := by
          rw [hh, show 4 - i = (4 - i - 1) + 1 by omega, hdrF, List.getElem?_eq_none hlen]
        conv => whnf
        refine ⟨_, _, _, ?_, leH_refl _, Nat.le_refl _, h40 (by unfold nextE; rw [if_pos (by rw [hn]; decide), hn])⟩
        exact ⟨zle, ⟨rfl, rfl⟩, trivial⟩
      · have hlen : i < bs.length := by simp only at hlen; omega
        conv => whnf
        refine ⟨⟨by simp only; omega, by simp only; omega⟩, ?_⟩
        conv => whnf
        refine ⟨by simpa using hlen, ?_⟩
        intro c hc
        have hc' : bs[i]? = some c := by simpa using hc
        have hc2 := c.toNat_lt
        have step : hdrE i c.toNat = 0 → hdrF bs 4 0 = hdrF bs (4 - (i + 1)) (i + 1) := fun h => by
          rw [hh, show 4 - i = (4 - (i + 1)) + 1 by omega, hdrF, hc']
          simp [h]
        have stop : ¬ hdrE i c.toNat = 0 → nextE bs = hdrE i c.toNat := fun h => by
          have : hdrF bs 4 0 = hdrE i c.toNat := by
            rw [hh, show 4 - i = (4 - (i + 1)) + 1 by omega, hdrF, hc']
            simp [h]
          unfold nextE
          rw [if_pos (by rw [this]; exact h), this]
        have hs : i = 0 ∨ i = 1 ∨ i = 2 ∨ i = 3 := by omega
        rcases hs with rfl | rfl | rfl | rfl
        all_goals conv => whnf
        all_goals repeat' first
          | (refine br_intro (fun ht => ?_) (fun ht => ?_) <;> conv => whnf)
          | (refine call_rule [] ?_
             conv => whnf
             first
               | refine ffail_ob bs 70 k _ ?_
               | refine ffail_ob bs 71 k _ ?_
               | refine ffail_ob bs 61 k _ ?_
             conv => whnf)
          | fail
        · have hc3 : ¬ c.toNat = 76 := by simp at ht; omega
          have ee : hdrE 0 c.toNat = 70 := by simp [hdrE, hc3]
          have e := stop (by rw [ee]; decide)
          rw [ee] at e
          exact ⟨_, _, _, leT_refl _, leH_refl _, Nat.le_refl _, hE 70 e (by decide) (by decide) k⟩
        · rename_i h1
          rw [ht] at h1
          cases h1
        · have hc3 : c.toNat = 76 := by simp at ht; omega
          exact ⟨⟨1, by omega, step (by simp [hdrE, hc3]), by omega⟩, by show (_ : Nat) < _; simp only; omega, ⟨leT_refl _, leT_refl _, ⟨rfl, wrapI64' (m := 1) (by omega)⟩, trivial⟩, leH_refl _, Nat.le_refl _⟩
        · have hc3 : ¬ c.toNat = 68 := by simp at ht; omega
          have ee : hdrE 1 c.toNat = 70 := by simp [hdrE, hc3]
          have e := stop (by rw [ee]; decide)
          rw [ee] at e
          exact ⟨_, _, _, leT_refl _, leH_refl _, Nat.le_refl _, hE 70 e (by decide) (by decide) k⟩
        · have hc3 : c.toNat = 68 := by simp at ht; omega
          exact ⟨⟨2, by omega, step (by simp [hdrE, hc3]), by omega⟩, by show (_ : Nat) < _; simp only; omega, ⟨leT_refl _, leT_refl _, ⟨rfl, wrapI64' (m := 2) (by omega)⟩, trivial⟩, leH_refl _, Nat.le_refl _⟩
        · have hc3 : ¬ c.toNat = 1 := by simp at ht; omega
          have ee : hdrE 2 c.toNat = 71 := by simp [hdrE, hc3]
          have e := stop (by rw [ee]; decide)
          rw [ee] at e
          exact ⟨_, _, _, leT_refl _, leH_refl _, Nat.le_refl _, hE 71 e (by decide) (by decide) k⟩
        · have hc3 : c.toNat = 1 := by simp at ht; omega
          exact ⟨⟨3, by omega, step (by simp [hdrE, hc3]), by omega⟩, by show (_ : Nat) < _; simp only; omega, ⟨leT_refl _, leT_refl _, ⟨rfl, wrapI64' (m := 3) (by omega)⟩, trivial⟩, leH_refl _, Nat.le_refl _⟩
        · have hc3 : c.toNat < 1 ∨ 24 < c.toNat := by simp at ht; omega
          have ee : hdrE 3 c.toNat = 61 := by unfold hdrE; rw [if_neg (by omega), if_neg (by omega), if_pos ⟨rfl, hc3⟩]
          have e := stop (by rw [ee]; decide)
          rw [ee] at e
          exact ⟨_, _, _, leT_refl _, leH_refl _, Nat.le_refl _, hE 61 e (by decide) (by decide) k⟩
        · have hc3 : ¬ (c.toNat < 1 ∨ 24 < c.toNat) := by simp at ht; omega
          exact ⟨⟨4, by omega, step (by unfold hdrE; rw [if_neg (by omega), if_neg (by omega), if_neg (fun h => hc3 h.2)]), by omega⟩, by show (_ : Nat) < _; simp only; omega, ⟨leT_refl _, leT_refl _, ⟨rfl, wrapI64' (m := 4) (by omega)⟩, trivial⟩, leH_refl _, Nat.le_refl _⟩
    · have hi4 : i = 4 := by simp only at hlt; omega
      subst hi4
      have hd0 : hdrF bs 4 0 = 0 := by rw [hh]; rfl
      have hv := vget_lt (bs.drop 4)
      have hvl : (bs.drop 4).length = bs.length - 4 := by simp
      have hne : nextE bs = (if (frV bs).2.2 = 41 then 41 else if ¬ (frV bs).2.2 = 0 then 40 else if 4096 < (frV bs).1 then 72 else if bs.length < frTo bs + 4 then 40
          else if be32 (crcMore 0 (bs.take (frTo bs))) = (bs.drop (frTo bs)).take 4 then 0 else 73) := by
        unfold nextE; rw [if_neg (by rw [hd0]; simp)]
      have hto : frTo bs = 4 + (frV bs).2.1 + (frV bs).1 := rfl
      conv => whnf
      refine ⟨⟨by omega, by omega, by omega, by omega⟩, ?_⟩
      conv => whnf
      refine call_rule [false] ?_
      conv => whnf
      have e4 : List.take ((bs.length : Int).toNat - Int.toNat 4) (bs.drop (Int.toNat 4)) = bs.drop 4 := by
        show List.take (bs.length - 4) (bs.drop 4) = _
        exact List.take_of_length_le (by simp)
      rw [e4]
      refine get_ob false (bs.drop 4) (by omega) _ ?_
      generalize hgv : vget (bs.drop 4) = g at hv
      have hfv : frV bs = g := hgv
      rw [hfv] at hne hto hG
      obtain ⟨n, used, e⟩ := g
      simp only at hv hne hto hG
      conv => whnf
      refine ⟨⟨trivial, trivial⟩, trivial, ?_⟩
      conv => whnf
      refine br_dec (fun h41 => ?_) (fun h41 => ?_)
      · have h41 : e = 41 := by simp only at h41; omega
        rw [if_pos h41] at hne
        conv => whnf
        refine call_rule [] ?_
        conv => whnf
        subst h41
        refine ffail_ob bs 41 k _ ?_
        conv => whnf
        exact ⟨_, _, _, leT_refl _, leH_refl _, Nat.le_refl _, hE 41 hne (by decide) (by decide) k⟩
      have h41 : ¬ e = 41 := by simp only at h41; omega
      rw [if_neg h41] at hne
      conv => whnf
      refine br_intro (fun h0 => ?_) (fun h0 => ?_)
      · have h0 : ¬ e = 0 := by simp at h0; omega
        rw [if_pos h0] at hne
        conv => whnf
        refine ⟨_, _, _, ?_, leH_refl _, Nat.le_refl _, h40 hne⟩
        exact ⟨zle, ⟨rfl, rfl⟩, trivial⟩
      have h0 : e = 0 := by simp at h0; omega
      rw [if_neg (by simp [h0])] at hne
      conv => whnf
      refine br_dec (fun h72 => ?_) (fun h72 => ?_)
      · have h72 : 4096 < n := by simp only at h72; omega
        rw [if_pos h72] at hne
        conv => whnf
        refine call_rule [] ?_
        conv => whnf
        refine ffail_ob bs 72 k _ ?_
        conv => whnf
        exact ⟨_, _, _, leT_refl _, leH_refl _, Nat.le_refl _, hE 72 hne (by decide) (by decide) k⟩
      have h72 : ¬ 4096 < n := by simp only at h72; omega
      rw [if_neg h72] at hne
      have w1 : IntKind.i64.wrap (4 + (used : Int)) = ((4 + used : Nat) : Int) := by rw [wrapI64 _ (by omega) (by omega)]; omega
      have w2 : IntKind.i64.wrap (n : Int) = ((n : Nat) : Int) := wrapI64' (by omega)
      have w3 : IntKind.i64.wrap (((4 + used : Nat) : Int) + (n : Int)) = ((frTo bs : Nat) : Int) := by rw [wrapI64 _ (by omega) (by omega)]; omega
      have w4 : IntKind.i64.wrap (((frTo bs : Nat) : Int) + 4) = ((frTo bs + 4 : Nat) : Int) := by rw [wrapI64 _ (by omega) (by omega)]; omega
      simp only [w1, w2, w3, w4]
      conv => whnf
      simp only [w1, w2, w3, w4]
      refine br_dec (fun hl => ?_) (fun hl => ?_)
      · have hl : bs.length < frTo bs + 4 := by omega
        rw [if_pos hl] at hne
        conv => whnf
        refine ⟨_, _, _, ?_, leH_refl _, Nat.le_refl _, h40 hne⟩
        exact ⟨zle, ⟨rfl, rfl⟩, trivial⟩
      have hl : ¬ bs.length < frTo bs + 4 := by omega
      rw [if_neg hl] at hne
      conv => whnf
      obtain ⟨t0, ht0⟩ : ∃ t, bs[frTo bs + 0]? = some t := ⟨_, List.getElem?_eq_getElem (by omega)⟩
      obtain ⟨t1, ht1⟩ : ∃ t, bs[frTo bs + 1]? = some t := ⟨_, List.getElem?_eq_getElem (by omega)⟩
      obtain ⟨t2, ht2⟩ : ∃ t, bs[frTo bs + 2]? = some t := ⟨_, List.getElem?_eq_getElem (by omega)⟩
      obtain ⟨t3, ht3⟩ : ∃ t, bs[frTo bs + 3]? = some t := ⟨_, List.getElem?_eq_getElem (by omega)⟩
      have b0 := t0.toNat_lt
      have b1 := t1.toNat_lt
      have b2 := t2.toNat_lt
      have b3 := t3.toNat_lt
      have etk : (bs.drop (frTo bs)).take 4 = [t0, t1, t2, t3] := by
        apply List.ext_getElem?
        intro i
        rw [List.getElem?_take]
        by_cases h : i < 4
        · rw [if_pos h, List.getElem?_drop]
          have : i = 0 ∨ i = 1 ∨ i = 2 ∨ i = 3 := by omega
          rcases this with rfl | rfl | rfl | rfl <;> simp [ht0, ht1, ht2, ht3]
          exact ht0
        · rw [if_neg h, List.getElem?_eq_none (by simp; omega)]
      have eor : bitI .or .u32 (bitI .or .u32 (bitI .or .u32 (IntKind.u32.wrap (IntKind.u32.wrap (t0.toNat : Int) * 2 ^ min (Int.toNat 24) IntKind.u32.bits)) (IntKind.u32.wrap (IntKind.u32.wrap (t1.toNat : Int) * 2 ^ min (Int.toNat 16) IntKind.u32.bits)))
          (IntKind.u32.wrap (IntKind.u32.wrap (t2.toNat : Int) * 2 ^ min (Int.toNat 8) IntKind.u32.bits))) (IntKind.u32.wrap (t3.toNat : Int)) = ((t0.toNat * 16777216 + t1.toNat * 65536 + t2.toNat * 256 + t3.toNat : Nat) : Int) := by
        rw [wrapU32' (m := t0.toNat) (by omega), wrapU32' (m := t1.toNat) (by omega), wrapU32' (m := t2.toNat) (by omega), wrapU32' (m := t3.toNat) (by omega), show min (Int.toNat 24) IntKind.u32.bits = 24 from rfl, show min (Int.toNat 16) IntKind.u32.bits = 16 from rfl, show min (Int.toNat 8) IntKind.u32.bits = 8 from rfl]
        exact or32 _ _ _ _ (by omega) (by omega) (by omega) (by omega)
      have hsl := crcMore_lt 0 (bs.take (frTo bs))
      rw [etk] at hne
      have hiff := be32_iff _ hsl t0 t1 t2 t3
      have e5 : List.take ((frTo bs : Int).toNat - Int.toNat 0) (List.drop (Int.toNat 0) bs) = bs.take (frTo bs) := by
        show List.take (frTo bs - 0) (List.drop 0 bs) = _
        simp
      repeat' first
        | (refine ⟨⟨by omega, by omega, by omega, by omega⟩, ?_⟩; conv => whnf)
        | (refine ⟨?_, trivial⟩; conv => whnf)
        | (refine ⟨?_, ?_, trivial⟩ <;> conv => whnf)
        | fail
      all_goals refine call_rule [true, false] ?_
      all_goals conv => whnf
      all_goals rw [e5]
      all_goals refine of_ob k false (bs.take (frTo bs)) (by simp; omega) _ ?_
      all_goals conv => whnf
      all_goals refine ⟨trivial, permSm true, ?_⟩
      all_goals conv => whnf
      all_goals simp only [w4]
      all_goals refine ⟨⟨by omega, by omega, by omega, by omega⟩, ?_⟩
      all_goals conv => whnf
      all_goals repeat' first
        | (refine Box.mk ?_; (conv => whnf); fail_if_success (refine br_intro (fun _ => ?_) (fun _ => ?_)))
        | (refine ⟨⟨by omega, by omega⟩, ?_⟩; conv => whnf)
        | (refine ⟨by decide, ?_⟩; conv => whnf)
        | (refine ⟨by omega, fun z hz => ?_⟩
           have e : t0 = z := by
             have hz2 : bs[frTo bs + 0]? = some z := hz
             rw [ht0] at hz2
             exact Option.some.inj hz2
           subst e
           clear hz
           conv => whnf)
        | (refine ⟨by omega, fun z hz => ?_⟩
           have e : t1 = z := by
             have hz2 : bs[frTo bs + 1]? = some z := hz
             rw [ht1] at hz2
             exact Option.some.inj hz2
           subst e
           clear hz
           conv => whnf)
        | (refine ⟨by omega, fun z hz => ?_⟩
           have e : t2 = z := by
             have hz2 : bs[frTo bs + 2]? = some z := hz
             rw [ht2] at hz2
             exact Option.some.inj hz2
           subst e
           clear hz
           conv => whnf)
        | (refine ⟨by omega, fun z hz => ?_⟩
           have e : t3 = z := by
             have hz2 : bs[frTo bs + 3]? = some z := hz
             rw [ht3] at hz2
             exact Option.some.inj hz2
           subst e
           clear hz
           conv => whnf)
        | fail
      all_goals refine Box.mk ?_
      all_goals refine br_intro (fun hs => ?_) (fun hs => ?_)
      · have hs' : ¬ (t0.toNat * 16777216 + t1.toNat * 65536 + t2.toNat * 256 + t3.toNat = crcMore 0 (bs.take (frTo bs))) := by
          intro hq
          have hs2 : (!decide (_ = ((crcMore 0 (bs.take (frTo bs)) : Nat) : Int))) = true := hs
          rw [eor, hq] at hs2
          simp at hs2
        rw [if_neg (fun h => hs' (hiff.1 h))] at hne
        conv => whnf
        refine call_rule [] ?_
        conv => whnf
        refine ffail_ob bs 73 true _ ?_
        conv => whnf
        exact ⟨_, _, _, leT_refl _, leH_refl _, Nat.le_refl _, hE 73 hne (by decide) (by decide) true⟩
      · have hs' : t0.toNat * 16777216 + t1.toNat * 65536 + t2.toNat * 256 + t3.toNat = crcMore 0 (bs.take (frTo bs)) := by
          have hs2 : (!decide (_ = ((crcMore 0 (bs.take (frTo bs)) : Nat) : Int))) = false := hs
          rw [eor] at hs2
          simp at hs2
          omega
        rw [if_pos (hiff.2 hs')] at hne
        clear hs
        obtain ⟨kd, hkd⟩ : ∃ t, bs[3]? = some t := ⟨_, List.getElem?_eq_getElem (by omega)⟩
        have hkd2 : bs.getD 3 0 = kd := by simp [List.getD_eq_getElem?_getD, hkd]
        rw [hkd2] at hG
        have e7 : List.take ((frTo bs : Int).toNat - ((4 + used : Nat) : Int).toNat) (List.drop ((4 + used : Nat) : Int).toNat bs) = (bs.take (frTo bs)).drop (4 + used) := by
          show List.take (frTo bs - (4 + used)) (List.drop (4 + used) bs) = _
          rw [List.drop_take]
        conv => whnf
        repeat' first
          | (refine Box.mk ?_; conv => whnf)
          | (refine ⟨⟨by omega, by omega, by omega, by omega⟩, ?_⟩; conv => whnf)
          | (refine ⟨⟨by omega, by omega⟩, ?_⟩; conv => whnf)
          | (refine ⟨by omega, fun z hz => ?_⟩
             have e : kd = z := by
               have hz2 : bs[3]? = some z := hz
               rw [hkd] at hz2
               exact Option.some.inj hz2
             subst e
             clear hz
             conv => whnf)
          | (refine ⟨?_, trivial⟩; conv => whnf)
          | (refine ⟨?_, ?_, trivial⟩ <;> conv => whnf)
          | (refine ⟨?_, ?_, ?_, trivial⟩ <;> conv => whnf)
          | fail
        all_goals refine call_rule [true, false] ?_
        all_goals conv => whnf
        all_goals rw [e7]
        all_goals refine hG hne _ ?_
        all_goals conv => whnf
        all_goals refine ⟨perm_msg x f, trivial, ?_⟩
        all_goals conv => whnf
        all_goals repeat' first
          | (refine Box.mk ?_; conv => whnf)
          | (refine ⟨?_, trivial⟩; conv => whnf)
          | (refine ⟨?_, ?_, trivial⟩ <;> conv => whnf)
          | fail
        all_goals
          refine br_dec (fun hq => ?_) (fun hq => ?_)
          · have hq : f = 40 := by omega
            have hF' := hF hne (by omega)
            rw [if_pos hq] at hF'
            conv => whnf
            refine call_rule [] ?_
            conv => whnf
            refine ffail_ob bs 62 true _ ?_
            conv => whnf
            exact ⟨_, _, _, leT_refl _, leH_refl _, Nat.le_refl _, hF'⟩
          · have hq : ¬ f = 40 := by omega
            conv => whnf
            refine br_intro (fun h0' => ?_) (fun h0' => ?_)
            · have hf0 : ¬ f = 0 := by simp at h0'; omega
              have hF' := hF hne hf0
              rw [if_neg hq] at hF'
              conv => whnf
              refine call_rule [] ?_
              conv => whnf
              refine ffail_ob bs f true _ ?_
              conv => whnf
              exact ⟨_, _, _, leT_refl _, leH_refl _, Nat.le_refl _, hF'⟩
            · have hf0 : f = 0 := by simp at h0'; omega
              conv => whnf
              simp only [w4]
              refine ⟨⟨by omega, by omega, by omega, by omega⟩, ?_⟩
              conv => whnf
              refine call_rule [false] ?_
              conv => whnf
              have e8 : List.take ((bs.length : Int).toNat - ((frTo bs + 4 : Nat) : Int).toNat) (List.drop ((frTo bs + 4 : Nat) : Int).toNat bs) = bs.drop (frTo bs + 4) := by
                show List.take (bs.length - (frTo bs + 4)) (List.drop (frTo bs + 4) bs) = _
                exact List.take_of_length_le (by simp)
              rw [e8]
              refine clone_ob false (bs.drop (frTo bs + 4)) (by simp; omega) _ ?_
              conv => whnf
              refine ⟨trivial, ⟨fun x _ => .flat _ rfl, trivial⟩, ?_⟩
              conv => whnf
              exact ⟨_, _, _, leT_refl _, leH_refl _, Nat.le_refl _, hO hne hf0⟩
      · have hs' : ¬ (t0.toNat * 16777216 + t1.toNat * 65536 + t2.toNat * 256 + t3.toNat = crcMore 0 (bs.take (frTo bs))) := by
          intro hq
          have hs2 : (!decide (_ = ((crcMore 0 (bs.take (frTo bs)) : Nat) : Int))) = true := hs
          rw [eor, hq] at hs2
          simp at hs2
        rw [if_neg (fun h => hs' (hiff.1 h))] at hne
        conv => whnf
        refine call_rule [] ?_
        conv => whnf
        refine ffail_ob bs 73 true _ ?_
        conv => whnf
        exact ⟨_, _, _, leT_refl _, leH_refl _, Nat.le_refl _, hE 73 hne (by decide) (by decide) true⟩
      · have hs' : t0.toNat * 16777216 + t1.toNat * 65536 + t2.toNat * 256 + t3.toNat = crcMore 0 (bs.take (frTo bs)) := by
          have hs2 : (!decide (_ = ((crcMore 0 (bs.take (frTo bs)) : Nat) : Int))) = false := hs
          rw [eor] at hs2
          simp at hs2
          omega
        rw [if_pos (hiff.2 hs')] at hne
        clear hs
        obtain ⟨kd, hkd⟩ : ∃ t, bs[3]? = some t := ⟨_, List.getElem?_eq_getElem (by omega)⟩
        have hkd2 : bs.getD 3 0 = kd := by simp [List.getD_eq_getElem?_getD, hkd]
        rw [hkd2] at hG
        have e7 : List.take ((frTo bs : Int).toNat - ((4 + used : Nat) : Int).toNat) (List.drop ((4 + used : Nat) : Int).toNat bs) = (bs.take (frTo bs)).drop (4 + used) := by
          show List.take (frTo bs - (4 + used)) (List.drop (4 + used) bs) = _
          rw [List.drop_take]
        conv => whnf
        repeat' first
          | (refine Box.mk ?_; conv => whnf)
          | (refine ⟨⟨by omega, by omega, by omega, by omega⟩, ?_⟩; conv => whnf)
          | (refine ⟨⟨by omega, by omega⟩, ?_⟩; conv => whnf)
          | (refine ⟨by omega, fun z hz => ?_⟩
             have e : kd = z := by
               have hz2 : bs[3]? = some z := hz
               rw [hkd] at hz2
               exact Option.some.inj hz2
             subst e
             clear hz
             conv => whnf)
          | (refine ⟨?_, trivial⟩; conv => whnf)
          | (refine ⟨?_, ?_, trivial⟩ <;> conv => whnf)
          | (refine ⟨?_, ?_, ?_, trivial⟩ <;> conv => whnf)
          | fail
        all_goals refine call_rule [true, false] ?_
        all_goals conv => whnf
        all_goals rw [e7]
        all_goals refine hG hne _ ?_
        all_goals conv => whnf
        all_goals refine ⟨perm_msg x f, trivial, ?_⟩
        all_goals conv => whnf
        all_goals repeat' first
          | (refine Box.mk ?_; conv => whnf)
          | (refine ⟨?_, trivial⟩; conv => whnf)
          | (refine ⟨?_, ?_, trivial⟩ <;> conv => whnf)
          | fail
        all_goals
          refine br_dec (fun hq => ?_) (fun hq => ?_)
          · have hq : f = 40 := by omega
            have hF' := hF hne (by omega)
            rw [if_pos hq] at hF'
            conv => whnf
            refine call_rule [] ?_
            conv => whnf
            refine ffail_ob bs 62 true _ ?_
            conv => whnf
            exact ⟨_, _, _, leT_refl _, leH_refl _, Nat.le_refl _, hF'⟩
          · have hq : ¬ f = 40 := by omega
            conv => whnf
            refine br_intro (fun h0' => ?_) (fun h0' => ?_)
            · have hf0 : ¬ f = 0 := by simp at h0'; omega
              have hF' := hF hne hf0
              rw [if_neg hq] at hF'
              conv => whnf
              refine call_rule [] ?_
              conv => whnf
              refine ffail_ob bs f true _ ?_
              conv => whnf
              exact ⟨_, _, _, leT_refl _, leH_refl _, Nat.le_refl _, hF'⟩
            · have hf0 : f = 0 := by simp at h0'; omega
              conv => whnf
              simp only [w4]
              refine ⟨⟨by omega, by omega, by omega, by omega⟩, ?_⟩
              conv => whnf
              refine call_rule [false] ?_
              conv => whnf
              have e8 : List.take ((bs.length : Int).toNat - ((frTo bs + 4 : Nat) : Int).toNat) (List.drop ((frTo bs + 4 : Nat) : Int).toNat bs) = bs.drop (frTo bs + 4) := by
                show List.take (bs.length - (frTo bs + 4)) (List.drop (frTo bs + 4) bs) = _
                exact List.take_of_length_le (by simp)
              rw [e8]
              refine clone_ob false (bs.drop (frTo bs + 4)) (by simp; omega) _ ?_
              conv => whnf
              refine ⟨trivial, ⟨fun x _ => .flat _ rfl, trivial⟩, ?_⟩
              conv => whnf
              exact ⟨_, _, _, leT_refl _, leH_refl _, Nat.le_refl _, hO hne hf0⟩

end Go.Sx
end

/- FrameFinds' contract (numbers of the plain seat); no condition. -/
import Derived.Test.YtlbbdkecjpaglaaFba

set_option linter.all false

section
open Go.Proofs
namespace Go.Sx
set_option linter.unusedVariables false

theorem frAll_snoc (l : List Msg) (m : Msg) : frAll (l ++ [m]) = frAll l ++ frOf m := by simp [frAll]

abbrev fnH (kept : List Msg) (all cs : List UInt8) (k : Bool) : Hp := [(0, .cells 55 [.vec 3, .int .i64 0, .ptr 4 0]), (1, .row 42 28 encMsg kept), (2, .row 5 1 encB all), (3, .row 5 1 encB cs), (4, smO k.toNat 0 k.toNat (if k then crcTab else zeros256))]

set_option maxHeartbeats 4000000 in
set_option maxRecDepth 8000 in
theorem frameFinds_ob (l : List Msg) (hl : ∀ m ∈ l, m.Raw) (hll : l.length ≤ 9223372036854775807) (pc : UInt8) (K : Post) (hK : K (.bool true) [] 0) : CallOb Try.prog 3 [.isl true 28 encMsg l, .int .u8 (pc.toNat : Int)] [] 0 K := by
  refine contract TrytabOk Try.checked.mixed Try.func3 rfl Try.call3 [] [] [4] (res1 Try.results3) Try.ntmps3 rfl ?_
  conv => whnf
  refine call_rule [] ?_
  conv => whnf
  refine alive_ob _ ?_
  conv => whnf
  refine call_rule [] ?_
  conv => whnf
  refine frNew_ob _ ?_
  conv => whnf
  refine loop_rule TrytabOk Try.checked.mixed [0, 1, 5, 6, 7, 8] [] [.slot 3 42 28 encMsg, .slot 4 5 1 encB] (T := { x : Nat × List Msg // x.1 ≤ l.length ∧ x.1 ≤ 10 ∧ x.2.length ≤ x.1 ∧ (∀ m ∈ x.2, FrOk m) ∧ (frAll x.2).length ≤ 5000 * x.1 })
    (fun x => [.isl true 28 encMsg l, .int .u8 (pc.toNat : Int), .ptr 0 0, .vec 1, .vec 2, .int .i64 (x.1.1 : Int)]) (fun x => fnH x.1.2 (frAll x.1.2) [] false) 5 (fun x => 10 - x.1.1) ⟨(0, []), by simp, by simp, by simp, by simp, by simp [frAll]⟩ rfl rfl ?_ ?_
  · conv => whnf
    exact ⟨leTs_refl _, leH_refl _, Nat.le_refl _⟩
  rintro ⟨⟨i, kept⟩, h1, h2, h3, h4, h5⟩
  simp only at h1 h2 h3 h4 h5
  conv => whnf
  refine br_intro (fun h => ?_) (fun h => ?_)
  · have h' : i < l.length ∧ i < 10 := by
      revert h
      simp only
      by_cases a : i < l.length <;> by_cases b : i < 10 <;> simp [a, b] <;> omega
    obtain ⟨m, hm⟩ : ∃ m, l[i]? = some m := ⟨_, List.getElem?_eq_getElem h'.1⟩
    have hraw := hl m (List.mem_of_getElem? hm)
    have hC : (0 : Int) ≤ (i : Int) ∧ (i : Int) < (l.length : Int) := by omega
    have hz' : ∀ z, l[((i : Nat) : Int).toNat]? = some z → m = z := fun z hz => by
      rw [← Option.some.injEq, ← hm, ← hz]
      rfl
    conv => whnf
    refine ⟨hC, fun z hz => ?_⟩
    obtain rfl := hz' z hz
    clear hz
    conv => whnf
    refine call_rule [] ?_
    conv => whnf
    refine great_ob m hraw _ (fun b hb => ?_)
    cases b
    case true =>
      conv => whnf
      exact ⟨_, _, _, leT_refl _, leH_refl _, Nat.le_refl _, hK⟩
    have hok := hb rfl
    conv => whnf
    refine ⟨hC, fun z hz => ?_⟩
    obtain rfl := hz' z hz
    clear hz
    conv => whnf
    refine call_rule [] ?_
    conv => whnf
    refine fencode_ob m hok _ (fun hn => ?_) (fun bs hs hbl => ?_) (fun bs hs hbl => ?_)
    · conv => whnf
      refine ⟨⟨(i + 1, kept), by simp only; omega, by simp only; omega, by simp only; omega, h4, by simp only; omega⟩, ?_, ⟨leT_refl _, leT_refl _, leT_refl _, leT_refl _, leT_refl _, ⟨rfl, wrapI64' (m := i + 1) (by omega)⟩, trivial⟩, leH_refl _, Nat.le_refl _⟩
      show 10 - (i + 1) < 10 - i
      omega
    · conv => whnf
      refine ⟨⟨(i + 1, kept), by simp only; omega, by simp only; omega, by simp only; omega, h4, by simp only; omega⟩, ?_, ⟨leT_refl _, leT_refl _, leT_refl _, leT_refl _, leT_refl _, ⟨rfl, wrapI64' (m := i + 1) (by omega)⟩, trivial⟩, leH_refl _, Nat.le_refl _⟩
      show 10 - (i + 1) < 10 - i
      omega
    · have hfr : FrOk m := ⟨hok, bs, hs, hbl⟩
      have hfo := frOf_eq hs
      have hfl := frOf_len hfr
      rw [← hfo]
      conv => whnf
      refine ⟨frOf m, rfl, ?_, ?_⟩
      · show ((frAll kept).length + (frOf m).length) * 1 ≤ _; omega
      conv => whnf
      refine ⟨hC, fun z hz => ?_⟩
      obtain rfl := hz' z hz
      clear hz
      conv => whnf
      refine ⟨Msg, encMsg, [m], rfl, build1 m rfl rfl rfl rfl rfl, ?_⟩
      conv => whnf
      refine ⟨[m], rfl, ?_, ?_⟩
      · show (kept.length + 1) * 320 ≤ _; omega
      conv => whnf
      have hsn := frAll_snoc kept m
      refine ⟨⟨(i + 1, kept ++ [m]), by simp only; omega, by simp only; omega, by simp; omega, fun x hx => by
        simp at hx
        rcases hx with hx | rfl
        · exact h4 x hx
        · exact hfr, by simp only [hsn, List.length_append]; omega⟩, ?_, ⟨leT_refl _, leT_refl _, leT_refl _, leT_refl _, leT_refl _, ⟨rfl, wrapI64' (m := i + 1) (by omega)⟩, trivial⟩, ⟨rfl, leO_refl _, rfl, leO_refl _, rfl, ⟨rfl, rfl, congrArg (List.map encB) hsn.symm⟩, rfl, leO_refl _, rfl, leO_refl _, trivial⟩, Nat.le_refl _⟩
      show 10 - (i + 1) < 10 - i
      omega
  -- all the frames are there
  have hal : (frAll kept).length ≤ 50000 := by omega
  have hkl : kept.length ≤ 10 := by omega
  obtain ⟨all, hA0⟩ : ∃ all, all = frAll kept := ⟨_, rfl⟩
  have hA : frAll kept = all := hA0.symm
  rw [hA] at hal
  conv => whnf
  refine loop_rule TrytabOk Try.checked.mixed [1, 5, 6, 7, 11, 12] [] [] (T := { x : Nat × Nat × List UInt8 × Bool // x.2.1 ≤ kept.length ∧ x.2.2.1 ++ all.drop x.1 = frAll (kept.drop x.2.1) ∧ (∀ m, (kept.drop x.2.1).head? = some m → x.2.2.1.length < (frOf m).length) ∧ (kept.drop x.2.1 = [] → x.2.2.1 = []) ∧ x.1 ≤ 60000 })
    (fun x => [.int .u8 (pc.toNat : Int), .ptr 0 0, .vec 1, .vec 2, .int .i64 (x.1.2.1 : Int), .int .i64 (x.1.1 : Int)]) (fun x => fnH kept all x.1.2.2.1 x.1.2.2.2) 5 (fun x => all.length - x.1.1) ⟨(0, 0, [], false), by simp, by simpa using hA.symm, fun m hm => by
      have := (frOf_len (h4 m (by simpa using List.mem_of_head? hm))).1
      simp only [List.length_nil]
      omega, fun _ => rfl, by simp⟩ rfl rfl ?_ ?_
  · conv => whnf
    exact ⟨leTs_refl _, ⟨rfl, leO_refl _, rfl, leO_refl _, rfl, ⟨rfl, rfl, congrArg (List.map encB) hA⟩, rfl, leO_refl _, rfl, leO_refl _, trivial⟩, Nat.le_refl _⟩
  rintro ⟨⟨at_, n, cs, k⟩, g1, g2, g3, g4, g5⟩
  simp only at g1 g2 g3 g4 g5
  have hpc := pc.toNat_lt
  conv => whnf
  refine br_dec (fun h => ?_) (fun h => ?_)
  · have h : at_ < all.length := by simp only at h; omega
    have w1 : IntKind.i64.wrap ((at_ : Int) + 1) = ((at_ + 1 : Nat) : Int) := wrapI64' (m := at_ + 1) (by omega)
    have w2 : IntKind.i64.wrap (pc.toNat : Int) = (pc.toNat : Int) := wrapI64' (by omega)
    have w3 : IntKind.i64.wrap (((at_ + 1 : Nat) : Int) + (pc.toNat : Int)) = ((at_ + 1 + pc.toNat : Nat) : Int) := wrapI64' (m := at_ + 1 + pc.toNat) (by omega)
    obtain ⟨to, hto⟩ : ∃ to : Nat, to = min all.length (at_ + 1 + pc.toNat) := ⟨_, rfl⟩
    have hmin : (if ((at_ + 1 + pc.toNat : Nat) : Int) < (all.length : Int) then ((at_ + 1 + pc.toNat : Nat) : Int) else (all.length : Int)) = (to : Int) := by
      split <;> omega
    conv => whnf
    simp only [w1, w2, w3, hmin]
    refine ⟨⟨by omega, by omega, by omega, by omega⟩, ?_⟩
    conv => whnf
    refine call_rule [true, false] ?_
    conv => whnf
    obtain ⟨bs, hbs⟩ : ∃ bs, bs = List.take ((to : Int).toNat - (at_ : Int).toNat) (List.drop (at_ : Int).toNat all) := ⟨_, rfl⟩
    rw [← hbs]
    have hb1 : bs ++ all.drop (at_ + 1 + pc.toNat) = all.drop at_ := by
      have e1 : bs = (all.drop at_).take (to - at_) := hbs
      have e2 : all.drop (at_ + 1 + pc.toNat) = (all.drop at_).drop (to - at_) := by
        rw [List.drop_drop]
        by_cases hc : at_ + 1 + pc.toNat ≤ all.length
        · congr 1
          omega
        · rw [List.drop_of_length_le (by omega), List.drop_of_length_le (by omega)]
      rw [e1, e2, List.take_append_drop]
    have hbl : bs.length ≤ 50000 := by
      have := congrArg List.length hb1
      simp only [List.length_append, List.length_drop] at this
      omega
    have hcl : cs.length ≤ 50000 := by
      have h1 := congrArg List.length g2
      have h2 : (frAll (kept.drop n)).length ≤ (frAll kept).length := by
        have : frAll kept = frAll (kept.take n) ++ frAll (kept.drop n) := by
          unfold frAll
          rw [← List.flatten_append, ← List.map_append, List.take_append_drop]
        rw [this]
        simp
      simp only [List.length_append] at h1
      rw [hA] at h2
      omega
    refine feed_ob false cs bs (by omega) (by omega) k _ ?_
    have hsum : (cs ++ bs) ++ all.drop (at_ + 1 + pc.toNat) = frAll (kept.drop n) := by rw [List.append_assoc, hb1, g2]
    have hcb : (cs ++ bs).length ≤ 100000 := by simp; omega
    generalize cs ++ bs = ds at hsum hcb
    conv => whnf
    refine ⟨⟨trivial, trivial⟩, permFrS _ _ _, ?_⟩
    conv => whnf
    refine loop_rule TrytabOk Try.checked.mixed [1, 5, 6, 7, 11, 12] [] [] (T := { x : Nat × List UInt8 × Bool // x.1 ≤ kept.length ∧ x.2.1 ++ all.drop (at_ + 1 + pc.toNat) = frAll (kept.drop x.1) ∧ x.2.1.length ≤ 100000 })
      (fun x => [.int .u8 (pc.toNat : Int), .ptr 0 0, .vec 1, .vec 2, .int .i64 (x.1.1 : Int), .int .i64 (at_ : Int)]) (fun x => fnH kept all x.1.2.1 x.1.2.2) 5 (fun x => x.1.2.1.length) ⟨(n, ds, k), g1, hsum, hcb⟩ rfl rfl ?_ ?_
    · conv => whnf
      exact ⟨leTs_refl _, leH_refl _, Nat.le_refl _⟩
    rintro ⟨⟨n, cs, k⟩, q1, q2, q3⟩
    simp only at q1 q2 q3
    have hstep := find_step (kept.drop n) (fun m hm => h4 m (List.mem_of_mem_drop hm)) cs _ q2
    conv => whnf
    refine call_rule [] ?_
    conv => whnf
    refine next2_ob cs (by omega) k _ (fun k' => ?_)
    unfold nxtB nxtW
    rcases hstep with ⟨f1, f2, f3⟩ | ⟨m, l', f1, f2, f3, f4⟩
    · generalize first cs = r at f1 ⊢
      obtain ⟨y, j, e⟩ := r
      simp only at f1 ⊢
      subst f1
      simp only [if_true]
      conv => whnf
      refine ⟨⟨(at_ + 1 + pc.toNat, n, cs, k'), q1, q2, f2, f3, by simp only; omega⟩, ?_, ⟨leT_refl _, leT_refl _, leT_refl _, leT_refl _, leT_refl _, ⟨rfl, by rw [w1, w2, w3]⟩, trivial⟩, leH_refl _, Nat.le_refl _⟩
      show all.length - (at_ + 1 + pc.toNat) < all.length - at_
      omega
    · have hj := frOf_len (h4 m (List.mem_of_mem_drop (by rw [f1]; simp)))
      have hok := (h4 m (List.mem_of_mem_drop (by rw [f1]; simp))).1
      have hnm : kept[n]? = some m := by
        have := congrArg (fun l => l[0]?) f1
        simpa using this
      have hnl : n < kept.length := (List.getElem?_eq_some_iff.1 hnm).1
      have hC : (0 : Int) ≤ (n : Int) ∧ (n : Int) < (kept.length : Int) := by omega
      have hB : ((n : Nat) : Int).toNat < kept.length := hnl
      have hz' : ∀ z, kept[((n : Nat) : Int).toNat]? = some z → m = z := fun z hz => by
        rw [← Option.some.injEq, ← hnm, ← hz]
        rfl
      have hge : decide ((kept.length : Int) ≤ (n : Int)) = false := by simp; omega
      have n1 : ¬ (bif !decide ((0 : Int) = 0) then true else decide ((kept.length : Int) ≤ (n : Int))) = true := by rw [hge]; simp
      have hd1 : kept.drop (n + 1) = l' := by
        have := congrArg List.tail f1
        simpa using this
      rw [f2]
      simp only [if_true, if_neg (by decide : ¬ (0 = 40))]
      conv => whnf
      repeat' first
        | (refine Box.mk ?_; conv => whnf)
        | (refine br_intro (fun h => absurd h n1) (fun h => ?_); conv => whnf)
        | (refine ⟨hC, ?_⟩; conv => whnf)
        | (refine ⟨hB, fun z hz => ?_⟩
           obtain rfl := hz' z hz
           clear hz
           conv => whnf)
        | (refine call_rule [] ?_
           conv => whnf
           refine same_ob m m hok _ (fun b hb => ?_)
           have hb := hb.2 rfl
           subst hb
           conv => whnf)
        | (refine ⟨?_, trivial⟩; conv => whnf)
        | (refine ⟨?_, ?_, trivial⟩ <;> conv => whnf)
        | (refine ⟨?_, ?_, ?_, trivial⟩ <;> conv => whnf)
        | fail
      all_goals
        refine ⟨⟨(n + 1, cs.drop (frOf m).length, k'), hnl, by rw [hd1]; exact f3, by simp; omega⟩, ?_, ⟨leT_refl _, leT_refl _, leT_refl _, leT_refl _, ⟨rfl, wrapI64' (m := n + 1) (by omega)⟩, leT_refl _, trivial⟩, leH_refl _, Nat.le_refl _⟩
        show (cs.drop (frOf m).length).length < cs.length
        simp
        omega
  · have h : ¬ at_ < all.length := by simp only at h; omega
    have hd : all.drop at_ = [] := List.drop_of_length_le (by omega)
    rw [hd, List.append_nil] at g2
    have hn : kept.drop n = [] := by
      cases hk : kept.drop n with
      | nil => rfl
      | cons m r =>
        have hlt := g3 m (by rw [hk]; rfl)
        rw [hk] at g2
        have : cs.length = (frOf m).length + (frAll r).length := by rw [g2]; simp [frAll]
        omega
    have hcs := g4 hn
    have hnl : n = kept.length := by
      have := congrArg List.length hn
      simp at this
      omega
    subst hcs
    subst hnl
    conv => whnf
    refine br_dec (fun hq => ?_) (fun hq => ?_)
    · conv => whnf
      refine call_rule [] ?_
      conv => whnf
      refine waits_ob [] 0 k _ ?_
      conv => whnf
      exact ⟨_, _, _, leT_refl _, leH_refl _, Nat.le_refl _, hK⟩
    · exact absurd rfl hq

end Go.Sx
end

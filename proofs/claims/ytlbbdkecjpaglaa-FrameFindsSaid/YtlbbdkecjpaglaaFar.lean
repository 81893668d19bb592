/- message's reader: fail, num, small, end; no condition. message's reader, at a ping; no condition. frame: New, Feed, fail; slices.Clone; no condition. messages last; no condition. -/
import Derived.Test.YtlbbdkecjpaglaaFaq

set_option linter.all false

section
open Go.Proofs
namespace Go.Sx
set_option linter.unusedVariables false

/-- a reader: its bytes, its error -/
abbrev rdH (p : Bool) (bs : List UInt8) (why : Nat) : Hp := [(0, .cells 103 [.isl p 1 encB bs, .int .i64 (why : Int)])]

def rdNum (most : Nat) (s : List UInt8 × Nat) : Nat × (List UInt8 × Nat) :=
  if s.2 = 0 then (if (vget s.1).2.2 = 0 then (if most < (vget s.1).1 then (0, (s.1, 62)) else ((vget s.1).1, (s.1.drop (vget s.1).2.1, 0))) else (0, (s.1, (vget s.1).2.2))) else (0, s)

theorem rfail_ob (p : Bool) (bs : List UInt8) (why e : Nat) (K : Post) (hK : K (.tup []) (rdH p bs (if why = 0 then e else why)) 1) : CallOb Try.prog 60 [.ptr 0 0, .int .i64 (e : Int)] (rdH p bs why) 1 K := by
  refine contract TrytabOk Try.checked.mixed Try.func60 rfl Try.call60 [0] [] [] (res0 Try.results60) Try.ntmps60 rfl ?_
  conv => whnf
  refine br_dec (fun h => ?_) (fun h => ?_)
  · rw [if_pos (by omega)] at hK
    conv => whnf
    exact ⟨_, _, _, leT_refl _, leH_refl _, Nat.le_refl _, hK⟩
  · rw [if_neg (by omega)] at hK
    conv => whnf
    exact ⟨_, _, _, leT_refl _, leH_refl _, Nat.le_refl _, hK⟩

theorem rnum2_ob (p : Bool) (most : Nat) (s : List UInt8 × Nat) (hb : s.1.length < 2 ^ 62) (K : Post) (hK : K (.int .u64 ((rdNum most s).1 : Int)) (rdH p (rdNum most s).2.1 (rdNum most s).2.2) 1) :
    CallOb Try.prog 73 [.ptr 0 0, .int .u64 (most : Int)] (rdH p s.1 s.2) 1 K := by
  refine contract TrytabOk Try.checked.mixed Try.func73 rfl Try.call73 [0] [] [4] (res1 Try.results73) Try.ntmps73 rfl ?_
  obtain ⟨bs, why⟩ := s
  simp only at hb
  unfold rdNum at hK
  simp only at hK
  conv => whnf
  refine br_intro (fun h => ?_) (fun h => ?_)
  · have h : ¬ why = 0 := by simp at h; omega
    simp only [if_neg h] at hK
    conv => whnf
    exact ⟨_, _, _, leT_refl _, leH_refl _, Nat.le_refl _, hK⟩
  · have h : why = 0 := by simp at h; omega
    simp only [if_pos h] at hK
    subst h
    have hv := vget_lt bs
    conv => whnf
    refine call_rule [] ?_
    conv => whnf
    refine get_ob p bs hb _ ?_
    generalize vget bs = g at hK hv
    obtain ⟨n, used, e⟩ := g
    simp only at hK hv
    conv => whnf
    refine br_intro (fun h2 => ?_) (fun h2 => ?_)
    · rw [pickAnd] at h2
      simp only [Bool.and_eq_true, decide_eq_true_eq] at h2
      have e0 : e = 0 := by omega
      have en : most < n := by omega
      rw [if_pos e0, if_pos en] at hK
      conv => whnf
      refine call_rule [] ?_
      conv => whnf
      refine rfail_ob p bs 0 62 _ ?_
      conv => whnf
      exact ⟨_, _, _, leT_refl _, leH_refl _, Nat.le_refl _, hK⟩
    · rw [pickAnd] at h2
      simp only [Bool.and_eq_false_iff, decide_eq_false_iff_not] at h2
      conv => whnf
      refine br_intro (fun h3 => ?_) (fun h3 => ?_)
      · have e0 : ¬ e = 0 := by simp at h3; omega
        rw [if_neg e0] at hK
        conv => whnf
        refine call_rule [] ?_
        conv => whnf
        refine rfail_ob p bs 0 e _ ?_
        conv => whnf
        exact ⟨_, _, _, leT_refl _, leH_refl _, Nat.le_refl _, hK⟩
      · have e0 : e = 0 := by simp at h3; omega
        have en : ¬ most < n := by rcases h2 with h2 | h2 <;> omega
        rw [if_pos e0, if_neg en] at hK
        subst e0
        conv => whnf
        refine ⟨⟨by simp only; omega, by simp only; omega⟩, ?_⟩
        conv => whnf
        refine ⟨_, _, _, leT_refl _, ?_, Nat.le_refl _, hK⟩
        exact ⟨rfl, ⟨rfl, ⟨id, rfl, by show (bs.drop ((used : Int).toNat)).map encB = _; simp⟩, ⟨rfl, rfl⟩, trivial⟩, trivial⟩

end Go.Sx
end

section
open Go.Proofs
namespace Go.Sx
set_option linter.unusedVariables false

theorem rsmall_ob (p : Bool) (s : List UInt8 × Nat) (hb : s.1.length < 2 ^ 62) (K : Post) (hK : K (.int .u32 ((rdNum 4294967295 s).1 : Int)) (rdH p (rdNum 4294967295 s).2.1 (rdNum 4294967295 s).2.2) 1) :
    CallOb Try.prog 45 [.ptr 0 0] (rdH p s.1 s.2) 1 K := by
  refine contract TrytabOk Try.checked.mixed Try.func45 rfl Try.call45 [0] [] [2] (res1 Try.results45) Try.ntmps45 rfl ?_
  have hl : (rdNum 4294967295 s).1 < 4294967296 := by
    unfold rdNum
    repeat' split
    all_goals simp only
    all_goals omega
  conv => whnf
  refine call_rule [] ?_
  conv => whnf
  refine rnum2_ob p 4294967295 s hb _ ?_
  generalize rdNum 4294967295 s = g at hK hl
  obtain ⟨n, s'⟩ := g
  simp only at hl
  conv => whnf
  refine ⟨_, _, _, ?_, leH_refl _, Nat.le_refl _, hK⟩
  exact ⟨rfl, wrapU32' hl⟩

theorem rend_ob (p : Bool) (bs : List UInt8) (why : Nat) (K : Post) (hK : K (.int .i64 ((if 0 < bs.length ∧ why = 0 then 60 else why : Nat) : Int)) (rdH p bs (if 0 < bs.length ∧ why = 0 then 60 else why)) 1) : CallOb Try.prog 33 [.ptr 0 0] (rdH p bs why) 1 K := by
  refine contract TrytabOk Try.checked.mixed Try.func33 rfl Try.call33 [0] [] [2] (res1 Try.results33) Try.ntmps33 rfl ?_
  conv => whnf
  refine br_dec (fun h => ?_) (fun h => ?_)
  · have h : 0 < bs.length := by omega
    have e : (if 0 < bs.length ∧ why = 0 then 60 else why) = (if why = 0 then 60 else why) := by simp [h]
    rw [e] at hK
    conv => whnf
    refine call_rule [] ?_
    conv => whnf
    refine rfail_ob p bs why 60 _ ?_
    conv => whnf
    exact ⟨_, _, _, leT_refl _, leH_refl _, Nat.le_refl _, hK⟩
  · have h : ¬ 0 < bs.length := by omega
    have e : (if 0 < bs.length ∧ why = 0 then 60 else why) = why := by simp [h]
    rw [e] at hK
    conv => whnf
    exact ⟨_, _, _, leT_refl _, leH_refl _, Nat.le_refl _, hK⟩

set_option maxRecDepth 4000 in
theorem rfieldN_ob (p : Bool) (s : List UInt8 × Nat) (hb : s.1.length < 2 ^ 62) (m : Msg) (K : Post) (hK : K (.tup []) [(0, .cells 103 [.isl p 1 encB (rdNum 4294967295 s).2.1, .int .i64 ((rdNum 4294967295 s).2.2 : Int)]), (1, .cells 42 { m with n := (rdNum 4294967295 s).1 }.cells)] 2) :
    CallOb Try.prog 32 [.ptr 0 0, .int .i32 110, .ptr 1 0] [(0, .cells 103 [.isl p 1 encB s.1, .int .i64 (s.2 : Int)]), (1, .cells 42 m.cells)] 2 K := by
  refine contract TrytabOk Try.checked.mixed Try.func32 rfl Try.call32 [0, 1] [] [] (res0 Try.results32) Try.ntmps32 rfl ?_
  conv => whnf
  refine call_rule [] ?_
  conv => whnf
  refine rsmall_ob p s hb _ ?_
  conv => whnf
  exact ⟨_, _, _, leT_refl _, leH_refl _, Nat.le_refl _, hK⟩

def pingMsg : Msg := { Msg.zero 7 with n := 1 }

theorem rd1 : rdNum 4294967295 ([1], 0) = (1, ([], 0)) := by decide

set_option maxRecDepth 8000 in
theorem getPing_ob (p : Bool) (K : Post) (hK : K (.tup [.agg pingMsg.cells, .int .i64 0]) [] 0) : CallOb Try.prog 20 [.int .u8 7, .isl p 1 encB [1]] [] 0 K := by
  refine contractC TrytabOk Try.checked.mixed Try.func20 rfl Try.call20 [] [] [.cell 4 42, .tmp 5] (resC2 Try.results20) Try.ntmps20 rfl ?_
  conv => whnf
  refine call_rule [] ?_
  conv => whnf
  refine fields_ob 7 _ ?_
  have hf : mFields 7 = ([110], true) := by decide
  rw [hf]
  conv => whnf
  refine loop_rule TrytabOk Try.checked.mixed [4, 8, 9, 27] [] [] (T := Bool) (fun x => [.ptr 0 0, .ptr 1 0, .ptr 2 0, .ptr 3 0])
    (fun x => [(0, .cells 42 (Msg.zero 0).cells), (1, .cells 42 (if x then pingMsg else Msg.zero 7).cells), (2, .cells 103 [.isl p 1 encB (if x then [] else [1]), .int .i64 0]), (3, .iter [110] x.toNat)]) 4 (fun x => (!x).toNat) false rfl rfl ?_ ?_
  · conv => whnf
    refine ⟨leTs_refl _, ?_, Nat.le_refl _⟩
    exact ⟨rfl, ⟨rfl, by simp [Msg.cells, leFs, leF, Msg.zero]⟩, rfl, ⟨rfl, by simp [Msg.cells, leFs, leF, Msg.zero]; exact ⟨rfl, rfl⟩⟩, rfl, leO_refl _, rfl, leO_refl _, trivial⟩
  · intro x
    cases x
    · conv => whnf
      intro b hb
      have hb' : 110 = b := by simpa using hb
      subst hb'
      refine ⟨by decide, ?_⟩
      conv => whnf
      refine call_rule [] ?_
      conv => whnf
      refine rfieldN_ob p ([1], 0) (by simp) (Msg.zero 7) _ ?_
      rw [rd1]
      conv => whnf
      exact ⟨true, by decide, leTs_refl _, leH_refl _, Nat.le_refl _⟩
    · conv => whnf
      refine call_rule [] ?_
      conv => whnf
      refine rend_ob p [] 0 _ ?_
      conv => whnf
      exact ⟨_, _, _, leT_refl _, leH_refl _, Nat.le_refl _, hK⟩

end Go.Sx
end

section
open Go.Proofs
namespace Go.Sx
set_option linter.unusedVariables false

/-- a frame's reader: its bytes, its error, whether its table is made -/
abbrev frR (bs : List UInt8) (why : Nat) (k : Bool) : Hp := [(0, .cells 55 [.vec 1, .int .i64 (why : Int), .ptr 2 0]), (1, .row 5 1 encB bs), (2, smO k.toNat 0 k.toNat (if k then crcTab else zeros256))]

/-- the same, where its bytes lie in a new row -/
abbrev frS (bs : List UInt8) (why : Nat) (k : Bool) : Hp := [(0, .cells 55 [.vec 3, .int .i64 (why : Int), .ptr 2 0]), (2, smO k.toNat 0 k.toNat (if k then crcTab else zeros256)), (3, .row 5 1 encB bs)]

set_option maxRecDepth 8000 in
theorem frNew_ob (K : Post) (hK : K (.ptr 0 0) (frR [] 0 false) 3) : CallOb Try.prog 5 [] [] 0 K := by
  refine contract TrytabOk Try.checked.mixed Try.func5 rfl Try.call5 [] [.cell 1 0 5 1 encB] [0] (res1 Try.results5) Try.ntmps5 rfl ?_
  conv => whnf
  refine call_rule [] ?_
  conv => whnf
  refine crcNew_ob _ ?_
  conv => whnf
  exact ⟨_, _, _, leT_refl _, leH_refl _, Nat.le_refl _, hK⟩

set_option maxRecDepth 8000 in
theorem feed_ob (p : Bool) (bs cs : List UInt8) (hb : bs.length ≤ 2 ^ 40) (hc : cs.length ≤ 2 ^ 40) (k : Bool) (K : Post) (hK : K (.tup []) (frS (bs ++ cs) 0 k) 4) : CallOb Try.prog 8 [.ptr 0 0, .isl p 1 encB cs] (frR bs 0 k) 3 K := by
  refine contract TrytabOk Try.checked.mixed Try.func8 rfl Try.call8 [0, 2] [] [] (res0 Try.results8) Try.ntmps8 rfl ?_
  conv => whnf
  refine ⟨cs, rfl, ?_, ?_⟩
  · show (bs.length + cs.length) * 1 ≤ _; omega
  conv => whnf
  exact ⟨_, _, _, leT_refl _, leH_refl _, Nat.le_refl _, hK⟩

theorem clone_ob (p : Bool) (xs : List UInt8) (hx : xs.length ≤ 2 ^ 40) (K : Post) (hK : K (.vec 0) [(0, .row 5 1 encB xs)] 1) : CallOb Try.prog 21 [.isl p 1 encB xs] [] 0 K := by
  refine contract TrytabOk Try.checked.mixed Try.func21 rfl Try.call21 [] [.slot 0 5 1 encB] [2] (res1 Try.results21) Try.ntmps21 rfl ?_
  conv => whnf
  intro b hb
  conv => whnf
  refine br_intro (fun h => ?_) (fun h => ?_)
  · have hx0 := hb h
    subst hx0
    conv => whnf
    exact ⟨_, _, _, leT_refl _, leH_refl _, Nat.le_refl _, hK⟩
  · conv => whnf
    refine ⟨UInt8, encB, [], rfl, by simp, ?_⟩
    conv => whnf
    refine ⟨xs, rfl, ?_, ?_⟩
    · show (0 + xs.length) * 1 ≤ _; omega
    conv => whnf
    exact ⟨_, _, _, leT_refl _, leH_refl _, Nat.le_refl _, hK⟩

set_option maxRecDepth 8000 in
theorem ffail_ob (bs : List UInt8) (e : Nat) (k : Bool) (K : Post) (hK : K (.tup [.agg (Msg.zero 0).cells, .int .i64 (e : Int)]) (frS [] e k) 4) : CallOb Try.prog 18 [.ptr 0 0, .int .i64 (e : Int)] (frR bs 0 k) 3 K := by
  refine contractC TrytabOk Try.checked.mixed Try.func18 rfl Try.call18 [0, 2] [.cell 0 0 5 1 encB] [.cell 4 42, .tmp 5] (resC2 Try.results18) Try.ntmps18 rfl ?_
  conv => whnf
  refine ⟨_, _, _, ?_, leH_refl _, Nat.le_refl _, hK⟩
  refine ⟨?_, ⟨rfl, rfl⟩, trivial⟩
  show leFs _ _
  repeat' first
    | exact trivial
    | exact leF_refl _
    | exact rfl
    | refine And.intro ?_ ?_

end Go.Sx
end

section
namespace Go.Sx

theorem perm_str (s : List UInt8) : Perm (encStr s) := .flat _ rfl
theorem perm_i32 (s : Int) : Perm (encI32 s) := .flat _ rfl
theorem perm_b (s : UInt8) : Perm (encB s) := .flat _ rfl
theorem perm_hit (h : Hit) : Perm (encHit h) := .agg _ (by
  intro y hy
  simp only [List.mem_cons, List.not_mem_nil, or_false] at hy
  rcases hy with rfl | rfl <;> exact .flat _ rfl)
theorem perm_item (x : Item) : Perm (encItem x) := .agg _ (by
  intro y hy
  simp only [List.mem_cons, List.not_mem_nil, or_false] at hy
  rcases hy with rfl | rfl | rfl
  · exact .flat _ rfl
  · exact .isl _ _ _ (fun z _ => perm_i32 z)
  · exact .isl _ _ _ (fun z _ => perm_str z))
theorem perm_chg (x : Chg) : Perm (encChg x) := .agg _ (by
  intro y hy
  simp only [List.mem_cons, List.not_mem_nil, or_false] at hy
  rcases hy with rfl | rfl | rfl | rfl
  · exact .flat _ rfl
  · exact .flat _ rfl
  · exact .isl _ _ _ (fun z _ => perm_i32 z)
  · exact .isl _ _ _ (fun z _ => perm_str z))

theorem perm_msg (m : Msg) (f : Int) : permL 4000 [.tup [.agg m.cells, .int .i64 f]] :=
  ⟨⟨⟨fun x _ => perm_chg x, fun x _ => perm_i32 x, fun x _ => perm_str x, fun x _ => perm_str x, fun x _ => perm_str x, fun x _ => perm_b x, fun x _ => perm_str x, fun x _ => perm_item x, fun x _ => perm_hit x, trivial⟩, trivial⟩, trivial⟩

end Go.Sx
end

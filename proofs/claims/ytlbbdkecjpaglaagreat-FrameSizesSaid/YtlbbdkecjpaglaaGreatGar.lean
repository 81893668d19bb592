/- The document's example (alive); no condition. -/
import Derived.Test.YtlbbdkecjpaglaaGreatGaq

set_option linter.all false

section
open Go.Proofs
namespace Go.Sx
set_option linter.unusedVariables false

theorem CallOb.le {P : Program} {f : FuncId} {args args' : List V} {hp hp' : Hp} {nx : Nat} {K : Post} (hk : CallOb P f args' hp' nx K) (ha : leTs args args') (hh : leH hp hp') : CallOb P f args hp nx K :=
  ⟨fun C S w cargs hs hv => hk.out C S w cargs ⟨HR.le hs.jj hh hs.hr, hs.lt, hs.jlt, hs.jj⟩ (LR.leTs hs.jj ha hv)⟩

theorem permFrS (bs : List UInt8) (why : Nat) (k : Bool) : permH (frS bs why k) := ⟨trivial, trivial, fun x _ => .flat _ rfl, fun x _ => .flat _ rfl, trivial⟩

theorem ping_ok : pingMsg.Ok := by
  constructor <;> simp [pingMsg, Msg.zero, TextsOk]
  constructor <;> simp

theorem ping_raw : pingMsg.Raw := by
  constructor <;> simp [pingMsg, Msg.zero, TextsRaw]

theorem ping_run : mRun (mFields 7).1 (([], false), pingMsg) = (([1], false), Msg.zero 7) := by
  have h : mFields 7 = ([110], true) := by decide
  rw [h]
  show mField 110 ([], false) pingMsg = _
  have e : mField 110 ([], false) pingMsg = (([] ++ vput 1, false), { pingMsg with n := 0 }) := rfl
  rw [e, vput_lt (by omega)]
  rfl

theorem ping_put : mPut pingMsg = some [1] := by
  unfold mPut
  have e : mRun (mFields pingMsg.kind).1 (([], false), pingMsg) = (([1], false), Msg.zero 7) := ping_run
  rw [if_pos (show (mFields pingMsg.kind).2 = true by decide), e, if_neg]
  simp [Msg.Empty, Msg.zero]

theorem ping_le : leTs [.agg [.int .u8 7, .int .u32 0, .int .u32 0, .int .u64 0, .int .u8 0, .int .u32 1, .str [], .str [], .int .u8 0, .int .u8 0, .bool false, .int .u8 0, .int .u16 0, .nils, .int .u32 0, .nils, .int .u16 0, .int .u16 0, .nils, .nils, .nils, .int .u32 0, .int .u32 0, .nils, .int .u64 0, .nils, .nils, .nils]] [.agg pingMsg.cells] := by
  refine ⟨?_, trivial⟩
  show leFs _ _
  repeat' first
    | exact trivial
    | exact leF_refl _
    | exact rfl
    | refine And.intro ?_ ?_

theorem vput1 : vput 1 = [1] := by rw [vput_lt (by omega)]; rfl

theorem frPing_len : (frBytes 7 [1]).length = 10 := by simp [frBytes, frHead, be32, vput1]
theorem frPing_head : frHead 7 [1] = [76, 68, 1, 7, 1, 1] := by simp [frHead, vput1]

theorem frPing_v : frV (frBytes 7 [1]) = (1, 1, 0) := by
  have e : (frBytes 7 [1]).drop 4 = 1 :: ([1] ++ be32 (crcMore 0 (frHead 7 [1]))) := by
    simp [frBytes, frPing_head]
  unfold frV
  rw [e]
  rfl

theorem frPing_to : frTo (frBytes 7 [1]) = 6 := by unfold frTo; rw [frPing_v]; rfl

theorem frPing_next : nextE (frBytes 7 [1]) = 0 := by
  have h : hdrF (frBytes 7 [1]) 4 0 = 0 := by
    simp only [frBytes, frPing_head]
    rfl
  unfold nextE
  rw [if_neg (by rw [h]; simp), frPing_v, frPing_to, frPing_len]
  rw [if_neg (by decide), if_neg (by decide), if_neg (by decide), if_neg (by decide)]
  have e1 : (frBytes 7 [1]).take 6 = frHead 7 [1] := by
    simp only [frBytes, frPing_head]
    simp
  have e2 : ((frBytes 7 [1]).drop 6).take 4 = be32 (crcMore 0 (frHead 7 [1])) := by
    simp only [frBytes, frPing_head]
    simp [be32]
  rw [e1, e2, if_pos rfl]

theorem frPing_args : (frBytes 7 [1]).getD 3 0 = 7 ∧ ((frBytes 7 [1]).take (frTo (frBytes 7 [1]))).drop (4 + (frV (frBytes 7 [1])).2.1) = [1] := by
  rw [frPing_to, frPing_v]
  simp only [frBytes, frPing_head]
  constructor
  · simp
  · simp

theorem frPing_rest : (frBytes 7 [1]).drop (frTo (frBytes 7 [1]) + 4) = [] := by
  rw [frPing_to]
  exact List.drop_of_length_le (by rw [frPing_len]; omega)

theorem next76 : nextE [76] = 40 := by decide
theorem next7669 : nextE [76, 69] = 70 := by decide

set_option maxHeartbeats 1000000 in
set_option maxRecDepth 8000 in
theorem alive_ob : Alive := by
  intro K hK
  refine contract TryztabOk Tryz.checked.mixed Tryz.func7 rfl Tryz.call7 [] [] [0] (res1 Tryz.results7) Tryz.ntmps7 rfl ?_
  conv => whnf
  refine call_rule [] ?_
  conv => whnf
  refine CallOb.le (fencode_ob pingMsg ping_ok _ (fun hn => ?_) (fun bs hs hl => ?_) (fun bs hs hl => ?_)) ping_le trivial
  · rw [ping_put] at hn; cases hn
  · rw [ping_put] at hs; cases hs; simp at hl
  rw [ping_put] at hs
  cases hs
  have hkd : frBytes pingMsg.kind [1] = frBytes 7 [1] := rfl
  rw [hkd]
  have hlen := frPing_len
  have hnx := frPing_next
  have hag := frPing_args
  have hrs := frPing_rest
  generalize frBytes 7 [1] = F at hlen hnx hag hrs ⊢
  conv => whnf
  refine call_rule [] ?_
  conv => whnf
  refine frNew_ob _ ?_
  conv => whnf
  refine br_intro (fun h => ?_) (fun h => ?_)
  · exfalso
    simp [hlen] at h
  conv => whnf
  refine call_rule [true, false] ?_
  conv => whnf
  refine feed_ob false [] F (by simp) (by omega) false _ ?_
  conv => whnf
  refine ⟨⟨trivial, trivial⟩, permFrS _ _ _, ?_⟩
  conv => whnf
  refine call_rule [] ?_
  conv => whnf
  refine next_ob F (by omega) false pingMsg 0 (fun _ K' hK' => ?_) _ (fun h => ?_) (fun e h h0 h4 k' => ?_) (fun _ h => ?_) (fun _ _ => ?_)
  · rw [hag.1, hag.2]
    exact getPing_ob false K' hK'
  · rw [hnx] at h; cases h
  · rw [hnx] at h; exact absurd h.symm h0
  · exact absurd rfl h
  rw [hrs]
  conv => whnf
  refine ⟨UInt8, encB, [76], rfl, build1 76 rfl rfl rfl rfl rfl, ?_⟩
  conv => whnf
  refine call_rule [true, false] ?_
  conv => whnf
  refine feed_ob false [] [76] (by simp) (by simp) true _ ?_
  conv => whnf
  refine ⟨⟨trivial, trivial⟩, permFrS _ _ _, ?_⟩
  conv => whnf
  refine call_rule [] ?_
  conv => whnf
  refine next_ob [76] (by simp) true pingMsg 0 (fun h K' hK' => ?_) _ (fun h => ?_) (fun e h h0 h4 k' => ?_) (fun h _ => ?_) (fun h _ => ?_)
  · rw [next76] at h; cases h
  · conv => whnf
    refine ⟨UInt8, encB, [69], rfl, build1 69 rfl rfl rfl rfl rfl, ?_⟩
    conv => whnf
    refine call_rule [true, false] ?_
    conv => whnf
    refine feed_ob false [76] [69] (by simp) (by simp) true _ ?_
    conv => whnf
    refine ⟨⟨trivial, trivial⟩, permFrS _ _ _, ?_⟩
    conv => whnf
    refine call_rule [] ?_
    conv => whnf
    refine next_ob [76, 69] (by simp) true pingMsg 0 (fun h K' hK' => ?_) _ (fun h => ?_) (fun e h h0 h4 k' => ?_) (fun h _ => ?_) (fun h _ => ?_)
    · rw [next7669] at h; cases h
    · rw [next7669] at h; cases h
    · rw [next7669] at h
      subst h
      conv => whnf
      refine ⟨_, _, _, ?_, leH_refl _, Nat.le_refl _, hK⟩
      exact rfl
    · rw [next7669] at h; cases h
    · rw [next7669] at h; cases h
  · rw [next76] at h; exact absurd h.symm h4
  · rw [next76] at h; cases h
  · rw [next76] at h; cases h

end Go.Sx
end

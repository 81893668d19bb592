/- crc's Summer: loads, stores, the lock, on a variable with an array at its end; no condition. crc's table; no condition. crc: sync.Once; no condition. crc: New, More, Of; no condition. crc by its table is crc bit by bit; no condition. frame.Encode; no condition. lodestarref05: More, Of; lodestarref07: Sum, Encode; no condition. FrameEncodes, FrameSizes, given that the document's example comes out; no other condition. -/
import Derived.Test.YtlbbdkecjpaglaaFao

set_option linter.all false

section
open Go.Proofs
namespace Go.Sx
set_option linter.unusedVariables false

def encU32 (n : Nat) : V := .int .u32 n

/-- a Summer: done, the lock's state, whether it is made, its table -/
abbrev smO (d s m : Nat) (xs : List Nat) : Ob := .arr 89 [.int .u32 (d : Int), .int .i32 (s : Int), .int .u32 ((0 : Nat) : Int), .int .u32 (m : Int)] encU32 xs
abbrev smH (d s m : Nat) (xs : List Nat) : Hp := [(0, smO d s m xs)]

theorem VR.int_of {h : Array Obj} {C : Cx} {B : Nat} {k : IntKind} {n : Int} {v : Value} (e : VR h C B (.int k n) v) : v = .int k n := by
  cases e with
  | imm _ _ e => cases e; rfl

section
variable {C : Cx} {S : Nat → Prop} {w : World} {ty : TypeId} {pre : List V} {α : Type} {enc : α → V} {xs : List α} {nx : Nat}

theorem pre_get (hs : HSat [(0, .arr ty pre enc xs)] nx C S w) {o : Nat} {x : V} (ho : pre[o]? = some x) :
    ∃ b v, (C.N 0).blk = some b ∧ w.cell? ⟨b, o, none⟩ = some v ∧ w.frozen? ⟨b, o, none⟩ = false ∧ VR w.heap C nx x v := by
  obtain ⟨S1, ⟨b, arr, hb, hh, hasz, hl, hxs, hSb⟩, _, _⟩ := hs.hr.get (n := 0) (o := .arr ty pre enc xs) rfl
  have hlt := (List.getElem?_eq_some_iff.1 ho).1
  have hla : o < arr.size := by omega
  refine ⟨b, arr[o], hb, ?_, ?_, hl o x _ ho (Array.getElem?_eq_getElem hla)⟩
  · simp [World.cell?, hh, hla]
  · simp [World.frozen?, hh]

theorem setCell_putB {w : World} {b o : Nat} {v : Value} {arr : Array Value} {ty : TypeId} {fz : Nat × Nat} (hh : w.heap[b]? = some (.cells arr ty fz)) : w.setCell ⟨b, o, none⟩ v = putB w b (.cells (arr.setIfInBounds o v) ty fz) := by
  unfold World.setCell putB
  congr 1
  have hlt : b < w.heap.size := (Array.getElem?_eq_some_iff.1 hh).1
  apply Array.ext_getElem?
  intro i
  rw [Array.getElem?_modify]
  by_cases hi : b = i
  · subst hi
    rw [if_pos rfl, hh, Array.getElem?_setIfInBounds_self_of_lt hlt]
    simp
  · rw [if_neg hi, Array.getElem?_setIfInBounds_ne hi]

theorem pre_set (hs : HSat [(0, .arr ty pre enc xs)] nx C S w) {b : Nat} (hb : (C.N 0).blk = some b) {o : Nat} (ho : o < pre.length) {k : IntKind} {y : Int} :
    HSat [(0, .arr ty (pre.set o (.int k y)) enc xs)] nx C S (w.setCell ⟨b, o, none⟩ (.int k y)) ∧ Ext nx C C S S w (w.setCell ⟨b, o, none⟩ (.int k y)) := by
  obtain ⟨S1, ⟨b', arr, hb', hh, hasz, hl, hxs, hSb⟩, _, _⟩ := hs.hr.get (n := 0) (o := .arr ty pre enc xs) rfl
  rw [hb] at hb'
  cases hb'
  have hSu : ∀ S2, OR w.heap C nx 0 S2 (.arr ty pre enc xs) → ∀ k, S2 k ↔ k = b := fun S2 ho2 k => by
    obtain ⟨b2, _, hb2, _, _, _, _, hS2⟩ := ho2
    rw [hb] at hb2; cases hb2; exact hS2 k
  have hJne : ∀ p k, C.J p k → b ≠ k := fun p k hj e => (hs.jlt p k hj).2 (by
    obtain ⟨S3, ⟨b3, _, hb3, _, _, _, _, hS3⟩, _, hsub⟩ := hs.hr.get (n := 0) (o := .arr ty pre enc xs) rfl
    rw [hb] at hb3; cases hb3
    exact e ▸ hsub b ((hS3 b).2 rfl))
  rw [setCell_putB hh]
  refine put_sat (hp := [(0, .arr ty pre enc xs)]) hs (n := 0) rfl hb (.cells (arr.setIfInBounds o (.int k y)) ty (0, 0)) (o' := .arr ty (pre.set o (.int k y)) enc xs) hSu ⟨b, _, hb, putB_at (lt_of_at hh), by simpa using hasz, ?_, ?_, fun _ => Iff.rfl⟩
  · intro i x v hx hv
    by_cases hi : o = i
    · subst hi
      rw [List.getElem?_set_self ho] at hx
      rw [Array.getElem?_setIfInBounds_self_of_lt (by omega)] at hv
      cases hx; cases hv
      exact .imm _ _ (.int _ _)
    · rw [List.getElem?_set_ne hi] at hx
      rw [Array.getElem?_setIfInBounds_ne hi] at hv
      exact VR.mono (C' := C) (B' := nx) (hl i x v hx hv) (fun p k hj => ⟨hj, putB_ne (hJne p k hj)⟩) (fun _ _ => rfl) (Nat.le_refl _)
  · intro i x hx
    obtain ⟨v, h1, h2, h3⟩ := hxs i x hx
    refine ⟨v, ?_, h2, h3.mono (fun p k hj => ⟨hj, putB_ne (hJne p k hj)⟩)⟩
    rw [List.length_set, Array.getElem?_setIfInBounds_ne (by omega)]
    exact h1

theorem ptr_at {hp : Hp} (hs : HSat hp nx C S w) {o b : Nat} (hb : (C.N 0).blk = some b) {v : Value} (e : VR w.heap C nx (.ptr 0 o) v) : v = .pointer (some ⟨b, o, none⟩) := by
  obtain ⟨b', _, h1, rfl⟩ := e.ptr_inv
  rw [hb] at h1; cases h1; rfl

end

theorem args1 {h : Array Obj} {C : Cx} {B : Nat} {x : V} {cargs : Array Value} (hv : LR h C B [x] cargs) : ∃ v, cargs = #[v] ∧ VR h C B x v := by
  obtain ⟨l⟩ := cargs
  match l, hv with
  | [v], hv => exact ⟨v, rfl, hv.2 0 x v rfl rfl⟩
  | [], hv => exact absurd hv.1 (by simp)
  | _ :: _ :: _, hv => exact absurd hv.1 (by simp)

theorem args2 {h : Array Obj} {C : Cx} {B : Nat} {x y : V} {cargs : Array Value} (hv : LR h C B [x, y] cargs) : ∃ v u, cargs = #[v, u] ∧ VR h C B x v ∧ VR h C B y u := by
  obtain ⟨l⟩ := cargs
  match l, hv with
  | [v, u], hv => exact ⟨v, u, rfl, hv.2 0 x v rfl rfl, hv.2 1 y u rfl rfl⟩
  | [], hv => exact absurd hv.1 (by simp)
  | [_], hv => exact absurd hv.1 (by simp)
  | _ :: _ :: _ :: _, hv => exact absurd hv.1 (by simp)

theorem callSem_value {P : Program} {f : FuncId} {cargs : Array Value} {w w' : World} {v : Value} {R : Value → World → Prop} (h : (callFunc f cargs).run P w = .ok (.value v) w') (hr : R v w') : CallSem P f cargs w R := by
  unfold CallSem
  rw [h]
  exact hr

theorem callSem_enter {P : Program} {f : FuncId} {cargs : Array Value} {w : World} {R : Value → World → Prop} (h : (callFunc f cargs).run P w = .ok (.enter f cargs) w) (hr : Calls P f cargs w fun e w' => ∃ v, e = .returned v ∧ R v w') : CallSem P f cargs w R := by
  unfold CallSem
  rw [h]
  exact hr

theorem calls_of_sem {P : Program} {f : FuncId} {cargs : Array Value} {w : World} {R : Value → World → Prop} (h : (callFunc f cargs).run P w = .ok (.enter f cargs) w) (hr : CallSem P f cargs w R) : Calls P f cargs w fun e w' => ∃ v, e = .returned v ∧ R v w' := by
  unfold CallSem at hr
  rw [h] at hr
  exact hr

set_option maxRecDepth 100000 in
theorem ld_ob {α : Type} {enc : α → V} (ty : TypeId) (pre : List V) (xs : List α) (o : Nat) (x : Int) (ho : pre[o]? = some (.int .u32 x)) (K : Post) (hK : K (.int .u32 x) [(0, .arr ty pre enc xs)] 1) :
    CallOb Try.prog 81 [.ptr 0 o] [(0, .arr ty pre enc xs)] 1 K := by
  constructor
  intro C S w cargs hs hv
  obtain ⟨v, ec, h1⟩ := args1 hv
  subst ec
  obtain ⟨b, u, hb, hc, hz, hu⟩ := pre_get hs ho
  cases ptr_at hs hb h1
  cases hu.int_of
  have hr := run_call_load (P := Try.prog) Try.func81 (by kernel_rfl) (by kernel_rfl) (by kernel_rfl) .u32 (by kernel_rfl) hc
  refine callSem_value hr ?_
  exact ⟨_, _, _, C, S, hK, hs, .imm _ _ (.int _ _), Ext.refl _ _ _ _, Nat.le_refl _⟩

set_option maxRecDepth 100000 in
theorem st_ob {α : Type} {enc : α → V} (ty : TypeId) (pre : List V) (xs : List α) (o : Nat) (x : V) (y : Int) (ho : pre[o]? = some x) (K : Post) (hK : K (.tup []) [(0, .arr ty (pre.set o (.int .u32 y)) enc xs)] 1) :
    CallOb Try.prog 84 [.ptr 0 o, .int .u32 y] [(0, .arr ty pre enc xs)] 1 K := by
  constructor
  intro C S w cargs hs hv
  obtain ⟨v, u', ec, h1, h2⟩ := args2 hv
  subst ec
  obtain ⟨b, u, hb, hc, hz, hu⟩ := pre_get hs ho
  cases ptr_at hs hb h1
  cases h2.int_of
  have hr := run_call_store (P := Try.prog) Try.func84 (by kernel_rfl) (by kernel_rfl) (by kernel_rfl) (by kernel_rfl) (k := .u32) (y := y) hc hz
  refine callSem_value hr ?_
  obtain ⟨g1, g2⟩ := pre_set hs hb (k := .u32) (y := y) (List.getElem?_eq_some_iff.1 ho).1
  exact ⟨_, _, _, C, S, hK, g1, .tup [] _ (by simp) (fun i x v h => by simp at h), g2, Nat.le_refl _⟩

theorem load_ob (d s m : Nat) (xs : List Nat) (K : Post) (hK : K (.bool (decide (¬ d = 0))) (smH d s m xs) 1) :
    CallOb Try.prog 70 [.ptr 0 0] (smH d s m xs) 1 K := by
  refine contract TrytabOk Try.checked.mixed Try.func70 rfl Try.call70 [0] [] [2] (res1 Try.results70) Try.ntmps70 rfl ?_
  conv => whnf
  refine call_rule [] ?_
  conv => whnf
  refine ld_ob _ _ xs _ (d : Int) rfl _ ?_
  conv => whnf
  refine ⟨_, _, _, ?_, leH_refl _, Nat.le_refl _, hK⟩
  show (_ : Bool) = _
  by_cases hd : d = 0
  · simp [hd]
  · simp [hd]

theorem b32_ob (b : Bool) (K : Post) (hK : K (.int .u32 (b.toNat : Int)) [] 0) : CallOb Try.prog 85 [.bool b] [] 0 K := by
  refine contract TrytabOk Try.checked.mixed Try.func85 rfl Try.call85 [] [] [2] (res1 Try.results85) Try.ntmps85 rfl ?_
  conv => whnf
  refine br_intro (fun h => ?_) (fun h => ?_)
  · subst h
    conv => whnf
    exact ⟨_, _, _, leT_refl _, leH_refl _, Nat.le_refl _, hK⟩
  · subst h
    conv => whnf
    exact ⟨_, _, _, leT_refl _, leH_refl _, Nat.le_refl _, hK⟩

theorem made_ob (d s m : Nat) (xs : List Nat) (K : Post) (hK : K (.tup []) (smH d s 1 xs) 1) : CallOb Try.prog 72 [.ptr 0 3, .bool true] (smH d s m xs) 1 K := by
  refine contract TrytabOk Try.checked.mixed Try.func72 rfl Try.call72 [0] [] [] (res0 Try.results72) Try.ntmps72 rfl ?_
  conv => whnf
  repeat' first
    | exact ⟨_, _, _, leT_refl _, leH_refl _, Nat.le_refl _, hK⟩
    | (refine ⟨?_, trivial⟩; conv => whnf)
    | (refine ⟨?_, ?_, trivial⟩ <;> conv => whnf)
    | (refine ⟨?_, ?_, ?_, trivial⟩ <;> conv => whnf)
    | (refine call_rule [] ?_; conv => whnf
       refine b32_ob true _ ?_; conv => whnf)
    | (refine call_rule [] ?_; conv => whnf
       refine st_ob _ _ xs _ (.int .u32 (m : Int)) _ rfl _ ?_; conv => whnf)

end Go.Sx
end

section
open Go.Proofs
namespace Go.Sx
set_option linter.unusedVariables false

def crcStep (c : Nat) : Nat := if c % 2 = 1 then (c / 2) ^^^ 3988292384 else c / 2
def crcIt : Nat → Nat → Nat
  | 0, c => c
  | k + 1, c => crcStep (crcIt k c)
def crcTab : List Nat := (List.range 256).map (crcIt 8)

theorem crcStep_lt {c : Nat} (h : c < 2 ^ 32) : crcStep c < 2 ^ 32 := by
  unfold crcStep
  split
  · exact Nat.xor_lt_two_pow (by omega) (by decide)
  · omega

theorem crcIt_lt {c : Nat} (h : c < 2 ^ 32) : ∀ k, crcIt k c < 2 ^ 32
  | 0 => h
  | k + 1 => crcStep_lt (crcIt_lt h k)

def tabAt (xs : List Nat) (i : Nat) : List Nat := crcTab.take i ++ xs.drop i

theorem crcTab_len : crcTab.length = 256 := by simp [crcTab]
theorem crcTab_at {i : Nat} (h : i < 256) : crcTab[i]? = some (crcIt 8 i) := by simp [crcTab, h]

theorem tabAt_len (xs : List Nat) (i : Nat) (hx : xs.length = 256) (hi : i ≤ 256) : (tabAt xs i).length = 256 := by
  simp [tabAt, crcTab_len]; omega

theorem tabAt_set (xs : List Nat) (i : Nat) (hx : xs.length = 256) (hi : i < 256) : (tabAt xs i).set i (crcIt 8 i) = tabAt xs (i + 1) := by
  have h1 : (crcTab.take i).length = i := by simp [crcTab_len]; omega
  have h2 : xs.drop i = xs[i]'(by omega) :: xs.drop (i + 1) := List.drop_eq_getElem_cons (by omega)
  unfold tabAt
  rw [List.set_append_right _ _ (by omega), h1, Nat.sub_self, h2, List.set_cons_zero, List.take_add_one, crcTab_at hi]
  simp

theorem tabAt_0 (xs : List Nat) : tabAt xs 0 = xs := by simp [tabAt]
theorem tabAt_256 (xs : List Nat) (hx : xs.length = 256) : tabAt xs 256 = crcTab := by
  unfold tabAt
  rw [List.take_of_length_le (by rw [crcTab_len]; omega), List.drop_of_length_le (by omega)]
  simp

set_option maxRecDepth 8000 in
theorem make_ob (d s m : Nat) (xs : List Nat) (hx : xs.length = 256) (K : Post) (hK : K (.tup []) (smH d s 1 crcTab) 1) : CallOb Try.prog 44 [.ptr 0 0] (smH d s m xs) 1 K := by
  refine contract TrytabOk Try.checked.mixed Try.func44 rfl Try.call44 [0] [] [] (res0 Try.results44) Try.ntmps44 rfl ?_
  conv => whnf
  refine loop_rule TrytabOk Try.checked.mixed [0, 4] [0] [] (T := { i : Nat // i ≤ 256 }) (fun x => [.ptr 0 0, .int .i64 (x.1 : Int)]) (fun x => smH d s m (tabAt xs x.1)) 1 (fun x => 256 - x.1) ⟨0, by omega⟩ rfl rfl ?_ ?_
  · conv => whnf
    refine ⟨leTs_refl _, ?_, Nat.le_refl _⟩
    rw [tabAt_0]
    exact leH_refl _
  · rintro ⟨i, hi⟩
    conv => whnf
    refine br_dec (fun hlt => ?_) (fun hlt => ?_)
    · have hlt : i < 256 := by simp only at hlt; omega
      have hi32 : i < 2 ^ 32 := by omega
      conv => whnf
      refine loop_rule TrytabOk Try.checked.mixed [0, 2, 3, 4, 9] [0] [] (T := { k : Nat // k ≤ 8 }) (fun x => [.ptr 0 0, .int .i64 (i : Int), .int .u32 (crcIt x.1 i : Nat), .int .i64 (i : Int), .int .i64 (x.1 : Int)]) (fun x => smH d s m (tabAt xs i)) 1 (fun x => 8 - x.1) ⟨0, by omega⟩ rfl rfl ?_ ?_
      · conv => whnf
        refine ⟨⟨leT_refl _, leT_refl _, ⟨rfl, wrapU32' hi32⟩, leT_refl _, leT_refl _, trivial⟩, leH_refl _, Nat.le_refl _⟩
      · rintro ⟨k, hk⟩
        have hc := crcIt_lt hi32 k
        conv => whnf
        refine br_dec (fun hlk => ?_) (fun hlk => ?_)
        · have hlk : k < 8 := by simp only at hlk; omega
          conv => whnf
          simp only
          have e1 : bitI BinOp.and IntKind.u32 (crcIt k i : Nat) 1 = ((crcIt k i % 2 : Nat) : Int) := by
            rw [show (1 : Int) = ((1 : Nat) : Int) from rfl, bitI_and .u32 rfl _ 1 hc (by decide), Nat.and_one_is_mod]
          have e2 : ((2 : Int) ^ min (Int.toNat 1) IntKind.u32.bits) = ((2 : Nat) : Int) := by decide
          rw [e1]
          refine br_dec (fun ho => ?_) (fun ho => ?_)
          · conv => whnf
            refine ⟨by decide, ?_⟩
            conv => whnf
            refine ⟨⟨k + 1, by omega⟩, ?_, ?_, leH_refl _, Nat.le_refl _⟩
            · show 8 - (k + 1) < 8 - k; omega
            · refine ⟨leT_refl _, leT_refl _, ?_, leT_refl _, ⟨rfl, wrapI64' (m := k + 1) (by omega)⟩, trivial⟩
              show _ ∧ _
              refine ⟨rfl, ?_⟩
              rw [e2, fdivNat, show (3988292384 : Int) = ((3988292384 : Nat) : Int) from rfl, bitI_xor .u32 rfl _ _ (Nat.lt_of_le_of_lt (Nat.div_le_self _ _) hc) (by decide)]
              simp only [crcIt, crcStep]
              rw [if_pos (by omega)]
          · conv => whnf
            refine ⟨by decide, ?_⟩
            conv => whnf
            refine ⟨⟨k + 1, by omega⟩, ?_, ?_, leH_refl _, Nat.le_refl _⟩
            · show 8 - (k + 1) < 8 - k; omega
            · refine ⟨leT_refl _, leT_refl _, ?_, leT_refl _, ⟨rfl, wrapI64' (m := k + 1) (by omega)⟩, trivial⟩
              show _ ∧ _
              refine ⟨rfl, ?_⟩
              rw [e2, fdivNat]
              simp only [crcIt, crcStep]
              rw [if_neg (by omega)]
        · have hk8 : k = 8 := by simp only at hlk; omega
          subst hk8
          conv => whnf
          refine ⟨⟨by simp, by simp; omega⟩, ?_⟩
          conv => whnf
          refine ⟨i, ?_, ?_, crcIt 8 i, rfl, ?_⟩
          · show (i : Int).toNat * 1 + (0 + 4) = 4 + i
            simp; omega
          · rw [tabAt_len xs i hx hi]; exact hlt
          conv => whnf
          refine ⟨⟨i + 1, by omega⟩, ?_, ⟨leT_refl _, ⟨rfl, wrapI64' (m := i + 1) (by omega)⟩, trivial⟩, ?_, Nat.le_refl _⟩
          · show 256 - (i + 1) < 256 - i; omega
          · rw [tabAt_set xs i hx hlt]; exact leH_refl _
    · have hi6 : i = 256 := by simp only at hlt; omega
      subst hi6
      conv => whnf
      refine call_rule [] ?_
      conv => whnf
      rw [tabAt_256 xs hx]
      refine made_ob d s m crcTab _ ?_
      conv => whnf
      exact ⟨_, _, _, leT_refl _, leH_refl _, Nat.le_refl _, hK⟩

end Go.Sx
end

section
open Go.Proofs
namespace Go.Sx
set_option linter.unusedVariables false

theorem ob_calls {P : Program} {f : FuncId} {args : List V} {hp : Hp} {nx : Nat} {K : Post} (h : CallOb P f args hp nx K) (hc : ∀ args w, (callFunc f args).run P w = .ok (.enter f args) w) {C : Cx} {S : Nat → Prop} {w : World} {cargs : Array Value} (hs : HSat hp nx C S w) (hv : LR w.heap C nx args cargs) :
    Calls P f cargs w fun e w' => ∃ v, e = .returned v ∧ ∃ x hp' nx' C' S', K x hp' nx' ∧ HSat hp' nx' C' S' w' ∧ VR w'.heap C' nx' x v ∧ Ext nx C C' S S' w w' ∧ nx ≤ nx' :=
  calls_of_sem (hc _ _) (h.out C S w cargs hs hv)

theorem LR.one {h : Array Obj} {C : Cx} {B : Nat} {x : V} {v : Value} (e : VR h C B x v) : LR h C B [x] #[v] := by
  refine ⟨rfl, fun i y u hy hu => ?_⟩
  cases i with
  | zero => simp at hy hu; subst hy; subst hu; exact e
  | succ i => simp at hy

theorem pre_cell {ty : TypeId} {pre : List V} {α : Type} {enc : α → V} {xs : List α} {nx : Nat} {C : Cx} {S : Nat → Prop} {w : World} (hs : HSat [(0, .arr ty pre enc xs)] nx C S w) {b : Nat} (hb : (C.N 0).blk = some b) {o : Nat} {k : IntKind} {n : Int} (ho : pre[o]? = some (.int k n)) :
    w.cell? ⟨b, o, none⟩ = some (.int k n) ∧ w.frozen? ⟨b, o, none⟩ = false := by
  obtain ⟨b', u, hb', hc, hz, hu⟩ := pre_get hs ho
  rw [hb] at hb'; cases hb'
  cases hu.int_of
  exact ⟨hc, hz⟩

theorem HSat.drew {hp : Hp} {nx : Nat} {C : Cx} {S : Nat → Prop} {w : World} (hs : HSat hp nx C S w) : HSat hp nx C S w.drew := ⟨hs.hr, hs.lt, hs.jlt, hs.jj⟩

theorem Ext.drew (ar : Nat) (C : Cx) (S : Nat → Prop) (w : World) : Ext ar C C S S w w.drew :=
  ⟨Nat.le_refl _, fun _ _ _ => rfl, fun _ h => .inl h, fun _ _ h => h, fun _ _ h => .inl h, fun _ _ => rfl, rfl, rfl, rfl⟩

set_option maxRecDepth 100000 in
theorem z_load0 (b o : Nat) (w : World) (hc : w.cell? ⟨b, o, none⟩ = some (.int .u32 0)) :
    Calls Try.prog 70 #[.pointer (some ⟨b, o, none⟩)] w fun e w' => e = .returned (.bool false) ∧ w' = w := by
  have hl := run_call_load (P := Try.prog) Try.func81 (by kernel_rfl) (by kernel_rfl) (by kernel_rfl) .u32 (by kernel_rfl) hc
  go_enter Try.func70, Try.ntmps70
  go_wp2
  all_goals go_ret
  all_goals exact ⟨rfl, rfl⟩

set_option maxRecDepth 100000 in
set_option maxHeartbeats 1600000 in
theorem slow_ob (m : Nat) (xs : List Nat) (hx : xs.length = 256) (K : Post) (hK : K (.tup []) (smH 1 0 1 crcTab) 1) : CallOb Try.prog 71 [.ptr 0 0, .func 44 [.ptr 0 0] []] (smH 0 0 m xs) 1 K := by
  constructor
  intro C S w cargs hs hv
  have hargs := args2 hv
  obtain ⟨v, u, ec, h1, h2⟩ := hargs
  subst ec
  obtain ⟨b, _, hb, _, _, _⟩ := pre_get hs (o := 0) rfl
  cases ptr_at hs hb h1
  obtain ⟨x, y, e, hx1, hy1⟩ := h2.func_inv
  subst e
  have hx1' := args1 hx1
  obtain ⟨v, ec, h3⟩ := hx1'
  subst ec
  cases ptr_at hs hb h3
  have hy0 : y = #[] := by
    have := hy1.1
    obtain ⟨l⟩ := y
    cases l with
    | nil => rfl
    | cons => simp at this
  subst hy0
  refine callSem_enter (Try.call71 _ _) ?_
  -- the lock
  obtain ⟨c1, f1⟩ := pre_cell hs hb (o := 1) rfl
  obtain ⟨s1, e1⟩ := pre_set hs hb (o := 1) (by simp) (k := .i32) (y := 1)
  obtain ⟨c2, f2⟩ := pre_cell s1 hb (o := 0) rfl
  generalize hw1 : w.setCell ⟨b, 1, none⟩ (.int .i32 1) = w1 at s1 e1 c2 f2
  have hl := run_call_load (P := Try.prog) Try.func81 (by kernel_rfl) (by kernel_rfl) (by kernel_rfl) .u32 (by kernel_rfl) c2
  have hmk := ob_calls (make_ob 0 1 m xs hx (fun v hp nx => v = .tup [] ∧ hp = smH 0 1 1 crcTab ∧ nx = 1) ⟨rfl, rfl, rfl⟩) Try.call44 s1 (LR.one (.ptr 0 0 b (by omega) hb))
  have hnot : ∀ (x : Bool) (w : World), (Op.unary .not (.bool x)).run Try.prog w = .ok (.bool (!x)) w := fun _ _ => rfl
  go_enter_defers Try.func71, Try.ntmps71
  go_wp2_with (go_at_call 82; refine (z_Lock ⟨b, 1, none⟩ _ rfl c1 f1).mono ?_; rintro e w' ⟨rfl, rfl⟩; rw [hw1])
  go_at_call 70
  refine (z_load0 b 0 _ c2).mono ?_
  rintro e w' ⟨rfl, rfl⟩
  go_wp2_with (go_at_call 44; refine hmk.mono ?_; rintro e w2 ⟨v, rfl, x2, hp2, nx2, C2, S2, ⟨rfl, rfl, rfl⟩, s2, v2, e2, _⟩)
  have hb2 : (C2.N 0).blk = some b := by rw [e2.names 0 (by omega)]; exact hb
  have hv2 : v = .tuple #[] := by
    obtain ⟨arr, rfl, hl⟩ := v2.tup_inv
    have := hl.1
    obtain ⟨l⟩ := arr
    cases l with
    | nil => rfl
    | cons => simp at this
  subst hv2
  have s2' := s2.drew
  obtain ⟨c3, f3⟩ := pre_cell s2 hb2 (o := 0) rfl
  obtain ⟨s3, e3⟩ := pre_set s2' hb2 (o := 0) (by simp) (k := .u32) (y := 1)
  obtain ⟨c4, f4⟩ := pre_cell s3 hb2 (o := 1) rfl
  obtain ⟨s4, e4⟩ := pre_set s3 hb2 (o := 1) (by simp) (k := .i32) (y := 0)
  refine leaves_cons (f := 72) (args := #[.pointer (some ⟨b, 0, none⟩), .bool true]) (by simp) (by simp [go_sem]) ?_
  refine (z_storeD ⟨b, 0, none⟩ (.int .u32 0) .returning _ rfl c3 f3).mono ?_
  rintro e u' w'' ⟨rfl, rfl, rfl⟩
  refine leaves_cons (f := 83) (args := #[.pointer (some ⟨b, 1, none⟩)]) (by simp [settle]) (by simp [go_sem]) ?_
  refine (z_unlockD ⟨b, 1, none⟩ _ _ rfl c4 f4).mono ?_
  rintro e u' w'' ⟨rfl, rfl, rfl⟩
  refine ⟨.tuple #[], ?_, .tuple #[], rfl, .tup [], smH 1 0 1 crcTab, 1, C2, S2, hK, s4, .tup [] _ (by simp) (fun i x v h => by simp at h), ((e1.trans e2).trans (Ext.drew _ _ _ _)).trans (e3.trans e4), Nat.le_refl _⟩
  simp [results, Try.results71]

end Go.Sx
end

section
open Go.Proofs
namespace Go.Sx
set_option linter.unusedVariables false

def zeros256 : List Nat := List.replicate 256 0
/-- a Summer, whose table is made, or isn't -/
abbrev smK (k : Bool) : Hp := smH k.toNat 0 k.toNat (if k then crcTab else zeros256)

set_option maxRecDepth 8000 in
theorem do_ob (k : Bool) (K : Post) (hK : K (.tup []) (smK true) 1) : CallOb Try.prog 43 [.ptr 0 0, .func 44 [.ptr 0 0] []] (smK k) 1 K := by
  refine contract TrytabOk Try.checked.mixed Try.func43 rfl Try.call43 [0] [] [] (res0 Try.results43) Try.ntmps43 rfl ?_
  cases k
  · conv => whnf
    refine call_rule [] ?_
    conv => whnf
    refine load_ob 0 0 0 zeros256 _ ?_
    conv => whnf
    refine call_rule [] ?_
    conv => whnf
    refine slow_ob 0 zeros256 (by simp [zeros256]) _ ?_
    conv => whnf
    exact ⟨_, _, _, leT_refl _, leH_refl _, Nat.le_refl _, hK⟩
  · conv => whnf
    refine call_rule [] ?_
    conv => whnf
    refine load_ob 1 0 1 crcTab _ ?_
    conv => whnf
    exact ⟨_, _, _, leT_refl _, leH_refl _, Nat.le_refl _, hK⟩

theorem xorOnes32 (a : Nat) (h : a < 2 ^ 32) : bitI .xor .u32 (if IntKind.u32.signed = true then -1 else IntKind.u32.max) (a : Int) = ((4294967295 - a : Nat) : Int) := by
  have e0 : (if IntKind.u32.signed = true then -1 else IntKind.u32.max : Int) = ((4294967295 : Nat) : Int) := by decide
  rw [e0, bitI_xor .u32 rfl _ _ (by decide) h]
  congr 1
  have e : (BitVec.allOnes 32 ^^^ BitVec.ofNat 32 a : BitVec 32) = ~~~(BitVec.ofNat 32 a) := by rw [BitVec.xor_comm]; exact BitVec.xor_allOnes
  have e2 := congrArg BitVec.toNat e
  rw [BitVec.toNat_xor, BitVec.toNat_not, BitVec.toNat_ofNat, Nat.mod_eq_of_lt (show a < 2 ^ 32 from h)] at e2
  exact e2

def crcUpd (c : Nat) (x : UInt8) : Nat := crcIt 8 ((c % 256) ^^^ x.toNat) ^^^ (c / 256)
def crcMore (c : Nat) (bs : List UInt8) : Nat := 4294967295 - bs.foldl crcUpd (4294967295 - c)

theorem crcUpd_lt {c : Nat} (h : c < 2 ^ 32) (x : UInt8) : crcUpd c x < 2 ^ 32 := by
  have hx : c % 256 ^^^ x.toNat < 2 ^ 8 := Nat.xor_lt_two_pow (by omega) (by have := x.toNat_lt; omega)
  exact Nat.xor_lt_two_pow (crcIt_lt (by omega) 8) (by omega)

theorem crcFold_lt : ∀ (bs : List UInt8) {c : Nat}, c < 2 ^ 32 → bs.foldl crcUpd c < 2 ^ 32
  | [], c, h => h
  | x :: l, c, h => crcFold_lt l (crcUpd_lt h x)

set_option maxRecDepth 8000 in
theorem more_ob (k p : Bool) (c : Nat) (hc : c < 2 ^ 32) (bs : List UInt8) (hl : bs.length ≤ 2 ^ 40) (K : Post) (hK : K (.int .u32 (crcMore c bs : Nat)) (smK true) 1) : CallOb Try.prog 31 [.ptr 0 0, .int .u32 (c : Int), .isl p 1 encB bs] (smK k) 1 K := by
  refine contract TrytabOk Try.checked.mixed Try.func31 rfl Try.call31 [0] [] [6] (res1 Try.results31) Try.ntmps31 rfl ?_
  conv => whnf
  refine call_rule [] ?_
  conv => whnf
  refine do_ob k _ ?_
  conv => whnf
  have hc2 : 4294967295 - c < 2 ^ 32 := by omega
  refine loop_rule TrytabOk Try.checked.mixed [0, 1, 17, 18, 19] [0] [] (T := { i : Nat // i ≤ bs.length }) (fun x => [.ptr 0 0, .int .u32 ((bs.take x.1).foldl crcUpd (4294967295 - c) : Nat), .isl p 1 encB bs, .int .i64 (bs.length : Int), .int .i64 (x.1 : Int)])
    (fun x => smK true) 1 (fun x => bs.length - x.1) ⟨0, by omega⟩ rfl rfl ?_ ?_
  · conv => whnf
    refine ⟨⟨leT_refl _, ⟨rfl, ?_⟩, leT_refl _, leT_refl _, leT_refl _, trivial⟩, leH_refl _, Nat.le_refl _⟩
    exact xorOnes32 c hc
  · rintro ⟨i, hi⟩
    have hf := crcFold_lt (bs.take i) hc2
    conv => whnf
    refine br_dec (fun hlt => ?_) (fun hlt => ?_)
    · have hlt : i < bs.length := by simp only at hlt; omega
      conv => whnf
      refine ⟨⟨by simp only; omega, by simp only; omega⟩, ?_⟩
      intro x hxi
      have hxi' : bs[i]? = some x := by simpa using hxi
      have hstep := foldl_take_succ crcUpd (4294967295 - c) hxi'
      generalize hgen : (bs.take i).foldl crcUpd (4294967295 - c) = y at hf hstep
      simp only [hgen]
      have hx2 := x.toNat_lt
      have e3 : bitI BinOp.xor IntKind.u8 (IntKind.u8.wrap (y : Int)) (x.toNat : Int) = ((y % 256 ^^^ x.toNat : Nat) : Int) := by
        rw [wrapU8, bitI_xor .u8 rfl (y % 256) x.toNat (by show y % 256 < 256; omega) (by show x.toNat < 256; omega)]
      have hlt8 : y % 256 ^^^ x.toNat < 256 := Nat.xor_lt_two_pow (n := 8) (Nat.mod_lt _ (by decide)) (by omega)
      conv => whnf
      rw [e3]
      refine ⟨⟨by omega, by omega⟩, ?_⟩
      conv => whnf
      refine ⟨y % 256 ^^^ x.toNat, ?_, ?_⟩
      · show (↑(y % 256 ^^^ x.toNat) : Int).toNat * 1 + (0 + 4) = 4 + _
        simp; omega
      · refine ⟨by rw [if_pos rfl, crcTab_len]; exact hlt8, ?_⟩
        intro z hz
        rw [if_pos rfl, crcTab_at hlt8] at hz
        cases hz
        conv => whnf
        refine ⟨by decide, ?_⟩
        conv => whnf
        have e4 : ((2 : Int) ^ min (Int.toNat 8) IntKind.u32.bits) = ((256 : Nat) : Int) := by decide
        refine ⟨⟨i + 1, by omega⟩, ?_, ⟨leT_refl _, ⟨rfl, ?_⟩, leT_refl _, leT_refl _, ⟨rfl, wrapI64' (m := i + 1) (by omega)⟩, trivial⟩, leH_refl _, Nat.le_refl _⟩
        · show bs.length - (i + 1) < bs.length - i; omega
        · rw [e4, fdivNat, bitI_xor .u32 rfl _ _ (crcIt_lt (by omega) 8) (Nat.lt_of_le_of_lt (Nat.div_le_self _ _) hf), hstep]
          rfl
    · have hi' : bs.take i = bs := List.take_of_length_le (by simp only at hlt; omega)
      conv => whnf
      refine ⟨_, _, _, ?_, leH_refl _, Nat.le_refl _, hK⟩
      refine ⟨rfl, ?_⟩
      rw [xorOnes32 _ hf, hi']
      rfl

theorem of_ob (k p : Bool) (bs : List UInt8) (hl : bs.length ≤ 2 ^ 40) (K : Post) (hK : K (.int .u32 (crcMore 0 bs : Nat)) (smK true) 1) : CallOb Try.prog 17 [.ptr 0 0, .isl p 1 encB bs] (smK k) 1 K := by
  refine contract TrytabOk Try.checked.mixed Try.func17 rfl Try.call17 [0] [] [4] (res1 Try.results17) Try.ntmps17 rfl ?_
  conv => whnf
  refine call_rule [] ?_
  conv => whnf
  refine more_ob k p 0 (by decide) bs hl _ ?_
  conv => whnf
  exact ⟨_, _, _, leT_refl _, leH_refl _, Nat.le_refl _, hK⟩

set_option maxRecDepth 20000 in
theorem crcNew_ob (K : Post) (hK : K (.ptr 0 0) (smK false) 1) : CallOb Try.prog 12 [] [] 0 K := by
  refine contract TrytabOk Try.checked.mixed Try.func12 rfl Try.call12 [] [.arr 0 4 encU32 zeros256] [0] (res1 Try.results12) Try.ntmps12 rfl ?_
  conv => whnf
  refine ⟨⟨?_, ?_, ?_⟩, ?_⟩
  · rfl
  · exact Nat.le_of_ble_eq_true rfl
  · intro x hx
    exact ⟨rfl, rfl⟩
  · conv => whnf
    exact ⟨_, _, _, leT_refl _, leH_refl _, Nat.le_refl _, hK⟩

end Go.Sx
end

section
namespace Go.Sx

theorem xor_mod2 (a b : Nat) : (a ^^^ b) % 2 = (a % 2 + b % 2) % 2 := by
  have h := Nat.testBit_xor a b 0
  simp only [Nat.testBit_zero] at h
  rcases Nat.mod_two_eq_zero_or_one a with ha | ha <;> rcases Nat.mod_two_eq_zero_or_one b with hb | hb <;> rcases Nat.mod_two_eq_zero_or_one (a ^^^ b) with hc | hc <;> simp [ha, hb, hc] at h ⊢

theorem xor_div2 (a b : Nat) : (a ^^^ b) / 2 = a / 2 ^^^ b / 2 := by
  apply Nat.eq_of_testBit_eq
  intro i
  simp [Nat.testBit_div_two]

theorem crcStep_xor (a b : Nat) : crcStep (a ^^^ b) = crcStep a ^^^ crcStep b := by
  unfold crcStep
  rw [xor_div2]
  have h := xor_mod2 a b
  rcases Nat.mod_two_eq_zero_or_one a with ha | ha <;> rcases Nat.mod_two_eq_zero_or_one b with hb | hb <;> simp [ha, hb, h]
  · apply Nat.eq_of_testBit_eq; intro i; simp only [Nat.testBit_xor]; cases (a / 2).testBit i <;> cases (b / 2).testBit i <;> cases Nat.testBit 3988292384 i <;> rfl
  · apply Nat.eq_of_testBit_eq; intro i; simp only [Nat.testBit_xor]; cases (a / 2).testBit i <;> cases (b / 2).testBit i <;> cases Nat.testBit 3988292384 i <;> rfl
  · apply Nat.eq_of_testBit_eq; intro i; simp only [Nat.testBit_xor]; cases (a / 2).testBit i <;> cases (b / 2).testBit i <;> cases Nat.testBit 3988292384 i <;> rfl

theorem crcIt_xor (a b : Nat) : ∀ k, crcIt k (a ^^^ b) = crcIt k a ^^^ crcIt k b
  | 0 => rfl
  | k + 1 => by simp only [crcIt, crcIt_xor a b k, crcStep_xor]

theorem crcIt_shift (h : Nat) : crcIt 8 (h * 256) = h := by
  simp only [crcIt]
  have s : ∀ n, crcStep (n * 2) = n := fun n => by
    unfold crcStep
    rw [if_neg (by omega)]
    omega
  rw [show h * 256 = ((((((((h * 2) * 2) * 2) * 2) * 2) * 2) * 2) * 2) by omega]
  simp only [s]

theorem split_byte (c : Nat) : c = (c % 256) ^^^ (c / 256 * 256) := by
  apply Nat.eq_of_testBit_eq
  intro i
  have e : c / 256 * 256 = (c >>> 8) <<< 8 := by rw [Nat.shiftLeft_eq, Nat.shiftRight_eq_div_pow]
  rw [Nat.testBit_xor, e, show (256 : Nat) = 2 ^ 8 from rfl, Nat.testBit_mod_two_pow, Nat.testBit_shiftLeft, Nat.testBit_shiftRight]
  by_cases h : i < 8
  · have : ¬ 8 ≤ i := by omega
    simp [h, this]
  · have h8 : 8 ≤ i := by omega
    have h9 : 8 + (i - 8) = i := by omega
    simp [h, h8, h9]

def bitUpd (c : Nat) (x : UInt8) : Nat := crcIt 8 (c ^^^ x.toNat)

theorem bitUpd_eq (c : Nat) (x : UInt8) : bitUpd c x = crcUpd c x := by
  unfold bitUpd crcUpd
  conv => lhs; rw [split_byte c]
  rw [Nat.xor_assoc, Nat.xor_comm (c / 256 * 256), ← Nat.xor_assoc, crcIt_xor, crcIt_shift]

end Go.Sx
end

section
open Go.Proofs
namespace Go.Sx
set_option linter.unusedVariables false

def be32 (s : Nat) : List UInt8 := [UInt8.ofNat (s / 16777216), UInt8.ofNat (s / 65536), UInt8.ofNat (s / 256), UInt8.ofNat s]
def frHead (k : Nat) (m : List UInt8) : List UInt8 := [76, 68, 1, UInt8.ofNat k] ++ vput m.length ++ m
def frBytes (k : Nat) (m : List UInt8) : List UInt8 := frHead k m ++ be32 (crcMore 0 (frHead k m))

theorem crcMore_lt (c : Nat) (bs : List UInt8) : crcMore c bs < 2 ^ 32 := by unfold crcMore; omega

theorem encB_u8 (n : Nat) : encB (UInt8.ofNat n) = .int .u8 ((n % 256 : Nat) : Int) := by
  simp [encB]

theorem build4 {te : Nat} {α : Type} {enc : α → V} {v0 v1 v2 v3 : V} (x0 x1 x2 x3 : α) (h1 : ∀ x, (enc x).cells.length = te) (h2 : ∀ x, V.known (enc x) = true) (h3 : ∀ x, V.isImm (enc x) = true) (e0 : v0 = enc x0) (e1 : v1 = enc x1) (e2 : v2 = enc x2) (e3 : v3 = enc x3) :
    ∀ (i : Nat) x, [x0, x1, x2, x3][i]? = some x → ([(0, v0), (1, v1), (2, v2), (3, v3)][i]?).map (·.1) = some i ∧ (enc x).cells.length = te ∧ V.known (enc x) = true ∧ V.isImm (enc x) = true ∧ leP ([(0, v0), (1, v1), (2, v2), (3, v3)][i]?) (enc x) := by
  subst e0; subst e1; subst e2; subst e3
  exact build_all [x0, x1, x2, x3] rfl h1 h2 h3

theorem shB (S d : Nat) (k : Int) (h : ((2 : Int) ^ min (Int.toNat k) IntKind.u32.bits) = (d : Int)) : V.int .u8 (IntKind.u8.wrap ((S : Int).fdiv (2 ^ min (Int.toNat k) IntKind.u32.bits))) = encB (UInt8.ofNat (S / d)) := by
  rw [h, fdivNat, wrapU8, encB_u8]

theorem permSm (k : Bool) : permH (smK k) := ⟨trivial, fun x _ => .flat _ rfl, trivial⟩

set_option maxRecDepth 8000 in
theorem fencode_ob (m : Msg) (hm : m.Ok) (K : Post) (h1 : mPut m = none → K (.tup [.nils, .int .i64 62]) [] 0) (h2 : ∀ bs, mPut m = some bs → 4096 < bs.length → K (.tup [.nils, .int .i64 72]) [] 0)
    (h3 : ∀ bs, mPut m = some bs → bs.length ≤ 4096 → K (.tup [.vec 0, .int .i64 0]) [(0, .row 5 1 encB (frBytes m.kind bs))] 1) : CallOb Try.prog 7 [.agg m.cells] [] 0 K := by
  refine contract TrytabOk Try.checked.mixed Try.func7 rfl Try.call7 [] [] [2, 3] (res2 Try.results7) Try.ntmps7 rfl ?_
  conv => whnf
  refine call_rule [] ?_
  conv => whnf
  refine mput_ob m hm _ (fun hn => ?_) (fun bs hs hl => ?_)
  · conv => whnf
    exact ⟨_, _, _, leT_refl _, leH_refl _, Nat.le_refl _, h1 hn⟩
  · conv => whnf
    refine br_dec (fun hb => ?_) (fun hb => ?_)
    · conv => whnf
      exact ⟨_, _, _, leT_refl _, leH_refl _, Nat.le_refl _, h2 bs hs (by omega)⟩
    · have hb : bs.length ≤ 4096 := by omega
      have hv := vput_len10 (n := bs.length) (by omega)
      have hk := hm.kind
      conv => whnf
      have hb4 : ([76, 68, 1, UInt8.ofNat m.kind] : List UInt8).length = 4 := rfl
      repeat' first
        | (refine ⟨?_, trivial⟩; conv => whnf)
        | (refine ⟨?_, ?_, trivial⟩ <;> conv => whnf)
        | (refine ⟨UInt8, encB, [76, 68, 1, UInt8.ofNat m.kind], rfl, build4 76 68 1 (UInt8.ofNat m.kind) (fun _ => rfl) (fun _ => rfl) (fun _ => rfl) rfl rfl rfl (by rw [encB_u8, Nat.mod_eq_of_lt hk]; rfl), ?_⟩; conv => whnf)
        | (refine call_rule [] ?_
           conv => whnf
           rw [wrapU64' (by omega)]
           refine put_ob bs.length (by omega) _ ?_
           conv => whnf)
        | (refine ⟨vput bs.length, rfl, ?_, ?_⟩
           · show (4 + (vput bs.length).length) * 1 ≤ _; omega
           conv => whnf)
        | fail
      all_goals refine ⟨bs, rfl, ?_, ?_⟩
      all_goals try (show (([76, 68, 1, UInt8.ofNat m.kind] ++ vput bs.length).length + bs.length) * 1 ≤ _; rw [List.length_append, hb4]; omega)
      all_goals conv => whnf
      all_goals refine call_rule [] ?_
      all_goals conv => whnf
      all_goals refine crcNew_ob _ ?_
      all_goals conv => whnf
      all_goals refine call_rule [true, false] ?_
      all_goals conv => whnf
      all_goals refine of_ob false false (frHead m.kind bs) (by simp [frHead]; omega) _ ?_
      all_goals conv => whnf
      all_goals refine ⟨trivial, permSm true, ?_⟩
      all_goals conv => whnf
      all_goals refine ⟨by decide, ?_⟩
      all_goals conv => whnf
      all_goals refine ⟨by decide, ?_⟩
      all_goals conv => whnf
      all_goals refine ⟨by decide, ?_⟩
      all_goals conv => whnf
      all_goals generalize hS : crcMore 0 (frHead m.kind bs) = S
      all_goals refine ⟨UInt8, encB, be32 S, rfl, build4 (UInt8.ofNat (S / 16777216)) (UInt8.ofNat (S / 65536)) (UInt8.ofNat (S / 256)) (UInt8.ofNat S) (fun _ => rfl) (fun _ => rfl) (fun _ => rfl) (shB S 16777216 24 (by decide)) (shB S 65536 16 (by decide)) (shB S 256 8 (by decide)) (by rw [encB_u8, ← wrapU8]; rfl), ?_⟩
      all_goals conv => whnf
      all_goals refine ⟨be32 S, rfl, ?_, ?_⟩
      all_goals try (show ((([76, 68, 1, UInt8.ofNat m.kind] ++ vput bs.length ++ bs)).length + 4) * 1 ≤ _; rw [List.length_append, List.length_append, hb4]; omega)
      all_goals conv => whnf
      all_goals subst hS
      all_goals exact ⟨_, _, _, leT_refl _, leH_refl _, Nat.le_refl _, h3 bs hs hb⟩

end Go.Sx
end

section
open Go.Proofs
namespace Go.Sx
set_option linter.unusedVariables false

theorem xorConst32 (a : Nat) (h : a < 2 ^ 32) : bitI .xor .u32 (a : Int) 4294967295 = ((4294967295 - a : Nat) : Int) := by
  have := xorOnes32 a h
  rw [show (if IntKind.u32.signed = true then -1 else IntKind.u32.max : Int) = ((4294967295 : Nat) : Int) by decide, bitI_xor .u32 rfl _ _ (by decide) h, Nat.xor_comm] at this
  rw [show (4294967295 : Int) = ((4294967295 : Nat) : Int) from rfl, bitI_xor .u32 rfl _ _ h (by decide)]
  exact this

theorem shQ (S d : Nat) : V.int .u8 (IntKind.u8.wrap ((S : Int).tdiv (d : Int))) = encB (UInt8.ofNat (S / d)) := by
  rw [tdivNat, wrapU8, encB_u8]

end Go.Sx
end

section
open Go.Proofs
namespace Go.Sx
set_option linter.unusedVariables false

abbrev Alive : Prop := ∀ K : Post, K (.bool true) [] 0 → CallOb Try.prog 4 [] [] 0 K

end Go.Sx
end
